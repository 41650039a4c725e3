/-
 ModelMatches. Conditions: none; every contract names its own.
-/
import Derived.Test.YtjoaigccapegpaaOLw34e
set_option linter.constructorNameAsVariable false
namespace Go.Proofs.Ytjoaigccapegpaa.AE
open Go Go.Proofs Go.RowKit
set_option linter.unusedVariables false
set_option linter.unusedSimpArgs false
set_option maxRecDepth 100000
set_option maxHeartbeats 4000000
def lateR (q:Req):Bool:=decide (q.what.kind < 7) || decide (11 < q.what.kind)
def fndR (W:List Req) (q:Req):Bool:=lateR q || W.any (sameW q)
theorem fndR_eq (W:List Req) (q:Req):fndR W q=!offR W q:=by
 have h:lateR q=!thenB q.what:=by
  rw [Bool.eq_iff_iff]
  simp [lateR,thenB]
 unfold fndR offR
 rw [h]
 cases thenB q.what <;> cases W.any (sameW q) <;> rfl
theorem all_fnd (W:List Req) (l:List Req):l.all (fndR W)=!(l.any (offR W)):=by
 induction l with
 | nil=>rfl
 | cons x r ih=>
  simp only [List.all_cons,List.any_cons,ih,fndR_eq]
  cases offR W x <;> simp
def matchI (A:List Req) (M:List Chg) (W pre _post:List Req):St:=⟨ofL [(0,.sl 9 (rows cReq A)),(1,.sl 9 (rows cChg M)),(5,.sl 9 (rows cReq W)),(6,.bool (pre.all (fndR W))),(7,.int .i64 pre.length)],hOf []⟩
def matchJ (A:List Req) (M:List Chg) (W:List Req) (b:Bool) (i:Nat) (q:Req) (_W pre _post:List Req):St:=⟨ofL [(0,.sl 9 (rows cReq A)),(1,.sl 9 (rows cChg M)),(5,.sl 9 (rows cReq W)),(6,.bool b),(7,.int .i64 i),(8,.bool (lateR q || pre.any (sameW q))),(9,.int .i64 pre.length)],hOf []⟩
structure modelMatchesX where
 a:List Req
 a':AV
 L:List Chg
 L':AV
 h_a:SlA 9 cReq a a'
 h_L:SlA 9 cChg L L'
noncomputable def modelMatchesS:HSpec:=mkH (ι:=modelMatchesX) (fun ⟨a,a',L,L',h_a,h_L⟩=>([a',L'],[])) fun ⟨a,a',L,L',h_a,h_L⟩=>⟨.bool true,[],[]⟩
theorem modelMatchesS_atG (a:List Req) (a':AV) (L:List Chg) (L':AV) (h_a:SlA 9 cReq a a') (h_L:SlA 9 cChg L L'):modelMatchesS [a',L'] []=some (⟨.bool true,[],[]⟩):=
 mA_ (ι:=modelMatchesX) (fun i j h=>by obtain ⟨a,a',L,L',h_a,h_L⟩:=i; obtain ⟨a2,a'2,L2,L'2,h_a2,h_L2⟩:=j; simp [and_assoc,qB_,qI_,qO_,qC_,qE_,qK_,qR_,qV_,qP_,qOc_] at h; obtain ⟨rfl,rfl⟩:=h; obtain rfl:=SlA.inj (fun x y h=>cReq_inj h) h_a h_a2; obtain rfl:=SlA.inj (fun x y h=>cChg_inj h) h_L h_L2; rfl) ⟨a,a',L,L',h_a,h_L⟩
theorem modelMatchesS_at (a:List Req) (L:List Chg):modelMatchesS [(.sl 9 (rows cReq a)),(.sl 9 (rows cChg L))] []=some (⟨.bool true,[],[]⟩):=modelMatchesS_atG a _ L _ .sl .sl
theorem modelMatches_ok:HSound Try.prog 5 modelMatchesS:=by
 refine sE_ (fn:=Try.f5) rfl rfl (by kernel_rfl) fun args bx hr hS=>?_
 obtain ⟨⟨a,a',L,L',h_a,h_L⟩,rfl,rfl,rfl⟩:=mO_ hS
 clear hS
 refine ⟨_,(eV_ (g:=16) (by kernel_rfl) alive34_ok (eV_ (g:=17) (by kernel_rfl) few34_ok (eV_ (g:=21) (by kernel_rfl) expR_ok (eV_ (g:=26) (by kernel_rfl) mat_ok (eV_ (g:=23) (by kernel_rfl) netR_ok (eV_ (g:=19) (by kernel_rfl) plReq_ok (eV_ (g:=27) (by kernel_rfl) alw_ok (eN_ _)))))))),by simp [Try.f5],by simp [go_sem],fun w Mx pin=>?_⟩
 simp only [hB_at,lab_nil,lab_cons,hOf_nil,hOf_cons]
 refine aW_ (s':=⟨ofL [(0,(.sl 9 (rows cReq a))),(1,(.sl 9 (rows cChg L)))],hOf []⟩) ?_ ?_
 · cases h_a <;> cases h_L <;> exact wO_ [] (by simp [go_sem]) (by simp [go_sem]) (by simp [go_sem])
 clear h_a h_L
 obtain ⟨A,hA⟩:∃ A,A=a.take 60:=⟨_,rfl⟩
 have hAl:A.length<=60:=by rw [hA]; simp; omega
 obtain ⟨M,hM⟩:∃ M,M=L.take 50:=⟨_,rfl⟩
 have hMl:M.length<=50:=by rw [hM]; simp; omega
 obtain ⟨W,hW⟩:∃ W,W=ordL ordReq (expL M):=⟨_,rfl⟩
 have hWl:W.length<=400:=by rw [hW,ordL_len]; have:=expL_len M; omega
 have he:=expRS_at M (by omega)
 rw [<-hW] at he
 have eA:A.length<=100000:=by omega
 have eW:W.length<=100000:=by omega
 have hN:=netR_len A []
 have hN2:(netL A).length<=A.length:=by simpa [netL] using hN
 have hw2:=ordL_len (p:=ordReq) (netL A)
 have hm:=matS_at A M ⟨by omega,by omega⟩
 have ha:=alwS_at A M ⟨by omega,by omega⟩
 rw [<-hW] at hm ha
 refine aQ_ ?_
 iterate 1
  refine oC_ fun J hJ=>?_
  simp [go_sem]
  refine hJ _ _ _ ?_
 refine oN_ ?_
 refine aS_ fun K2 hK2=>?_
 refine aQ_ ?_
 iterate 2
  refine oC_ fun J hJ=>?_
  simp [go_sem,alive34S_at]
  refine hJ _ _ _ ?_
 refine oN_ ?_
 refine aF_ rfl ?_
 refine aK_ ?_
 refine hK2 _ ?_
 refine aQ_ ?_
 iterate 8
  refine oC_ fun J hJ=>?_
  simp [go_sem,few34S_at a L,<-hA,<-hM]
  refine hJ _ _ _ ?_
 refine oN_ ?_
 refine aQ_ ?_
 iterate 3
  refine oC_ fun J hJ=>?_
  simp [go_sem,↓he]
  refine hJ _ _ _ ?_
 refine oN_ ?_
 refine aQ_ ?_
 iterate 1
  refine oC_ fun J hJ=>?_
  simp [go_sem]
  refine hJ _ _ _ ?_
 refine oN_ ?_
 refine aS_ fun K9 hK9=>?_
 refine aQ_ ?_
 iterate 1
  refine oC_ fun J hJ=>?_
  simp [go_sem]
  refine hJ _ _ _ ?_
 refine oN_ ?_
 refine aB_ ?_
 refine aL_ (ι:={ q:List Req × List Req // q.1++q.2=A/\True }) (fun q=>matchI A M W q.1.1 q.1.2) (fun q=>q.1.2.length) ⟨([],A),rfl,trivial⟩ ?_ ?_
 · refine wO_ [] (by simp [go_sem]) ?_ ?_ <;> simp [go_sem]
 intro ⟨⟨pre,post⟩,hl,hgo⟩
 simp only at hl hgo
 have hpl:=lS_ hl eA
 simp only [matchI]
 refine aS_ fun K11 hK11=>?_
 refine aQ_ ?_
 iterate 4
  refine oC_ fun J hJ=>?_
  simp [go_sem]
  refine hJ _ _ _ ?_
 refine oN_ ?_
 refine aC_ (t:=_) rfl (fun c13=>?_) (fun c13=>?_)
 ·
  simp [go_sem] at c13
  obtain ⟨x,post,rfl,hx⟩:=mL_ hl c13
  obtain ⟨i,hi⟩:∃ i,i=pre.length:=⟨_,rfl⟩
  obtain ⟨b,hb⟩:∃ b,b=pre.all (fndR W):=⟨_,rfl⟩
  rw [<-hi] at hx
  have hwi:=wN_ (n:=i) (by omega)
  simp only [<-hi,<-hb]
  have hil:i < A.length:=by rw [hi]; exact c13
  refine aK_ ?_
  refine hK11 _ ?_
  refine aS_ fun K14 hK14=>?_
  refine aB_ ?_
  refine aS_ fun K15 hK15=>?_
  rcases (show x.what.kind < 7\/¬ x.what.kind < 7 by omega) with h1 | h1
  ·
   have hlt:lateR x=true:=by simp [lateR,h1]
   refine aR_ ?_
   iterate 17
    refine oC_ fun J hJ=>?_
    simp [go_sem,hx,h1]
    refine hJ _ _ _ ?_
   refine oN_ ?_
   refine hK15 _ ?_
   refine aS_ fun K16 hK16=>?_
   refine aQ_ ?_
   iterate 1
    refine oC_ fun J hJ=>?_
    simp [go_sem]
    refine hJ _ _ _ ?_
   refine oN_ ?_
   refine aB_ ?_
   refine aL_ (ι:={ q:List Req × List Req // q.1++q.2=W/\True }) (fun q=>matchJ A M W b i x W q.1.1 q.1.2) (fun q=>q.1.2.length) ⟨([],W),rfl,trivial⟩ ?_ ?_
   · refine wO_ [] (by simp [go_sem]) ?_ ?_ <;> simp [go_sem,hlt]
   intro ⟨⟨pre2,post2⟩,hl2,hgo2⟩
   simp only at hl2 hgo2
   have hpl2:=lS_ hl2 eW
   simp only [matchJ]
   refine aS_ fun K18 hK18=>?_
   refine aQ_ ?_
   iterate 4
    refine oC_ fun J hJ=>?_
    simp [go_sem]
    refine hJ _ _ _ ?_
   refine oN_ ?_
   refine aC_ (t:=_) rfl (fun c20=>?_) (fun c20=>?_)
   ·
    simp [go_sem] at c20
    obtain ⟨z,post2,rfl,hz⟩:=mL_ hl2 c20
    obtain ⟨d,hd0⟩:∃ d,d=(lateR x || pre2.any (sameW x)):=⟨_,rfl⟩
    have hnx:(lateR x || (pre2++[z]).any (sameW x))=(d || sameW x z):=by rw [List.any_append,<-Bool.or_assoc,<-hd0]; simp
    simp only [<-hd0]
    refine aK_ ?_
    refine hK18 _ ?_
    refine aS_ fun K21 hK21=>?_
    refine aB_ ?_
    rcases (show d=true\/(d=false/\(z.key.id == x.key.id)=false)\/(d=false/\(z.key.id == x.key.id)=true) by cases d <;> cases (z.key.id == x.key.id) <;> simp) with hd | ⟨hd,h1⟩ | ⟨hd,h1⟩
    ·
     have hs:(d || sameW x z)=true:=by simp [hd]
     refine aD_ ?_
     iterate 30
      refine oC_ fun J hJ=>?_
      simp [go_sem,hd,hz,hx]
      refine hJ _ _ _ ?_
     refine oN_ ?_
     refine ⟨rfl,?_⟩
     refine hK21 _ ?_
     refine aR_ ?_
     iterate 3
      refine oC_ fun J hJ=>?_
      simp [go_sem]
      refine hJ _ _ _ ?_
     refine oN_ ?_
     refine ⟨⟨(pre2++[z],post2),by simp [<-hl2],by exact trivial⟩,?_,by simp⟩
     refine wO_ [] (by simp [go_sem]) ?_ ?_ <;> simp [go_sem,wN_ hpl2,↓hnx,hs]
    ·
     have hs:(d || sameW x z)=false:=by have h2:=h1; simp only [beq_eq_false_iff_ne] at h2; simp [hd,sameW,h2]
     have h3:¬ z.key.id=x.key.id:=by simpa using h1
     refine aD_ ?_
     iterate 30
      refine oC_ fun J hJ=>?_
      simp [go_sem,hd,hz,hx,h1,h3]
      refine hJ _ _ _ ?_
     refine oN_ ?_
     refine ⟨rfl,?_⟩
     refine hK21 _ ?_
     refine aR_ ?_
     iterate 3
      refine oC_ fun J hJ=>?_
      simp [go_sem]
      refine hJ _ _ _ ?_
     refine oN_ ?_
     refine ⟨⟨(pre2++[z],post2),by simp [<-hl2],by exact trivial⟩,?_,by simp⟩
     refine wO_ [] (by simp [go_sem]) ?_ ?_ <;> simp [go_sem,wN_ hpl2,↓hnx,hs]
    ·
     have h3:z.key.id=x.key.id:=by simpa using h1
     have hs:(d || sameW x z)=decide (z.what=x.what):=by simp [hd,sameW,h3]
     refine aD_ ?_
     iterate 30
      refine oC_ fun J hJ=>?_
      simp [go_sem,hd,hz,hx,h1,h3]
      refine hJ _ _ _ ?_
     refine oN_ ?_
     refine ⟨rfl,?_⟩
     refine hK21 _ ?_
     refine aR_ ?_
     iterate 3
      refine oC_ fun J hJ=>?_
      simp [go_sem]
      refine hJ _ _ _ ?_
     refine oN_ ?_
     refine ⟨⟨(pre2++[z],post2),by simp [<-hl2],by exact trivial⟩,?_,by simp⟩
     refine wO_ [] (by simp [go_sem]) ?_ ?_ <;> simp [go_sem,wN_ hpl2,↓hnx,hs]
   ·
    simp [go_sem] at c20
    obtain ⟨rfl,rfl⟩:=mN_ hl2 c20
    have hall:(pre++[x]).all (fndR W)=(b && fndR W x):=by rw [List.all_append,<-hb]; simp
    have hfn:(lateR x || W.any (sameW x))=fndR W x:=rfl
    refine aX_ ?_
    simp only [go_sem]
    refine hK16 _ ?_
    cases b
    all_goals
     refine aR_ ?_
     iterate 5
      refine oC_ fun J hJ=>?_
      simp [go_sem,hfn]
      refine hJ _ _ _ ?_
     refine oN_ ?_
     refine hK14 _ ?_
     refine aR_ ?_
     iterate 3
      refine oC_ fun J hJ=>?_
      simp [go_sem,hwi]
      refine hJ _ _ _ ?_
     refine oN_ ?_
     refine ⟨⟨(pre++[x],post),by simp [<-hl],by exact trivial⟩,?_,by simp⟩
     refine wO_ [] (by simp [go_sem]) ?_ ?_ <;> simp [go_sem,wN_ hpl,hall,hi]
  ·
   have hlt:lateR x=decide (11 < x.what.kind):=by simp [lateR,h1]
   refine aR_ ?_
   iterate 17
    refine oC_ fun J hJ=>?_
    simp [go_sem,hx,h1]
    refine hJ _ _ _ ?_
   refine oN_ ?_
   refine hK15 _ ?_
   refine aS_ fun K16 hK16=>?_
   refine aQ_ ?_
   iterate 1
    refine oC_ fun J hJ=>?_
    simp [go_sem]
    refine hJ _ _ _ ?_
   refine oN_ ?_
   refine aB_ ?_
   refine aL_ (ι:={ q:List Req × List Req // q.1++q.2=W/\True }) (fun q=>matchJ A M W b i x W q.1.1 q.1.2) (fun q=>q.1.2.length) ⟨([],W),rfl,trivial⟩ ?_ ?_
   · refine wO_ [] (by simp [go_sem]) ?_ ?_ <;> simp [go_sem,hlt]
   intro ⟨⟨pre2,post2⟩,hl2,hgo2⟩
   simp only at hl2 hgo2
   have hpl2:=lS_ hl2 eW
   simp only [matchJ]
   refine aS_ fun K18 hK18=>?_
   refine aQ_ ?_
   iterate 4
    refine oC_ fun J hJ=>?_
    simp [go_sem]
    refine hJ _ _ _ ?_
   refine oN_ ?_
   refine aC_ (t:=_) rfl (fun c20=>?_) (fun c20=>?_)
   ·
    simp [go_sem] at c20
    obtain ⟨z,post2,rfl,hz⟩:=mL_ hl2 c20
    obtain ⟨d,hd0⟩:∃ d,d=(lateR x || pre2.any (sameW x)):=⟨_,rfl⟩
    have hnx:(lateR x || (pre2++[z]).any (sameW x))=(d || sameW x z):=by rw [List.any_append,<-Bool.or_assoc,<-hd0]; simp
    simp only [<-hd0]
    refine aK_ ?_
    refine hK18 _ ?_
    refine aS_ fun K21 hK21=>?_
    refine aB_ ?_
    rcases (show d=true\/(d=false/\(z.key.id == x.key.id)=false)\/(d=false/\(z.key.id == x.key.id)=true) by cases d <;> cases (z.key.id == x.key.id) <;> simp) with hd | ⟨hd,h1⟩ | ⟨hd,h1⟩
    ·
     have hs:(d || sameW x z)=true:=by simp [hd]
     refine aD_ ?_
     iterate 30
      refine oC_ fun J hJ=>?_
      simp [go_sem,hd,hz,hx]
      refine hJ _ _ _ ?_
     refine oN_ ?_
     refine ⟨rfl,?_⟩
     refine hK21 _ ?_
     refine aR_ ?_
     iterate 3
      refine oC_ fun J hJ=>?_
      simp [go_sem]
      refine hJ _ _ _ ?_
     refine oN_ ?_
     refine ⟨⟨(pre2++[z],post2),by simp [<-hl2],by exact trivial⟩,?_,by simp⟩
     refine wO_ [] (by simp [go_sem]) ?_ ?_ <;> simp [go_sem,wN_ hpl2,↓hnx,hs]
    ·
     have hs:(d || sameW x z)=false:=by have h2:=h1; simp only [beq_eq_false_iff_ne] at h2; simp [hd,sameW,h2]
     have h3:¬ z.key.id=x.key.id:=by simpa using h1
     refine aD_ ?_
     iterate 30
      refine oC_ fun J hJ=>?_
      simp [go_sem,hd,hz,hx,h1,h3]
      refine hJ _ _ _ ?_
     refine oN_ ?_
     refine ⟨rfl,?_⟩
     refine hK21 _ ?_
     refine aR_ ?_
     iterate 3
      refine oC_ fun J hJ=>?_
      simp [go_sem]
      refine hJ _ _ _ ?_
     refine oN_ ?_
     refine ⟨⟨(pre2++[z],post2),by simp [<-hl2],by exact trivial⟩,?_,by simp⟩
     refine wO_ [] (by simp [go_sem]) ?_ ?_ <;> simp [go_sem,wN_ hpl2,↓hnx,hs]
    ·
     have h3:z.key.id=x.key.id:=by simpa using h1
     have hs:(d || sameW x z)=decide (z.what=x.what):=by simp [hd,sameW,h3]
     refine aD_ ?_
     iterate 30
      refine oC_ fun J hJ=>?_
      simp [go_sem,hd,hz,hx,h1,h3]
      refine hJ _ _ _ ?_
     refine oN_ ?_
     refine ⟨rfl,?_⟩
     refine hK21 _ ?_
     refine aR_ ?_
     iterate 3
      refine oC_ fun J hJ=>?_
      simp [go_sem]
      refine hJ _ _ _ ?_
     refine oN_ ?_
     refine ⟨⟨(pre2++[z],post2),by simp [<-hl2],by exact trivial⟩,?_,by simp⟩
     refine wO_ [] (by simp [go_sem]) ?_ ?_ <;> simp [go_sem,wN_ hpl2,↓hnx,hs]
   ·
    simp [go_sem] at c20
    obtain ⟨rfl,rfl⟩:=mN_ hl2 c20
    have hall:(pre++[x]).all (fndR W)=(b && fndR W x):=by rw [List.all_append,<-hb]; simp
    have hfn:(lateR x || W.any (sameW x))=fndR W x:=rfl
    refine aX_ ?_
    simp only [go_sem]
    refine hK16 _ ?_
    cases b
    all_goals
     refine aR_ ?_
     iterate 5
      refine oC_ fun J hJ=>?_
      simp [go_sem,hfn]
      refine hJ _ _ _ ?_
     refine oN_ ?_
     refine hK14 _ ?_
     refine aR_ ?_
     iterate 3
      refine oC_ fun J hJ=>?_
      simp [go_sem,hwi]
      refine hJ _ _ _ ?_
     refine oN_ ?_
     refine ⟨⟨(pre++[x],post),by simp [<-hl],by exact trivial⟩,?_,by simp⟩
     refine wO_ [] (by simp [go_sem]) ?_ ?_ <;> simp [go_sem,wN_ hpl,hall,hi]
 ·
  simp [go_sem] at c13
  obtain ⟨rfl,rfl⟩:=mN_ hl c13
  rw [all_fnd]
  refine aX_ ?_
  simp only [go_sem]
  refine hK9 _ ?_
  refine aQ_ ?_
  iterate 16
   refine oC_ fun J hJ=>?_
   simp [go_sem,↓hm,↓ha,netRS_at A (by omega),plReqS_at (ordL ordReq (netL A)) W (by omega)]
   refine hJ _ _ _ ?_
  refine oN_ ?_
  refine aE_ ?_
  refine fQ_ [] ?_
  simp [go_sem,Try.f5]
theorem ModelMatches_walk (w:World) (v0:Value) (x0:List Req) (r0:Rep w (fun _=>False) noLay noH (.sl 9 (rows cReq x0)) v0) (a1:Option Addr) (c1:Nat) (L1:List (List Int)) (h1:L1.length<=c1) (m1:c1<=maxLen) (s1:SlK w.heap.size 9 w a1 L1) :
  Calls Try.prog 5 #[v0,.slice a1 L1.length c1] w fun e w'=>e=.returned (.bool true)/\Below w.heap.size w w':=by
 obtain ⟨os1,e1,r1⟩:=slk_rows ex_Chg s1 h1 m1
 refine true_walk modelMatches_ok (modelMatchesS_at x0 os1) w rfl fun i v hi=>?_
 match i,hi with
 | 0,hi=>cases hi; exact r0
 | 1,hi=>cases hi; exact r1
end Go.Proofs.Ytjoaigccapegpaa.AE
