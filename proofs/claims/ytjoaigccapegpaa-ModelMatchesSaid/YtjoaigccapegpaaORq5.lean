/-
 What is left of requests, by the page. Conditions: none; every contract names its own.
-/
import Derived.Test.YtjoaigccapegpaaORq4
set_option linter.constructorNameAsVariable false
namespace Go.Proofs.Ytjoaigccapegpaa.AE
open Go Go.Proofs Go.RowKit
set_option linter.unusedVariables false
set_option linter.unusedSimpArgs false
set_option maxRecDepth 100000
set_option maxHeartbeats 4000000
def cntId (a:Id) (l:List Req):Nat:=l.countP fun x=>decide (x.key.id=a)
def isUn (y x:Req):Bool:=decide (x.key=other y.key)
def lostQ (q:Req) (r:List Req):Bool:=q.key.undo || r.any (isUn q)
def netS (A:List Req) (q:Req) (r:List Req):List Req:=if lostQ q r=true then A else A++[⟨⟨q.key.id,(cntId q.key.id A:Int) + 1,false⟩,q.what⟩]
def netR:List Req->List Req->List Req
 | A,[]=>A
 | A,q :: r=>netR (netS A q r) r
def netL (l:List Req):List Req:=netR [] l
theorem netS_len (A:List Req) (q:Req) (r:List Req):(netS A q r).length<=A.length + 1:=by
 unfold netS
 split <;> simp
theorem cntId_nil (a:Id):cntId a []=0:=rfl
theorem cntId_le (a:Id) (l:List Req):cntId a l<=l.length:=List.countP_le_length
theorem netR_len:∀ (l A:List Req),(netR A l).length<=A.length + l.length
 | [],A=>by simp [netR]
 | q :: r,A=>by
  have h1:=netR_len r (netS A q r)
  have h2:=netS_len A q r
  simp only [netR,List.length_cons]
  omega
theorem get_suf {α:Type} {pre R:List α} {x z:α} {j:Nat} (h:R[j]?=some z):(pre++x :: R)[pre.length + 1 + j]?=some z:=by
 rw [List.getElem?_append_right (by omega),show pre.length + 1 + j - pre.length=j + 1 by omega]
 simpa using h
theorem cnt_putO {p:Req->Req->Int} (f:Req->Bool) (x:Req):∀ l:List Req,(putO p x l).countP f=(x :: l).countP f
 | []=>rfl
 | y :: r=>by
  simp only [putO]
  split
  ·
   simp only [List.countP_cons,cnt_putO f x r]
   omega
  · rfl
theorem cnt_ordL {p:Req->Req->Int} (f:Req->Bool):∀ l:List Req,(ordL p l).countP f=l.countP f
 | []=>rfl
 | x :: r=>by
  simp only [ordL,cnt_putO,List.countP_cons,cnt_ordL f r]
theorem cntId_ord (a:Id) (A:List Req):cntId a (ordL ordReq A)=cntId a A:=cnt_ordL _ _
theorem cntId_snoc (a:Id) (A:List Req) (x:Req):cntId a (A++[x])=cntId a A + if x.key.id=a then 1 else 0:=by
 simp [cntId,List.countP_append,List.countP_cons]
def netRI (l pre _post A:List Req):St:=⟨ofL [(0,.sl 9 (rows cReq l)),(3,.sl 9 (rows cReq (ordL ordReq A))),(4,.int .i64 pre.length)],hOf []⟩
def netRA (l M:List Req) (i:Nat) (y:Req) (R pre _post:List Req):St:=⟨ofL [(0,.sl 9 (rows cReq l)),(3,.sl 9 (rows cReq M)),(4,.int .i64 i),(5,.bool (y.key.undo || pre.any (isUn y))),(6,.int .i64 1),(7,.int .i64 ((i + 1 + pre.length:Nat):Int))],hOf []⟩
def netRB (l M:List Req) (i:Nat) (y:Req) (b:Bool) (_R pre _post:List Req):St:=⟨ofL [(0,.sl 9 (rows cReq l)),(3,.sl 9 (rows cReq M)),(4,.int .i64 i),(5,.bool b),(6,.int .i64 ((cntId y.key.id pre:Int) + 1)),(8,.int .i64 pre.length)],hOf []⟩
structure netRX where
 l:List Req
 l':AV
 h_l:SlA 9 cReq l l'
 hL:l.length<=40000
noncomputable def netRS:HSpec:=mkH (ι:=netRX) (fun ⟨l,l',h_l,hL⟩=>([l'],[])) fun ⟨l,l',h_l,hL⟩=>⟨.sl 9 (rows cReq (ordL ordReq (netL l))),[],[]⟩
theorem netRS_atG (l:List Req) (l':AV) (h_l:SlA 9 cReq l l') (hL:l.length<=40000):netRS [l'] []=some (⟨.sl 9 (rows cReq (ordL ordReq (netL l))),[],[]⟩):=
 mA_ (ι:=netRX) (fun i j h=>by obtain ⟨l,l',h_l,hL⟩:=i; obtain ⟨l2,l'2,h_l2,hL2⟩:=j; simp [and_assoc,qB_,qI_,qO_,qC_,qE_,qK_,qR_,qV_,qP_,qOc_] at h; obtain rfl:=h; obtain rfl:=SlA.inj (fun x y h=>cReq_inj h) h_l h_l2; rfl) ⟨l,l',h_l,hL⟩
theorem netRS_at (l:List Req) (hL:l.length<=40000):netRS [(.sl 9 (rows cReq l))] []=some (⟨.sl 9 (rows cReq (ordL ordReq (netL l))),[],[]⟩):=netRS_atG l _ .sl hL
theorem netR_ok:HSound Try.prog 23 netRS:=by
 refine sE_ (fn:=Try.f23) rfl rfl (by kernel_rfl) fun args bx hr hS=>?_
 obtain ⟨⟨l,l',h_l,hL⟩,rfl,rfl,rfl⟩:=mO_ hS
 clear hS
 refine ⟨_,(eV_ (g:=28) (by kernel_rfl) otherR_ok (eV_ (g:=50) (by kernel_rfl) rput_ok (eN_ _))),by simp [Try.f23],by simp [go_sem],fun w Mx pin=>?_⟩
 simp only [hB_at,lab_nil,lab_cons,hOf_nil,hOf_cons]
 refine aW_ (s':=⟨ofL [(0,(.sl 9 (rows cReq l)))],hOf []⟩) ?_ ?_
 · cases h_l <;> exact wO_ [] (by simp [go_sem]) (by simp [go_sem]) (by simp [go_sem])
 clear h_l
 have hL1:l.length<=100000:=by omega
 refine aQ_ ?_
 iterate 1
  refine oC_ fun J hJ=>?_
  simp [go_sem]
  refine hJ _ _ _ ?_
 refine oN_ ?_
 refine aQ_ ?_
 iterate 1
  refine oC_ fun J hJ=>?_
  simp [go_sem]
  refine hJ _ _ _ ?_
 refine oN_ ?_
 refine aS_ fun K3 hK3=>?_
 refine aQ_ ?_
 iterate 1
  refine oC_ fun J hJ=>?_
  simp [go_sem]
  refine hJ _ _ _ ?_
 refine oN_ ?_
 refine aB_ ?_
 refine aL_ (ι:={ q:List Req × List Req × List Req // q.1++q.2.1=l/\(netR q.2.2 q.2.1=netL l/\q.2.2.length<=q.1.length) }) (fun q=>netRI l q.1.1 q.1.2.1 q.1.2.2) (fun q=>q.1.2.1.length) ⟨([],l,[]),rfl,⟨rfl,by simp⟩⟩ ?_ ?_
 · refine wO_ [] (by simp [go_sem]) ?_ ?_ <;> simp [go_sem,ordL]
 intro ⟨⟨pre,post,A⟩,hl,hgo⟩
 simp only at hl hgo
 have hpl:=lS_ hl hL1
 simp only [netRI]
 refine aS_ fun K5 hK5=>?_
 refine aQ_ ?_
 iterate 4
  refine oC_ fun J hJ=>?_
  simp [go_sem]
  refine hJ _ _ _ ?_
 refine oN_ ?_
 refine aC_ (t:=_) rfl (fun c7=>?_) (fun c7=>?_)
 ·
  simp [go_sem] at c7
  obtain ⟨x,post,rfl,hx⟩:=mL_ hl c7
  obtain ⟨hgo1,hAl⟩:=hgo
  have hlen:l.length=pre.length + 1 + post.length:=by rw [<-hl]; simp; omega
  obtain ⟨M,hM⟩:∃ M,M=ordL ordReq A:=⟨_,rfl⟩
  have hMl:M.length=A.length:=by rw [hM,ordL_len]
  have eM:M.length<=100000:=by omega
  simp only [<-hM]
  obtain ⟨R,hR⟩:∃ R,R=post:=⟨_,rfl⟩
  obtain ⟨i,hi⟩:∃ i,i=pre.length:=⟨_,rfl⟩
  have eR:R.length<=100000:=by rw [hR]; omega
  have hcm:cntId x.key.id M=cntId x.key.id A:=by rw [hM,cntId_ord]
  rw [<-hi] at hx
  have hwi:=wN_ (n:=i) (by omega)
  simp only [<-hi]
  have hil:i < l.length:=by omega
  refine aK_ ?_
  refine hK5 _ ?_
  refine aS_ fun K8 hK8=>?_
  refine aB_ ?_
  refine aQ_ ?_
  iterate 8
   refine oC_ fun J hJ=>?_
   simp [go_sem,hx]
   refine hJ _ _ _ ?_
  refine oN_ ?_
  refine aS_ fun K10 hK10=>?_
  refine aQ_ ?_
  iterate 3
   refine oC_ fun J hJ=>?_
   simp [go_sem,hwi]
   refine hJ _ _ _ ?_
  refine oN_ ?_
  refine aB_ ?_
  refine aL_ (ι:={ q:List Req × List Req // q.1++q.2=R/\True }) (fun q=>netRA l M i x R q.1.1 q.1.2) (fun q=>q.1.2.length) ⟨([],R),rfl,trivial⟩ ?_ ?_
  · refine wO_ [] (by simp [go_sem]) ?_ ?_ <;> simp [go_sem]
  intro ⟨⟨pre2,post2⟩,hl2,hgo2⟩
  simp only at hl2 hgo2
  have hpl2:=lS_ hl2 eR
  simp only [netRA]
  refine aS_ fun K12 hK12=>?_
  refine aQ_ ?_
  iterate 4
   refine oC_ fun J hJ=>?_
   simp [go_sem]
   refine hJ _ _ _ ?_
  refine oN_ ?_
  refine aC_ (t:=_) rfl (fun c14=>?_) (fun c14=>?_)
  ·
   simp [go_sem] at c14
   obtain ⟨z,post2,rfl,hz⟩:=mL_ hl2 (by rw [hR]; omega)
   have hz2:l[i + 1 + pre2.length]?=some z:=by rw [<-hl,hi]; exact get_suf (by rw [<-hR]; exact hz)
   have hk2:pre2.length < R.length:=(List.getElem?_eq_some_iff.1 hz).1
   have htk:((i:Int) + 1 + (pre2.length:Int)).toNat=i + 1 + pre2.length:=by omega
   have h0k:(0:Int)<=(i:Int) + 1 + (pre2.length:Int):=by omega
   have hwk:IntKind.i64.wrap ((i:Int) + 1 + (pre2.length:Int) + 1)=(i:Int) + 1 + (pre2.length:Int) + 1:=wA_ (by rw [hR] at hk2; omega)
   obtain ⟨b,hb⟩:∃ b,b=(x.key.undo || pre2.any (isUn x)):=⟨_,rfl⟩
   have hnx:(x.key.undo || (pre2++[z]).any (isUn x))=(b || decide (z.key=other x.key)):=by rw [List.any_append,<-Bool.or_assoc,<-hb]; simp [isUn]
   simp only [<-hb]
   refine aK_ ?_
   refine hK12 _ ?_
   refine aS_ fun K15 hK15=>?_
   refine aB_ ?_
   cases b
   all_goals
    refine aD_ ?_
    iterate 16
     refine oC_ fun J hJ=>?_
     simp [go_sem,htk,h0k,↓hz2,hz2,hx,otherRS_at]
     refine hJ _ _ _ ?_
    refine oN_ ?_
    refine ⟨rfl,?_⟩
    refine hK15 _ ?_
    refine aR_ ?_
    iterate 3
     refine oC_ fun J hJ=>?_
     simp [go_sem,hwk]
     refine hJ _ _ _ ?_
    refine oN_ ?_
    refine ⟨⟨(pre2++[z],post2),by simp [<-hl2],by exact trivial⟩,?_,by simp⟩
    refine wO_ [] (by simp [go_sem]) ?_ ?_ <;> simp [go_sem,wN_ hpl2,↓hnx,hwk,Int.add_assoc]
  ·
   simp [go_sem] at c14
   obtain ⟨rfl,rfl⟩:=mN_ hl2 (by rw [hR]; omega)
   obtain ⟨b,hb⟩:∃ b,b=(x.key.undo || R.any (isUn x)):=⟨_,rfl⟩
   have hbl:b=lostQ x post:=by rw [hb,hR]; rfl
   simp only [<-hb]
   refine aX_ ?_
   simp only [go_sem]
   refine hK10 _ ?_
   refine aS_ fun K16 hK16=>?_
   refine aQ_ ?_
   iterate 1
    refine oC_ fun J hJ=>?_
    simp [go_sem]
    refine hJ _ _ _ ?_
   refine oN_ ?_
   refine aB_ ?_
   refine aL_ (ι:={ q:List Req × List Req // q.1++q.2=M/\True }) (fun q=>netRB l M i x b M q.1.1 q.1.2) (fun q=>q.1.2.length) ⟨([],M),rfl,trivial⟩ ?_ ?_
   · refine wO_ [] (by simp [go_sem]) ?_ ?_ <;> simp [go_sem,cntId_nil]
   intro ⟨⟨pre2,post2⟩,hl2,hgo2⟩
   simp only at hl2 hgo2
   have hpl2:=lS_ hl2 eM
   simp only [netRB]
   refine aS_ fun K18 hK18=>?_
   refine aQ_ ?_
   iterate 4
    refine oC_ fun J hJ=>?_
    simp [go_sem]
    refine hJ _ _ _ ?_
   refine oN_ ?_
   refine aC_ (t:=_) rfl (fun c20=>?_) (fun c20=>?_)
   ·
    simp [go_sem] at c20
    obtain ⟨z,post2,rfl,hz⟩:=mL_ hl2 c20
    have hk2:pre2.length < M.length:=(List.getElem?_eq_some_iff.1 hz).1
    have hcl:=cntId_le x.key.id pre2
    have hwn:IntKind.i64.wrap ((cntId x.key.id pre2:Int) + 1 + 1)=(cntId x.key.id pre2:Int) + 1 + 1:=wA_ (by omega)
    refine aK_ ?_
    refine hK18 _ ?_
    refine aS_ fun K21 hK21=>?_
    refine aB_ ?_
    refine aU_ ?_
    iterate 13
     refine oC_ fun J hJ=>?_
     simp [go_sem,hz,hx]
     refine hJ _ _ _ ?_
    refine oN_ ?_
    refine ⟨rfl,?_⟩
    refine aC_ (t:=_) rfl (fun c23=>?_) (fun c23=>?_)
    ·
     simp [go_sem] at c23
     have hcz:cntId x.key.id (pre2++[z])=cntId x.key.id pre2 + 1:=by rw [cntId_snoc,if_pos c23]
     refine aR_ ?_
     iterate 3
      refine oC_ fun J hJ=>?_
      simp [go_sem,hwn]
      refine hJ _ _ _ ?_
     refine oN_ ?_
     refine hK21 _ ?_
     refine aR_ ?_
     iterate 3
      refine oC_ fun J hJ=>?_
      simp [go_sem]
      refine hJ _ _ _ ?_
     refine oN_ ?_
     refine ⟨⟨(pre2++[z],post2),by simp [<-hl2],by exact trivial⟩,?_,by simp⟩
     refine wO_ [] (by simp [go_sem]) ?_ ?_ <;> simp [go_sem,wN_ hpl2,hcz]
    ·
     simp [go_sem] at c23
     have hcz:cntId x.key.id (pre2++[z])=cntId x.key.id pre2:=by rw [cntId_snoc,if_neg c23]; rfl
     refine aK_ ?_
     refine hK21 _ ?_
     refine aR_ ?_
     iterate 3
      refine oC_ fun J hJ=>?_
      simp [go_sem]
      refine hJ _ _ _ ?_
     refine oN_ ?_
     refine ⟨⟨(pre2++[z],post2),by simp [<-hl2],by exact trivial⟩,?_,by simp⟩
     refine wO_ [] (by simp [go_sem]) ?_ ?_ <;> simp [go_sem,wN_ hpl2,hcz]
   ·
    simp [go_sem] at c20
    obtain ⟨rfl,rfl⟩:=mN_ hl2 c20
    rw [hcm]
    have hcl:=cntId_le x.key.id A
    refine aX_ ?_
    simp only [go_sem]
    refine hK16 _ ?_
    refine aQ_ ?_
    iterate 2
     refine oC_ fun J hJ=>?_
     simp [go_sem]
     refine hJ _ _ _ ?_
    refine oN_ ?_
    refine aC_ (t:=_) rfl (fun c25=>?_) (fun c25=>?_)
    ·
     simp [go_sem] at c25
     have hnl:lostQ x post=false:=by rw [<-hbl]; exact c25
     have hns:netS A x post=A++[⟨⟨x.key.id,(cntId x.key.id A:Int) + 1,false⟩,x.what⟩]:=if_neg (by simp [hnl])
     have hp:=rputS_at M ⟨⟨x.key.id,(cntId x.key.id A:Int) + 1,false⟩,x.what⟩ (by omega)
     rw [hM,ordL_snocR,<-hM] at hp
     have hms:List.take (A.length + 1) (ordL ordReq (A++[⟨⟨x.key.id,(cntId x.key.id A:Int) + 1,false⟩,x.what⟩]))=ordL ordReq (A++[⟨⟨x.key.id,(cntId x.key.id A:Int) + 1,false⟩,x.what⟩]):=List.take_of_length_le (by rw [ordL_len]; simp)
     refine aD_ ?_
     iterate 17
      refine oC_ fun J hJ=>?_
      simp [go_sem,hx,req_fold,↓hp]
      refine hJ _ _ _ ?_
     refine oN_ ?_
     refine ⟨rfl,?_⟩
     refine hK8 _ ?_
     refine aR_ ?_
     iterate 3
      refine oC_ fun J hJ=>?_
      simp [go_sem,hwi]
      refine hJ _ _ _ ?_
     refine oN_ ?_
     refine ⟨⟨(pre++[x],post,netS A x post),by simp [<-hl],by exact ⟨by rw [<-hgo1]; rfl,by have:=netS_len A x post; simp; omega⟩⟩,?_,by simp⟩
     refine wO_ [] (by simp [go_sem]) ?_ ?_ <;> simp [go_sem,wN_ hpl,hns,hms,hi,hM]
    ·
     simp [go_sem] at c25
     have hnl:lostQ x post=true:=by rw [<-hbl]; simpa using c25
     have hns:netS A x post=A:=if_pos hnl
     have hms:True:=trivial
     refine aK_ ?_
     refine hK8 _ ?_
     refine aR_ ?_
     iterate 3
      refine oC_ fun J hJ=>?_
      simp [go_sem,hwi]
      refine hJ _ _ _ ?_
     refine oN_ ?_
     refine ⟨⟨(pre++[x],post,netS A x post),by simp [<-hl],by exact ⟨by rw [<-hgo1]; rfl,by have:=netS_len A x post; simp; omega⟩⟩,?_,by simp⟩
     refine wO_ [] (by simp [go_sem]) ?_ ?_ <;> simp [go_sem,wN_ hpl,hns,hms,hi,hM]
 ·
  simp [go_sem] at c7
  obtain ⟨rfl,rfl⟩:=mN_ hl c7
  obtain ⟨hgo1,hAl⟩:=hgo
  simp only [netR] at hgo1
  subst hgo1
  refine aX_ ?_
  simp only [go_sem]
  refine hK3 _ ?_
  refine aQ_ ?_
  iterate 2
   refine oC_ fun J hJ=>?_
   simp [go_sem]
   refine hJ _ _ _ ?_
  refine oN_ ?_
  refine aE_ ?_
  refine fQ_ [] ?_
  simp [go_sem,Try.f23]
end Go.Proofs.Ytjoaigccapegpaa.AE
