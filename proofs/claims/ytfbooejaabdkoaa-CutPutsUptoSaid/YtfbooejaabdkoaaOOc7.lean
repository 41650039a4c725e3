/-
 Whether a cut may be: contracts. Conditions: none; every contract names its own.
-/
import Derived.Test.YtfbooejaabdkoaaOOc3
import Derived.Test.YtfbooejaabdkoaaPe
set_option linter.constructorNameAsVariable false
namespace Go.Proofs.Ytfbooejaabdkoaa.AE
open Go Go.Proofs Go.RowKit
set_option linter.unusedVariables false
set_option linter.unusedSimpArgs false
set_option maxRecDepth 100000
set_option maxHeartbeats 4000000
@[go_sem] theorem cCut_known' (n:Int) (k:Vn 4) (b:Bk) (o:AV):(cCut n k b o).tail.take 4=cV k:=by rw [<-List.drop_one,cCut_known]
theorem octIn (x:Int):numInS [.int .i64 x,.int .i64 0,.int .i64 255] []=some ⟨.bool (octB x),[],[]⟩:=numInS_at x 0 255
theorem wideIn (x:Int):numInS [.int .i64 x,.int .i64 0,.int .i64 65535] []=some ⟨.bool (wideB x),[],[]⟩:=numInS_at x 0 65535
def octOfI (L pre _post:List Int):St:=⟨ofL [(5,.sl 1 (rows cInt L)),(6,.int .i64 L.length),(7,.int .i64 pre.length)],hOf []⟩
structure octOfX where
 L:List Int
 L':AV
 h_L:SlA 1 cInt L L'
 hL:L.length<=1000
noncomputable def octOfS:HSpec:=mkH (ι:=octOfX) (fun ⟨L,L',h_L,hL⟩=>([L'],[])) fun ⟨L,L',h_L,hL⟩=>⟨.bool (L.all octB),[],[]⟩
theorem octOfS_atG (L:List Int) (L':AV) (h_L:SlA 1 cInt L L') (hL:L.length<=1000):octOfS [L'] []=some (⟨.bool (L.all octB),[],[]⟩):=
 mA_ (ι:=octOfX) (fun i j h=>by obtain ⟨L,L',h_L,hL⟩:=i; obtain ⟨L2,L'2,h_L2,hL2⟩:=j; simp [and_assoc,qB_,qI_,qO_,qC_,qE_,qK_,qR_,qV_,qP_,qOc_,rows_iff_U8,cCut_eq_iff,Int.natCast_inj] at h; obtain rfl:=h; obtain rfl:=SlA.inj (fun x y h=>cInt_inj h) h_L h_L2; rfl) ⟨L,L',h_L,hL⟩
theorem octOfS_at (L:List Int) (hL:L.length<=1000):octOfS [(.sl 1 (rows cInt L))] []=some (⟨.bool (L.all octB),[],[]⟩):=octOfS_atG L _ .sl hL
theorem octOf_ok:HSound Try.prog 58 octOfS:=by
 refine sE_ (fn:=Try.f58) rfl rfl (by kernel_rfl) fun args bx hr hS=>?_
 obtain ⟨⟨L,L',h_L,hL⟩,rfl,rfl,rfl⟩:=mO_ hS
 clear hS
 refine ⟨_,(eV_ (g:=55) (by kernel_rfl) numIn_ok (eN_ _)),by simp [Try.f58],by simp [go_sem],fun w Mx pin=>?_⟩
 simp only [hB_at,lab_nil,lab_cons,hOf_nil,hOf_cons]
 refine aW_ (s':=⟨ofL [(0,(.sl 1 (rows cInt L)))],hOf []⟩) ?_ ?_
 · cases h_L <;> exact wO_ [] (by simp [go_sem]) (by simp [go_sem]) (by simp [go_sem])
 clear h_L
 have hLl:L.length<=100000:=by omega
 refine aQ_ ?_
 iterate 1
  refine oC_ fun J hJ=>?_
  simp [go_sem]
  refine hJ _ _ _ ?_
 refine oN_ ?_
 refine aS_ fun K2 hK2=>?_
 refine aQ_ ?_
 iterate 3
  refine oC_ fun J hJ=>?_
  simp [go_sem]
  refine hJ _ _ _ ?_
 refine oN_ ?_
 refine aB_ ?_
 refine aL_ (ι:={ q:List Int × List Int // q.1++q.2=L/\q.1.all octB=true }) (fun q=>octOfI L q.1.1 q.1.2) (fun q=>q.1.2.length) ⟨([],L),rfl,rfl⟩ ?_ ?_
 · refine wO_ [] (by simp [go_sem]) ?_ ?_ <;> simp [go_sem]
 intro ⟨⟨pre,post⟩,hl,hgo⟩
 simp only at hl hgo
 have hpl:=lS_ hl hLl
 simp only [octOfI]
 refine aQ_ ?_
 iterate 1
  refine oC_ fun J hJ=>?_
  simp [go_sem]
  refine hJ _ _ _ ?_
 refine oN_ ?_
 refine aS_ fun K5 hK5=>?_
 refine aC_ (t:=_) rfl (fun c6=>?_) (fun c6=>?_)
 ·
  simp [go_sem] at c6
  obtain ⟨x,post,rfl,hx⟩:=mL_ hl c6
  refine aK_ ?_
  refine hK5 _ ?_
  refine aS_ fun K7 hK7=>?_
  refine aB_ ?_
  refine aQ_ ?_
  iterate 3
   refine oC_ fun J hJ=>?_
   simp [go_sem,hx]
   refine hJ _ _ _ ?_
  refine oN_ ?_
  refine aS_ fun K9 hK9=>?_
  cases hxo:octB x
  ·
   have hf:L.all octB=false:=by rw [<-hl]; simp [List.all_append,hxo]
   refine aR_ ?_
   iterate 3
    refine oC_ fun J hJ=>?_
    simp [go_sem,octIn,hxo]
    refine hJ _ _ _ ?_
   refine oN_ ?_
   refine hK9 _ ?_
   refine aT_ rfl ?_
   refine aQ_ ?_
   iterate 1
    refine oC_ fun J hJ=>?_
    simp [go_sem]
    refine hJ _ _ _ ?_
   refine oN_ ?_
   refine aE_ ?_
   refine fQ_ [] ?_
   simp [go_sem,Try.f58,hf]
  ·
   refine aR_ ?_
   iterate 3
    refine oC_ fun J hJ=>?_
    simp [go_sem,octIn,hxo]
    refine hJ _ _ _ ?_
   refine oN_ ?_
   refine hK9 _ ?_
   refine aF_ rfl ?_
   refine aK_ ?_
   refine hK7 _ ?_
   refine aR_ ?_
   iterate 2
    refine oC_ fun J hJ=>?_
    simp [go_sem]
    refine hJ _ _ _ ?_
   refine oN_ ?_
   refine ⟨⟨(pre++[x],post),by simp [<-hl],by simp [List.all_append,hgo,hxo]⟩,?_,by simp⟩
   refine wO_ [] (by simp [go_sem]) ?_ ?_ <;> simp [go_sem,wN_ hpl]
 ·
  simp [go_sem] at c6
  obtain ⟨rfl,rfl⟩:=mN_ hl c6
  refine aX_ ?_
  simp only [go_sem]
  refine hK2 _ ?_
  refine aQ_ ?_
  iterate 1
   refine oC_ fun J hJ=>?_
   simp [go_sem]
   refine hJ _ _ _ ?_
  refine oN_ ?_
  refine aE_ ?_
  refine fQ_ [] ?_
  simp [go_sem,Try.f58,hgo]
structure mayCX where
 a:Id
noncomputable def mayCS:HSpec:=mkH (ι:=mayCX) (fun ⟨a⟩=>([.agg (cId a)],[])) fun ⟨a⟩=>⟨.bool (mayC a),[],[]⟩
theorem mayCS_atG (a:Id):mayCS [.agg (cId a)] []=some (⟨.bool (mayC a),[],[]⟩):=
 mA_ (ι:=mayCX) (fun i j h=>by obtain ⟨a⟩:=i; obtain ⟨a2⟩:=j; simp [and_assoc,qB_,qI_,qO_,qC_,qE_,qK_,qR_,qV_,qP_,qOc_,rows_iff_U8,cCut_eq_iff,Int.natCast_inj] at h; obtain rfl:=h; rfl) ⟨a⟩
theorem mayCS_at (a:Id):mayCS [.agg (cId a)] []=some (⟨.bool (mayC a),[],[]⟩):=mayCS_atG a
theorem mayC_ok:HSound Try.prog 57 mayCS:=by
 refine sE_ (fn:=Try.f57) rfl rfl (by kernel_rfl) fun args bx hr hS=>?_
 obtain ⟨⟨a⟩,rfl,rfl,rfl⟩:=mO_ hS
 clear hS
 refine ⟨_,(eV_ (g:=55) (by kernel_rfl) numIn_ok (eN_ _)),by simp [Try.f57],by simp [go_sem],fun w Mx pin=>?_⟩
 simp only [hB_at,lab_nil,lab_cons,hOf_nil,hOf_cons]
 refine aQ_ ?_
 iterate 2
  refine oC_ fun J hJ=>?_
  simp [go_sem]
  refine hJ _ _ _ ?_
 refine oN_ ?_
 refine aS_ fun K2 hK2=>?_
 by_cases h1:0<=a.rep
 all_goals by_cases h2:a.rep < 4
 all_goals
  refine aR_ ?_
  iterate 14
   refine oC_ fun J hJ=>?_
   simp [go_sem,numInS_at,h1,h2]
   refine hJ _ _ _ ?_
  refine oN_ ?_
  refine hK2 _ ?_
  refine aE_ ?_
  refine fQ_ [] ?_
  simp [go_sem,Try.f57,mayC,h1,h2]
theorem octOf3 (a b c:Int):octOfS [.sl 1 (rows cInt [a,b,c])] []=some ⟨.bool (octB a && (octB b && octB c)),[],[]⟩:=by
 have:=octOfS_at [a,b,c] (by simp)
 simp only [List.all_cons,List.all_nil,Bool.and_true] at this
 exact this
def ckK (c:CutS) (i:Nat):Bool:=decide (0<=c.n/\c.n<=48) && (decide (c.os.length<=32) && knB c.k i)
def ckO (c:CutS) (i:Nat):Bool:=ckK c 4 && ordsB c.os i
theorem ckO_eq (c:CutS):ckO c c.os.length=checkC c:=by simp only [ckO,ckK,checkC,Bool.and_assoc]
theorem ckK_zero (c:CutS):ckK c 0=(decide (0<=c.n/\c.n<=48) && decide (c.os.length<=32)):=by simp [ckK,knB]
theorem ckK_succ (c:CutS) (i:Nat):ckK c (i + 1)=(ckK c i && wideB (c.k.at i)):=by simp only [ckK,knB,Bool.and_assoc]
theorem ckO_zero (c:CutS):ckO c 0=ckK c 4:=by simp [ckO,ordsB]
theorem ckO_succ {c:CutS} {i:Nat} {o:Ord} (h:c.os[i]?=some o):ckO c (i + 1)=(ckO c i && ordB c.os i o):=by simp only [ckO,ordsB,h,Bool.and_assoc]
theorem rises_cases {os:List Ord} {i:Nat} {o:Ord} (h:os[i]?=some o) (hl:os.length<=100000):(((i:Int) == 0)=true/\risesB os i o=true/\True/\True/\True/\True)\/(∃ (p:Ord) (j:Nat),((i:Int) == 0)=false/\risesB os i o=false/\lessId p.id o.id=false/\os[j]?=some p/\IntKind.i64.wrap ((i:Int) - 1)=(j:Int)/\j < os.length)\/(∃ (p:Ord) (j:Nat),((i:Int) == 0)=false/\risesB os i o=true/\lessId p.id o.id=true/\os[j]?=some p/\IntKind.i64.wrap ((i:Int) - 1)=(j:Int)/\j < os.length):=by
 by_cases hi:i=0
 ·
  subst hi
  exact .inl ⟨rfl,by simp [risesB],trivial,trivial,trivial,trivial⟩
 ·
  have hl2:=(List.getElem?_eq_some_iff.1 h).1
  have hp:os[i - 1]?=some os[i - 1]:=List.getElem?_eq_getElem (by omega)
  have hr:risesB os i o=lessId os[i - 1].id o.id:=by simp only [risesB,hp,decide_eq_false hi,Bool.false_or]
  have hw:IntKind.i64.wrap ((i:Int) - 1)=((i - 1:Nat):Int):=by rw [show (i:Int) - 1=((i - 1:Nat):Int) by omega]; exact wA_ (by omega)
  have hz:((i:Int) == 0)=false:=by simp; omega
  cases hb:lessId os[i - 1].id o.id
  · exact .inr (.inl ⟨_,_,hz,by rw [hr,hb],hb,hp,hw,by omega⟩)
  · exact .inr (.inr ⟨_,_,hz,by rw [hr,hb],hb,hp,hw,by omega⟩)
def chkKI (c:CutS) (i:Nat):St:=⟨ofL [(1,.ref (0,16) 0),(3,.bool (ckK c i)),(20,.agg (cV c.k)),(21,.int .i64 i)],hOf [((0,16),.obj (cCutS c))]⟩
def chkOI (c:CutS) (pre _post:List Ord):St:=⟨ofL [(1,.ref (0,16) 0),(3,.bool (ckO c pre.length)),(32,.sl 7 (rows cOrd c.os)),(33,.int .i64 c.os.length),(34,.int .i64 pre.length)],hOf [((0,16),.obj (cCutS c))]⟩
structure cutChkX where
 n:Int
 k:Vn 4
 b:Bk
 os:List Ord
 os':AV
 h_os:SlA 7 cOrd os os'
 hL:os.length<=100000
noncomputable def cutChkS:HSpec:=mkH (ι:=cutChkX) (fun ⟨n,k,b,os,os',h_os,hL⟩=>([.agg (cCut n k b os')],[])) fun ⟨n,k,b,os,os',h_os,hL⟩=>⟨.int .i64 (if checkC ⟨n,k,b,os⟩=true then 0 else 4),[],[]⟩
theorem cutChkS_atG (n:Int) (k:Vn 4) (b:Bk) (os:List Ord) (os':AV) (h_os:SlA 7 cOrd os os') (hL:os.length<=100000):cutChkS [.agg (cCut n k b os')] []=some (⟨.int .i64 (if checkC ⟨n,k,b,os⟩=true then 0 else 4),[],[]⟩):=
 mA_ (ι:=cutChkX) (fun i j h=>by obtain ⟨n,k,b,os,os',h_os,hL⟩:=i; obtain ⟨n2,k2,b2,os2,os'2,h_os2,hL2⟩:=j; simp [and_assoc,qB_,qI_,qO_,qC_,qE_,qK_,qR_,qV_,qP_,qOc_,rows_iff_U8,cCut_eq_iff,Int.natCast_inj] at h; obtain ⟨rfl,rfl,rfl,rfl⟩:=h; obtain rfl:=SlA.inj (fun x y h=>cOrd_inj h) h_os h_os2; rfl) ⟨n,k,b,os,os',h_os,hL⟩
theorem cutChkS_at (n:Int) (k:Vn 4) (b:Bk) (os:List Ord) (hL:os.length<=100000):cutChkS [.agg (cCut n k b (.sl 7 (rows cOrd os)))] []=some (⟨.int .i64 (if checkC ⟨n,k,b,os⟩=true then 0 else 4),[],[]⟩):=cutChkS_atG n k b os _ .sl hL
theorem cutChk_ok:HSound Try.prog 29 cutChkS:=by
 refine sE_ (fn:=Try.f29) rfl rfl (by kernel_rfl) fun args bx hr hS=>?_
 obtain ⟨⟨n,k,b,os,os',h_os,hL⟩,rfl,rfl,rfl⟩:=mO_ hS
 clear hS
 refine ⟨_,(eV_ (g:=55) (by kernel_rfl) numIn_ok (eV_ (g:=56) (by kernel_rfl) lessId_ok (eV_ (g:=57) (by kernel_rfl) mayC_ok (eV_ (g:=58) (by kernel_rfl) octOf_ok (eN_ _))))),by simp [Try.f29],by simp [go_sem],fun w Mx pin=>?_⟩
 simp only [hB_at,lab_nil,lab_cons,hOf_nil,hOf_cons]
 refine aW_ (s':=⟨ofL [(0,.agg (cCut n k b (.sl 7 (rows cOrd os))))],hOf []⟩) ?_ ?_
 · cases h_os <;> exact wO_ [] (by simp [go_sem]) (by simp [go_sem]) (by simp [go_sem])
 clear h_os
 have h32:((os.length:Int)<=32)=(os.length<=32):=propext ⟨fun h=>by omega,fun h=>by omega⟩
 refine aQ_ ?_
 iterate 2
  refine oC_ fun J hJ=>?_
  simp [go_sem]
  refine hJ _ _ _ ?_
 refine oN_ ?_
 refine aS_ fun K2 hK2=>?_
 cases hb0:decide (0<=n/\n<=48)
 all_goals
  refine aR_ ?_
  iterate 11
   refine oC_ fun J hJ=>?_
   simp [go_sem,numInS_at n 0 48,hb0]
   refine hJ _ _ _ ?_
  refine oN_ ?_
  refine hK2 _ ?_
  refine aS_ fun K3 hK3=>?_
  refine aQ_ ?_
  iterate 3
   refine oC_ fun J hJ=>?_
   simp [go_sem]
   refine hJ _ _ _ ?_
  refine oN_ ?_
  refine aB_ ?_
  refine aL_ (ι:={ i:Nat // i<=4 }) (fun s=>chkKI ⟨n,k,b,os⟩ s.1) (fun s=>4 - s.1) ⟨0,by omega⟩ ?_ ?_
  · refine wO_ [((0,16),some (0,16))] (by simp [go_sem]) ?_ ?_ <;> simp [go_sem,ckK_zero,cCutS,hb0,h32]
  intro ⟨i,hi⟩
  try simp only at hi
  obtain ⟨B,hB⟩:∃ B,B=ckK ⟨n,k,b,os⟩ i:=⟨_,rfl⟩
  simp only [chkKI,<-hB,cCutS]
  refine aQ_ ?_
  iterate 1
   refine oC_ fun J hJ=>?_
   simp [go_sem]
   refine hJ _ _ _ ?_
  refine oN_ ?_
  refine aS_ fun K6 hK6=>?_
  refine aC_ (t:=_) rfl (fun c7=>?_) (fun c7=>?_)
  ·
   simp [go_sem] at c7
   have hi8:i + 1<=4:=by omega
   have hi7:i < 4:=by omega
   have hi7i:(i:Int) < 4:=by omega
   refine aK_ ?_
   refine hK6 _ ?_
   refine aS_ fun K8 hK8=>?_
   refine aB_ ?_
   refine aQ_ ?_
   iterate 2
    refine oC_ fun J hJ=>?_
    simp [go_sem,hi7,hi7i]
    refine hJ _ _ _ ?_
   refine oN_ ?_
   cases B
   all_goals
    refine aR_ ?_
    iterate 6
     refine oC_ fun J hJ=>?_
     simp [go_sem,wideIn]
     refine hJ _ _ _ ?_
    refine oN_ ?_
    refine hK8 _ ?_
    refine aR_ ?_
    iterate 2
     refine oC_ fun J hJ=>?_
     simp [go_sem]
     refine hJ _ _ _ ?_
    refine oN_ ?_
    refine ⟨⟨i + 1,hi8⟩,?_,by simp only; omega⟩
    refine wO_ [((0,16),some (0,16))] (by simp [go_sem]) ?_ ?_ <;> simp [go_sem,ckK_succ,<-hB,cCutS,wN_ (n:=i) (by omega)]
  ·
   simp [go_sem] at c7
   obtain rfl:i=4:=by omega
   refine aX_ ?_
   simp only [go_sem]
   refine hK3 _ ?_
   refine aS_ fun K10 hK10=>?_
   refine aQ_ ?_
   iterate 5
    refine oC_ fun J hJ=>?_
    simp [go_sem]
    refine hJ _ _ _ ?_
   refine oN_ ?_
   refine aB_ ?_
   refine aL_ (ι:={ q:List Ord × List Ord // q.1++q.2=os/\True }) (fun q=>chkOI ⟨n,k,b,os⟩ q.1.1 q.1.2) (fun q=>q.1.2.length) ⟨([],os),rfl,trivial⟩ ?_ ?_
   · refine wO_ [((0,16),some (0,16))] (by simp [go_sem]) ?_ ?_ <;> simp [go_sem,ckO_zero,cCutS,<-hB]
   intro ⟨⟨pre,post⟩,hl,hgo⟩
   simp only at hl hgo
   have hpl:=lS_ hl hL
   simp only [chkOI]
   obtain ⟨D,hD⟩:∃ D,D=ckO ⟨n,k,b,os⟩ pre.length:=⟨_,rfl⟩
   simp only [<-hD,cCutS]
   refine aQ_ ?_
   iterate 1
    refine oC_ fun J hJ=>?_
    simp [go_sem]
    refine hJ _ _ _ ?_
   refine oN_ ?_
   refine aS_ fun K13 hK13=>?_
   refine aC_ (t:=_) rfl (fun c14=>?_) (fun c14=>?_)
   ·
    simp [go_sem] at c14
    obtain ⟨x,post,rfl,hx⟩:=mL_ hl c14
    refine aK_ ?_
    refine hK13 _ ?_
    refine aS_ fun K15 hK15=>?_
    refine aB_ ?_
    refine aQ_ ?_
    iterate 6
     refine oC_ fun J hJ=>?_
     simp [go_sem,hx]
     refine hJ _ _ _ ?_
    refine oN_ ?_
    refine aS_ fun K17 hK17=>?_
    rcases rises_cases hx hL with ⟨hz,hr,hlt,hp,hw,hj⟩ | ⟨p,j,hz,hr,hlt,hp,hw,hj⟩ | ⟨p,j,hz,hr,hlt,hp,hw,hj⟩
    all_goals
     refine aD_ ?_
     iterate 16
      refine oC_ fun J hJ=>?_
      simp [go_sem,hz,hlt,↓hp,hp,hw,hj,lessIdS_at]
      refine hJ _ _ _ ?_
     refine oN_ ?_
     refine ⟨rfl,?_⟩
     refine hK17 _ ?_
     cases D <;> cases hmm:mayC x.id
     all_goals
      refine aR_ ?_
      iterate 20
       refine oC_ fun J hJ=>?_
       simp [go_sem,mayCS_at,hmm,octOf3]
       refine hJ _ _ _ ?_
      refine oN_ ?_
      refine hK15 _ ?_
      refine aR_ ?_
      iterate 2
       refine oC_ fun J hJ=>?_
       simp [go_sem]
       refine hJ _ _ _ ?_
      refine oN_ ?_
      refine ⟨⟨(pre++[x],post),by simp [<-hl],by exact trivial⟩,?_,by simp⟩
      refine wO_ [((0,16),some (0,16))] (by simp [go_sem]) ?_ ?_ <;> simp [go_sem,wN_ hpl,ckO_succ (c:=⟨n,k,b,os⟩) hx,<-hD,ordB,hr,cCutS,hmm]
   ·
    simp [go_sem] at c14
    obtain ⟨rfl,rfl⟩:=mN_ hl c14
    have hck:=ckO_eq ⟨n,k,b,os⟩
    simp only at hck
    rw [<-hD] at hck
    refine aX_ ?_
    simp only [go_sem]
    refine hK10 _ ?_
    refine aS_ fun K18 hK18=>?_
    refine aQ_ ?_
    iterate 2
     refine oC_ fun J hJ=>?_
     simp [go_sem]
     refine hJ _ _ _ ?_
    refine oN_ ?_
    refine aC_ (t:=_) rfl (fun c20=>?_) (fun c20=>?_)
    ·
     have hcc:checkC ⟨n,k,b,os⟩=false:=by rw [<-hck]; simpa using c20
     refine aQ_ ?_
     iterate 1
      refine oC_ fun J hJ=>?_
      simp [go_sem]
      refine hJ _ _ _ ?_
     refine oN_ ?_
     refine aE_ ?_
     refine fQ_ [] ?_
     simp [go_sem,Try.f29,hcc]
    ·
     have hcc:checkC ⟨n,k,b,os⟩=true:=by rw [<-hck]; simpa using c20
     refine aK_ ?_
     refine hK18 _ ?_
     refine aQ_ ?_
     iterate 1
      refine oC_ fun J hJ=>?_
      simp [go_sem]
      refine hJ _ _ _ ?_
     refine oN_ ?_
     refine aE_ ?_
     refine fQ_ [] ?_
     simp [go_sem,Try.f29,hcc]
end Go.Proofs.Ytfbooejaabdkoaa.AE
