/-
 Package tent: contracts. Conditions: none; every contract names its own.
-/
import Derived.Test.YtjoaigccapegpaaGreatOPu
set_option linter.constructorNameAsVariable false
namespace Go.Proofs.YtjoaigccapegpaaGreat.AE
open Go Go.Proofs Go.RowKit
set_option linter.unusedVariables false
set_option linter.unusedSimpArgs false
set_option maxRecDepth 100000
set_option maxHeartbeats 4000000
def aheadC (a:Id) (x:Chg):Bool:=decide (x.id.rep=a.rep/\x.id.seq < a.seq)
def freeC (l:List Chg) (a:Id):Bool:=decide (0<=placeC l a) && !(l.any (aheadC a))
theorem idxC_ge0 {α:Type} (p:α->Bool) (l:List α) (i:Nat):(0<=idxL p l i) ↔ l.any p=true:=by
 induction l generalizing i with
 | nil=>simp [idxL]
 | cons x r ih=>
  by_cases hx:p x=true
  · simp [idxL,hx]
  · simp [idxL,hx,ih]
theorem idxC_at {α:Type} (p:α->Bool):∀ (l:List α) (i:Nat),idxL p l i=-1\/∃ k x,k < l.length/\idxL p l i=((i + k:Nat):Int)/\l[k]?=some x/\p x=true
 | [],i=>.inl rfl
 | x :: r,i=>by
  by_cases hx:p x=true
  · exact .inr ⟨0,x,by simp,by simp [idxL,hx],by simp,hx⟩
  ·
   rcases idxC_at p r (i + 1) with h1 | ⟨k,y,h1,h2,h3,h4⟩
   · exact .inl (by simp [idxL,hx,h1])
   · exact .inr ⟨k + 1,y,by simp; omega,by simp [idxL,hx,h2]; omega,by simpa using h3,h4⟩
theorem placeC_at (l:List Chg) (a:Id):placeC l a=-1\/∃ k x,k < l.length/\placeC l a=(k:Int)/\l[k]?=some x/\x.id=a:=by
 rcases idxC_at (isChg a) l 0 with h | ⟨k,x,h1,h2,h3,h4⟩
 · exact .inl h
 · exact .inr ⟨k,x,h1,by rw [placeC,h2]; simp,h3,by simpa [isChg] using h4⟩
def headC (l:List Chg):Chg:=(l[0]?).getD zChg
theorem head_cases (l:List Chg):(l.length=0/\headC l=zChg/\decide (l ≠ [])=false)\/∃ x,0 < l.length/\l[0]?=some x/\headC l=x/\decide (l ≠ [])=true:=by
 cases l with
 | nil=>exact .inl ⟨rfl,rfl,by simp⟩
 | cons x r=>exact .inr ⟨x,by simp,rfl,rfl,by simp⟩
def tputL (l:List Chg) (c:Chg):List Chg:=if 0<=placeC l c.id then l else cputL c l
def takeC (l:List Chg) (a:Id):Chg:=if freeC l a=true then (l[(placeC l a).toNat]?).getD zChg else zChg
def takeL (l:List Chg) (a:Id):List Chg:=if freeC l a=true then withoutL l (placeC l a) else l
structure aheadCX where
 x:Chg
 a:Id
noncomputable def aheadCS:HSpec:=mkH (ι:=aheadCX) (fun ⟨x,a⟩=>([.agg (cChg x),.iref (cId a) 0],[])) fun ⟨x,a⟩=>⟨.bool (aheadC a x),[],[]⟩
theorem aheadCS_atG (x:Chg) (a:Id):aheadCS [.agg (cChg x),.iref (cId a) 0] []=some (⟨.bool (aheadC a x),[],[]⟩):=
 mA_ (ι:=aheadCX) (fun i j h=>by obtain ⟨x,a⟩:=i; obtain ⟨x2,a2⟩:=j; simp [and_assoc,qB_,qI_,qO_,qC_,qE_,qK_,qR_,qV_,qP_,qOc_,rows_iff_Chg] at h; obtain ⟨rfl,rfl⟩:=h; rfl) ⟨x,a⟩
theorem aheadCS_at (x:Chg) (a:Id):aheadCS [.agg (cChg x),.iref (cId a) 0] []=some (⟨.bool (aheadC a x),[],[]⟩):=aheadCS_atG x a
theorem aheadC_ok:HSound Tryz.prog 92 aheadCS:=by
 refine sE_ (fn:=Tryz.f92) rfl rfl (by kernel_rfl) fun args bx hr hS=>?_
 obtain ⟨⟨x,a⟩,rfl,rfl,rfl⟩:=mO_ hS
 clear hS
 refine ⟨_,(eN_ _),by simp [Tryz.f92],by simp [go_sem],fun w Mx pin=>?_⟩
 simp only [hB_at,lab_nil,lab_cons,hOf_nil,hOf_cons]
 refine aQ_ ?_
 iterate 2
  refine oC_ fun J hJ=>?_
  simp [go_sem]
  refine hJ _ _ _ ?_
 refine oN_ ?_
 refine aS_ fun K2 hK2=>?_
 cases h1:(x.id.rep == a.rep)
 all_goals
  refine aR_ ?_
  iterate 15
   refine oC_ fun J hJ=>?_
   simp [go_sem,h1]
   refine hJ _ _ _ ?_
  refine oN_ ?_
  refine hK2 _ ?_
  refine aE_ ?_
  refine fQ_ [] ?_
  simp at h1
  simp [go_sem,Tryz.f92,aheadC,h1]
structure contCX where
 l:List Chg
 l':AV
 a:Id
 h_l:SlA 9 cChg l l'
 hL:l.length<=100000
noncomputable def contCS:HSpec:=mkH (ι:=contCX) (fun ⟨l,l',a,h_l,hL⟩=>([l',.fn 92 [.iref (cId a) 0]],[])) fun ⟨l,l',a,h_l,hL⟩=>⟨.bool (l.any (aheadC a)),[],[]⟩
theorem contCS_atG (l:List Chg) (l':AV) (a:Id) (h_l:SlA 9 cChg l l') (hL:l.length<=100000):contCS [l',.fn 92 [.iref (cId a) 0]] []=some (⟨.bool (l.any (aheadC a)),[],[]⟩):=
 mA_ (ι:=contCX) (fun i j h=>by obtain ⟨l,l',a,h_l,hL⟩:=i; obtain ⟨l2,l'2,a2,h_l2,hL2⟩:=j; simp [and_assoc,qB_,qI_,qO_,qC_,qE_,qK_,qR_,qV_,qP_,qOc_,rows_iff_Chg] at h; obtain ⟨rfl,rfl⟩:=h; obtain rfl:=SlA.inj (fun x y h=>cChg_inj h) h_l h_l2; rfl) ⟨l,l',a,h_l,hL⟩
theorem contCS_at (l:List Chg) (a:Id) (hL:l.length<=100000):contCS [(.sl 9 (rows cChg l)),.fn 92 [.iref (cId a) 0]] []=some (⟨.bool (l.any (aheadC a)),[],[]⟩):=contCS_atG l _ a .sl hL
theorem contC_ok:HSound Tryz.prog 91 contCS:=by
 refine sE_ (fn:=Tryz.f91) rfl rfl (by kernel_rfl) fun args bx hr hS=>?_
 obtain ⟨⟨l,l',a,h_l,hL⟩,rfl,rfl,rfl⟩:=mO_ hS
 clear hS
 refine ⟨_,(eV_ (g:=63) (by kernel_rfl) (indexChg_ok 92 [.iref (cId a) 0] (aheadC a) aheadCS (by kernel_rfl) aheadC_ok (fun x=>aheadCS_at x a) (fun H=>by simp [go_sem]) (fun H0 H=>by simp [go_sem])) (eN_ _)),by simp [Tryz.f91],by simp [go_sem],fun w Mx pin=>?_⟩
 simp only [hB_at,lab_nil,lab_cons,hOf_nil,hOf_cons]
 refine aW_ (s':=⟨ofL [(0,(.sl 9 (rows cChg l))),(1,.fn 92 [.iref (cId a) 0])],hOf []⟩) ?_ ?_
 · cases h_l <;> exact wO_ [] (by simp [go_sem]) (by simp [go_sem]) (by simp [go_sem])
 clear h_l
 refine aQ_ ?_
 iterate 1
  refine oC_ fun J hJ=>?_
  simp [go_sem]
  refine hJ _ _ _ ?_
 refine oN_ ?_
 refine aQ_ ?_
 iterate 5
  refine oC_ fun J hJ=>?_
  simp [go_sem,indexChgS_at _ _ (aheadC a) l hL]
  refine hJ _ _ _ ?_
 refine oN_ ?_
 refine aE_ ?_
 refine fQ_ [] ?_
 have hq:=idxC_ge0 (aheadC a) l 0
 simp [go_sem,Tryz.f91]
 exact Bool.eq_iff_iff.2 (by simpa using hq)
structure tFreeX where
 l:List Chg
 a:Id
 hL:l.length<=100000
noncomputable def tFreeS:HSpec:=mkH (ι:=tFreeX) (fun ⟨l,a,hL⟩=>([.iref [.sl 9 (rows cChg l)] 0,.agg (cId a)],[])) fun ⟨l,a,hL⟩=>⟨.bool (freeC l a),[],[]⟩
theorem tFreeS_atG (l:List Chg) (a:Id) (hL:l.length<=100000):tFreeS [.iref [.sl 9 (rows cChg l)] 0,.agg (cId a)] []=some (⟨.bool (freeC l a),[],[]⟩):=
 mA_ (ι:=tFreeX) (fun i j h=>by obtain ⟨l,a,hL⟩:=i; obtain ⟨l2,a2,hL2⟩:=j; simp [and_assoc,qB_,qI_,qO_,qC_,qE_,qK_,qR_,qV_,qP_,qOc_,rows_iff_Chg] at h; obtain ⟨rfl,rfl⟩:=h; rfl) ⟨l,a,hL⟩
theorem tFreeS_at (l:List Chg) (a:Id) (hL:l.length<=100000):tFreeS [.iref [.sl 9 (rows cChg l)] 0,.agg (cId a)] []=some (⟨.bool (freeC l a),[],[]⟩):=tFreeS_atG l a hL
theorem tFree_ok:HSound Tryz.prog 72 tFreeS:=by
 refine sE_ (fn:=Tryz.f72) rfl rfl (by kernel_rfl) fun args bx hr hS=>?_
 obtain ⟨⟨l,a,hL⟩,rfl,rfl,rfl⟩:=mO_ hS
 clear hS
 refine ⟨_,(eV_ (g:=35) (by kernel_rfl) findC_ok (eV_ (g:=91) (by kernel_rfl) contC_ok (eN_ _))),by simp [Tryz.f72],by simp [go_sem],fun w Mx pin=>?_⟩
 simp only [hB_at,lab_nil,lab_cons,hOf_nil,hOf_cons]
 refine aQ_ ?_
 iterate 2
  refine oC_ fun J hJ=>?_
  simp [go_sem]
  refine hJ _ _ _ ?_
 refine oN_ ?_
 refine aS_ fun K2 hK2=>?_
 refine aU_ ?_
 iterate 11
  refine oC_ fun J hJ=>?_
  simp [go_sem,findCS_at l a hL]
  refine hJ _ _ _ ?_
 refine oN_ ?_
 refine ⟨rfl,?_⟩
 refine aC_ (t:=_) rfl (fun c4=>?_) (fun c4=>?_)
 ·
  simp [go_sem] at c4
  refine aQ_ ?_
  iterate 1
   refine oC_ fun J hJ=>?_
   simp [go_sem]
   refine hJ _ _ _ ?_
  refine oN_ ?_
  refine aE_ ?_
  have hp:¬ 0<=placeC l a:=by omega
  refine fQ_ [] ?_
  simp [go_sem,Tryz.f72,freeC,hp]
 ·
  simp [go_sem] at c4
  refine aK_ ?_
  refine hK2 _ ?_
  refine aQ_ ?_
  iterate 8
   refine oC_ fun J hJ=>?_
   simp [go_sem,contCS_at l a hL]
   refine hJ _ _ _ ?_
  refine oN_ ?_
  refine aE_ ?_
  have hp:0<=placeC l a:=by omega
  refine fQ_ [] ?_
  simp [go_sem,Tryz.f72,freeC,hp]
structure tLenX where
 l:List Chg
noncomputable def tLenS:HSpec:=mkH (ι:=tLenX) (fun ⟨l⟩=>([.iref [.sl 9 (rows cChg l)] 0],[])) fun ⟨l⟩=>⟨.int .i64 l.length,[],[]⟩
theorem tLenS_atG (l:List Chg):tLenS [.iref [.sl 9 (rows cChg l)] 0] []=some (⟨.int .i64 l.length,[],[]⟩):=
 mA_ (ι:=tLenX) (fun i j h=>by obtain ⟨l⟩:=i; obtain ⟨l2⟩:=j; simp [and_assoc,qB_,qI_,qO_,qC_,qE_,qK_,qR_,qV_,qP_,qOc_,rows_iff_Chg] at h; obtain rfl:=h; rfl) ⟨l⟩
theorem tLenS_at (l:List Chg):tLenS [.iref [.sl 9 (rows cChg l)] 0] []=some (⟨.int .i64 l.length,[],[]⟩):=tLenS_atG l
theorem tLen_ok:HSound Tryz.prog 47 tLenS:=by
 refine sE_ (fn:=Tryz.f47) rfl rfl (by kernel_rfl) fun args bx hr hS=>?_
 obtain ⟨⟨l⟩,rfl,rfl,rfl⟩:=mO_ hS
 clear hS
 refine ⟨_,(eN_ _),by simp [Tryz.f47],by simp [go_sem],fun w Mx pin=>?_⟩
 simp only [hB_at,lab_nil,lab_cons,hOf_nil,hOf_cons]
 refine aQ_ ?_
 iterate 1
  refine oC_ fun J hJ=>?_
  simp [go_sem]
  refine hJ _ _ _ ?_
 refine oN_ ?_
 refine aS_ fun K2 hK2=>?_
 refine aQ_ ?_
 iterate 2
  refine oC_ fun J hJ=>?_
  simp [go_sem]
  refine hJ _ _ _ ?_
 refine oN_ ?_
 refine aF_ rfl ?_
 refine aK_ ?_
 refine hK2 _ ?_
 refine aQ_ ?_
 iterate 6
  refine oC_ fun J hJ=>?_
  simp [go_sem]
  refine hJ _ _ _ ?_
 refine oN_ ?_
 refine aE_ ?_
 refine fQ_ [] ?_
 simp [go_sem,Tryz.f47]
structure tFirstX where
 l:List Chg
noncomputable def tFirstS:HSpec:=mkH (ι:=tFirstX) (fun ⟨l⟩=>([.iref [.sl 9 (rows cChg l)] 0],[])) fun ⟨l⟩=>⟨.tup [.agg (cChg (headC l)),.bool (decide (l ≠ []))],[],[]⟩
theorem tFirstS_atG (l:List Chg):tFirstS [.iref [.sl 9 (rows cChg l)] 0] []=some (⟨.tup [.agg (cChg (headC l)),.bool (decide (l ≠ []))],[],[]⟩):=
 mA_ (ι:=tFirstX) (fun i j h=>by obtain ⟨l⟩:=i; obtain ⟨l2⟩:=j; simp [and_assoc,qB_,qI_,qO_,qC_,qE_,qK_,qR_,qV_,qP_,qOc_,rows_iff_Chg] at h; obtain rfl:=h; rfl) ⟨l⟩
theorem tFirstS_at (l:List Chg):tFirstS [.iref [.sl 9 (rows cChg l)] 0] []=some (⟨.tup [.agg (cChg (headC l)),.bool (decide (l ≠ []))],[],[]⟩):=tFirstS_atG l
theorem tFirst_ok:HSound Tryz.prog 46 tFirstS:=by
 refine sE_ (fn:=Tryz.f46) rfl rfl (by kernel_rfl) fun args bx hr hS=>?_
 obtain ⟨⟨l⟩,rfl,rfl,rfl⟩:=mO_ hS
 clear hS
 refine ⟨_,(eV_ (g:=47) (by kernel_rfl) tLen_ok (eN_ _)),by simp [Tryz.f46],by simp [go_sem],fun w Mx pin=>?_⟩
 simp only [hB_at,lab_nil,lab_cons,hOf_nil,hOf_cons]
 refine aQ_ ?_
 iterate 2
  refine oC_ fun J hJ=>?_
  simp [go_sem]
  refine hJ _ _ _ ?_
 refine oN_ ?_
 refine aS_ fun K2 hK2=>?_
 refine aS_ fun K3 hK3=>?_
 rcases head_cases l with ⟨h0,hh,hn⟩ | ⟨x,h0,hx,hh,hn⟩
 ·
  refine aR_ ?_
  iterate 3
   refine oC_ fun J hJ=>?_
   simp [go_sem,tLenS_at l,h0]
   refine hJ _ _ _ ?_
  refine oN_ ?_
  refine hK3 _ ?_
  refine aT_ rfl ?_
  refine aQ_ ?_
  iterate 3
   refine oC_ fun J hJ=>?_
   simp [go_sem]
   refine hJ _ _ _ ?_
  refine oN_ ?_
  refine aE_ ?_
  rw [hn,hh]
  refine fQ_ [] ?_
  simp [go_sem,Tryz.f46]
 ·
  have h1:((l.length:Int) == 0)=false:=by rw [beq_eq_false_iff_ne]; omega
  refine aR_ ?_
  iterate 3
   refine oC_ fun J hJ=>?_
   simp [go_sem,tLenS_at l,h1]
   refine hJ _ _ _ ?_
  refine oN_ ?_
  refine hK3 _ ?_
  refine aF_ rfl ?_
  refine aK_ ?_
  refine hK2 _ ?_
  refine aQ_ ?_
  iterate 8
   refine oC_ fun J hJ=>?_
   simp [go_sem,h0,↓hx,hx]
   refine hJ _ _ _ ?_
  refine oN_ ?_
  refine aE_ ?_
  rw [hn,hh]
  refine fQ_ [] ?_
  simp [go_sem,Tryz.f46]
structure tAllX where
 l:List Chg
 hL:l.length<=100000
noncomputable def tAllS:HSpec:=mkH (ι:=tAllX) (fun ⟨l,hL⟩=>([.iref [.sl 9 (rows cChg l)] 0],[])) fun ⟨l,hL⟩=>⟨.own (2,0) l.length,[],[.row 35 9 (rows cChg l) false]⟩
theorem tAllS_atG (l:List Chg) (hL:l.length<=100000):tAllS [.iref [.sl 9 (rows cChg l)] 0] []=some (⟨.own (2,0) l.length,[],[.row 35 9 (rows cChg l) false]⟩):=
 mA_ (ι:=tAllX) (fun i j h=>by obtain ⟨l,hL⟩:=i; obtain ⟨l2,hL2⟩:=j; simp [and_assoc,qB_,qI_,qO_,qC_,qE_,qK_,qR_,qV_,qP_,qOc_,rows_iff_Chg] at h; obtain rfl:=h; rfl) ⟨l,hL⟩
theorem tAllS_at (l:List Chg) (hL:l.length<=100000):tAllS [.iref [.sl 9 (rows cChg l)] 0] []=some (⟨.own (2,0) l.length,[],[.row 35 9 (rows cChg l) false]⟩):=tAllS_atG l hL
theorem tAll_ok:HSound Tryz.prog 37 tAllS:=by
 refine sE_ (fn:=Tryz.f37) rfl rfl (by kernel_rfl) fun args bx hr hS=>?_
 obtain ⟨⟨l,hL⟩,rfl,rfl,rfl⟩:=mO_ hS
 clear hS
 refine ⟨_,(eV_ (g:=33) (by kernel_rfl) cloneChg_ok (eN_ _)),by simp [Tryz.f37],by simp [go_sem],fun w Mx pin=>?_⟩
 simp only [hB_at,lab_nil,lab_cons,hOf_nil,hOf_cons]
 refine aQ_ ?_
 iterate 1
  refine oC_ fun J hJ=>?_
  simp [go_sem]
  refine hJ _ _ _ ?_
 refine oN_ ?_
 refine aS_ fun K2 hK2=>?_
 refine aQ_ ?_
 iterate 2
  refine oC_ fun J hJ=>?_
  simp [go_sem]
  refine hJ _ _ _ ?_
 refine oN_ ?_
 refine aF_ rfl ?_
 refine aK_ ?_
 refine hK2 _ ?_
 refine aQ_ ?_
 iterate 6
  refine oC_ fun J hJ=>?_
  simp [go_sem,cloneChgS_at l hL]
  refine hJ _ _ _ ?_
 refine oN_ ?_
 refine aE_ ?_
 refine fQ_ [((2,0),some (0,144))] ?_
 simp [go_sem,Tryz.f37]
structure tCloneX where
 l:List Chg
 hL:l.length<=100000
noncomputable def tCloneS:HSpec:=mkH (ι:=tCloneX) (fun ⟨l,hL⟩=>([.iref [.sl 9 (rows cChg l)] 0],[])) fun ⟨l,hL⟩=>⟨.ref (2,0) 0,[],[.obj [.own (2,1) l.length],.row 35 9 (rows cChg l) false]⟩
theorem tCloneS_atG (l:List Chg) (hL:l.length<=100000):tCloneS [.iref [.sl 9 (rows cChg l)] 0] []=some (⟨.ref (2,0) 0,[],[.obj [.own (2,1) l.length],.row 35 9 (rows cChg l) false]⟩):=
 mA_ (ι:=tCloneX) (fun i j h=>by obtain ⟨l,hL⟩:=i; obtain ⟨l2,hL2⟩:=j; simp [and_assoc,qB_,qI_,qO_,qC_,qE_,qK_,qR_,qV_,qP_,qOc_,rows_iff_Chg] at h; obtain rfl:=h; rfl) ⟨l,hL⟩
theorem tCloneS_at (l:List Chg) (hL:l.length<=100000):tCloneS [.iref [.sl 9 (rows cChg l)] 0] []=some (⟨.ref (2,0) 0,[],[.obj [.own (2,1) l.length],.row 35 9 (rows cChg l) false]⟩):=tCloneS_atG l hL
theorem tClone_ok:HSound Tryz.prog 45 tCloneS:=by
 refine sE_ (fn:=Tryz.f45) rfl rfl (by kernel_rfl) fun args bx hr hS=>?_
 obtain ⟨⟨l,hL⟩,rfl,rfl,rfl⟩:=mO_ hS
 clear hS
 refine ⟨_,(eV_ (g:=37) (by kernel_rfl) tAll_ok (eN_ _)),by simp [Tryz.f45],by simp [go_sem],fun w Mx pin=>?_⟩
 simp only [hB_at,lab_nil,lab_cons,hOf_nil,hOf_cons]
 refine aQ_ ?_
 iterate 1
  refine oC_ fun J hJ=>?_
  simp [go_sem]
  refine hJ _ _ _ ?_
 refine oN_ ?_
 refine aS_ fun K2 hK2=>?_
 refine aQ_ ?_
 iterate 2
  refine oC_ fun J hJ=>?_
  simp [go_sem]
  refine hJ _ _ _ ?_
 refine oN_ ?_
 refine aF_ rfl ?_
 refine aK_ ?_
 refine hK2 _ ?_
 refine aQ_ ?_
 iterate 5
  refine oC_ fun J hJ=>?_
  simp [go_sem,tAllS_at l hL]
  refine hJ _ _ _ ?_
 refine oN_ ?_
 refine aE_ ?_
 refine fQ_ [((2,0),some (0,128)),((2,1),some (0,96))] ?_
 simp [go_sem,Tryz.f45]
structure tPutX where
 l:List Chg
 l':AV
 c:Chg
 h_l:SlA 9 cChg l l'
 hL:l.length<=99998
noncomputable def tPutS:HSpec:=mkH (ι:=tPutX) (fun ⟨l,l',c,h_l,hL⟩=>([.ref (1,0) 0,.agg (cChg c)],[.obj [l']])) fun ⟨l,l',c,h_l,hL⟩=>⟨.bool (decide (placeC l c.id < 0)),[.obj [.sl 9 (rows cChg (tputL l c))]],[]⟩
theorem tPutS_atG (l:List Chg) (l':AV) (c:Chg) (h_l:SlA 9 cChg l l') (hL:l.length<=99998):tPutS [.ref (1,0) 0,.agg (cChg c)] [.obj [l']]=some (⟨.bool (decide (placeC l c.id < 0)),[.obj [.sl 9 (rows cChg (tputL l c))]],[]⟩):=
 mA_ (ι:=tPutX) (fun i j h=>by obtain ⟨l,l',c,h_l,hL⟩:=i; obtain ⟨l2,l'2,c2,h_l2,hL2⟩:=j; simp [and_assoc,qB_,qI_,qO_,qC_,qE_,qK_,qR_,qV_,qP_,qOc_,rows_iff_Chg] at h; obtain ⟨rfl,rfl⟩:=h; obtain rfl:=SlA.inj (fun x y h=>cChg_inj h) h_l h_l2; rfl) ⟨l,l',c,h_l,hL⟩
theorem tPutS_at (l:List Chg) (c:Chg) (hL:l.length<=99998):tPutS [.ref (1,0) 0,.agg (cChg c)] [.obj [(.sl 9 (rows cChg l))]]=some (⟨.bool (decide (placeC l c.id < 0)),[.obj [.sl 9 (rows cChg (tputL l c))]],[]⟩):=tPutS_atG l _ c .sl hL
theorem tPut_ok:HSound Tryz.prog 50 tPutS:=by
 refine sE_ (fn:=Tryz.f50) rfl rfl (by kernel_rfl) fun args bx hr hS=>?_
 obtain ⟨⟨l,l',c,h_l,hL⟩,rfl,rfl,rfl⟩:=mO_ hS
 clear hS
 refine ⟨_,(eV_ (g:=35) (by kernel_rfl) findC_ok (eV_ (g:=71) (by kernel_rfl) putC_ok (eN_ _))),by simp [Tryz.f50],by simp [go_sem],fun w Mx pin=>?_⟩
 simp only [hB_at,lab_nil,lab_cons,hOf_nil,hOf_cons]
 refine aW_ (s':=⟨ofL [(0,.ref (1,0) 0),(1,.agg (cChg c))],hOf [((1,0),.obj [(.sl 9 (rows cChg l))])]⟩) ?_ ?_
 · cases h_l <;> exact wO_ [((1,0),some (1,0))] (by simp [go_sem]) (by simp [go_sem]) (by simp [go_sem])
 clear h_l
 refine aQ_ ?_
 iterate 2
  refine oC_ fun J hJ=>?_
  simp [go_sem]
  refine hJ _ _ _ ?_
 refine oN_ ?_
 refine aS_ fun K2 hK2=>?_
 refine aU_ ?_
 iterate 12
  refine oC_ fun J hJ=>?_
  simp [go_sem,findCS_at l c.id (by omega)]
  refine hJ _ _ _ ?_
 refine oN_ ?_
 refine ⟨rfl,?_⟩
 refine aC_ (t:=_) rfl (fun c4=>?_) (fun c4=>?_)
 ·
  simp [go_sem] at c4
  refine aQ_ ?_
  iterate 1
   refine oC_ fun J hJ=>?_
   simp [go_sem]
   refine hJ _ _ _ ?_
  refine oN_ ?_
  refine aE_ ?_
  have hp:tputL l c=l:=if_pos (by omega)
  refine fQ_ [((1,0),some (1,0))] ?_
  simp [go_sem,Tryz.f50,hp,show ¬ placeC l c.id < 0 by omega]
 ·
  simp [go_sem] at c4
  refine aK_ ?_
  refine hK2 _ ?_
  refine aU_ ?_
  iterate 10
   refine oC_ fun J hJ=>?_
   simp [go_sem,putCS_at l c hL]
   refine hJ _ _ _ ?_
  refine oN_ ?_
  refine ⟨rfl,?_⟩
  refine aQ_ ?_
  iterate 1
   refine oC_ fun J hJ=>?_
   simp [go_sem]
   refine hJ _ _ _ ?_
  refine oN_ ?_
  refine aE_ ?_
  have hp:tputL l c=cputL c l:=if_neg (by omega)
  refine fQ_ [((1,0),some (1,0))] ?_
  simp [go_sem,Tryz.f50,hp,show placeC l c.id < 0 by omega]
structure tTakeX where
 l:List Chg
 l':AV
 a:Id
 h_l:SlA 9 cChg l l'
 hL:l.length<=99998
noncomputable def tTakeS:HSpec:=mkH (ι:=tTakeX) (fun ⟨l,l',a,h_l,hL⟩=>([.ref (1,0) 0,.agg (cId a)],[.obj [l']])) fun ⟨l,l',a,h_l,hL⟩=>⟨.tup [.agg (cChg (takeC l a)),.bool (freeC l a)],[.obj [.sl 9 (rows cChg (takeL l a))]],[]⟩
theorem tTakeS_atG (l:List Chg) (l':AV) (a:Id) (h_l:SlA 9 cChg l l') (hL:l.length<=99998):tTakeS [.ref (1,0) 0,.agg (cId a)] [.obj [l']]=some (⟨.tup [.agg (cChg (takeC l a)),.bool (freeC l a)],[.obj [.sl 9 (rows cChg (takeL l a))]],[]⟩):=
 mA_ (ι:=tTakeX) (fun i j h=>by obtain ⟨l,l',a,h_l,hL⟩:=i; obtain ⟨l2,l'2,a2,h_l2,hL2⟩:=j; simp [and_assoc,qB_,qI_,qO_,qC_,qE_,qK_,qR_,qV_,qP_,qOc_,rows_iff_Chg] at h; obtain ⟨rfl,rfl⟩:=h; obtain rfl:=SlA.inj (fun x y h=>cChg_inj h) h_l h_l2; rfl) ⟨l,l',a,h_l,hL⟩
theorem tTakeS_at (l:List Chg) (a:Id) (hL:l.length<=99998):tTakeS [.ref (1,0) 0,.agg (cId a)] [.obj [(.sl 9 (rows cChg l))]]=some (⟨.tup [.agg (cChg (takeC l a)),.bool (freeC l a)],[.obj [.sl 9 (rows cChg (takeL l a))]],[]⟩):=tTakeS_atG l _ a .sl hL
theorem tTake_ok:HSound Tryz.prog 51 tTakeS:=by
 refine sE_ (fn:=Tryz.f51) rfl rfl (by kernel_rfl) fun args bx hr hS=>?_
 obtain ⟨⟨l,l',a,h_l,hL⟩,rfl,rfl,rfl⟩:=mO_ hS
 clear hS
 refine ⟨_,(eV_ (g:=72) (by kernel_rfl) tFree_ok (eV_ (g:=35) (by kernel_rfl) findC_ok (eV_ (g:=73) (by kernel_rfl) withC_ok (eN_ _)))),by simp [Tryz.f51],by simp [go_sem],fun w Mx pin=>?_⟩
 simp only [hB_at,lab_nil,lab_cons,hOf_nil,hOf_cons]
 refine aW_ (s':=⟨ofL [(0,.ref (1,0) 0),(1,.agg (cId a))],hOf [((1,0),.obj [(.sl 9 (rows cChg l))])]⟩) ?_ ?_
 · cases h_l <;> exact wO_ [((1,0),some (1,0))] (by simp [go_sem]) (by simp [go_sem]) (by simp [go_sem])
 clear h_l
 refine aQ_ ?_
 iterate 3
  refine oC_ fun J hJ=>?_
  simp [go_sem]
  refine hJ _ _ _ ?_
 refine oN_ ?_
 refine aS_ fun K2 hK2=>?_
 refine aS_ fun K3 hK3=>?_
 cases hf:freeC l a
 ·
  have h1:takeC l a=zChg:=if_neg (by simp [hf])
  have h2:takeL l a=l:=if_neg (by simp [hf])
  refine aR_ ?_
  iterate 4
   refine oC_ fun J hJ=>?_
   simp [go_sem,tFreeS_at l a (by omega),hf]
   refine hJ _ _ _ ?_
  refine oN_ ?_
  refine hK3 _ ?_
  refine aT_ rfl ?_
  refine aQ_ ?_
  iterate 3
   refine oC_ fun J hJ=>?_
   simp [go_sem]
   refine hJ _ _ _ ?_
  refine oN_ ?_
  refine aE_ ?_
  refine fQ_ [((1,0),some (1,0))] ?_
  simp [go_sem,Tryz.f51,h1,h2,hf]
 ·
  have h2:takeL l a=withoutL l (placeC l a):=if_pos hf
  have hp:0<=placeC l a:=by simp only [freeC,Bool.and_eq_true,decide_eq_true_eq] at hf; exact hf.1
  obtain h | ⟨k,x,hk,hpk,hx,_⟩:=placeC_at l a
  · omega
  have h1:takeC l a=x:=by simp [takeC,hf,hpk,hx]
  refine aR_ ?_
  iterate 4
   refine oC_ fun J hJ=>?_
   simp [go_sem,tFreeS_at l a (by omega),hf]
   refine hJ _ _ _ ?_
  refine oN_ ?_
  refine hK3 _ ?_
  refine aF_ rfl ?_
  refine aK_ ?_
  refine hK2 _ ?_
  refine aU_ ?_
  iterate 7
   refine oC_ fun J hJ=>?_
   simp [go_sem,findCS_at l a (by omega),hpk]
   refine hJ _ _ _ ?_
  refine oN_ ?_
  refine ⟨rfl,?_⟩
  refine aQ_ ?_
  iterate 9
   refine oC_ fun J hJ=>?_
   simp [go_sem,hk,↓hx,hx]
   refine hJ _ _ _ ?_
  refine oN_ ?_
  refine aQ_ ?_
  iterate 10
   refine oC_ fun J hJ=>?_
   simp [go_sem,withCS_at l (k:Int) (by omega)]
   refine hJ _ _ _ ?_
  refine oN_ ?_
  refine aQ_ ?_
  iterate 3
   refine oC_ fun J hJ=>?_
   simp [go_sem]
   refine hJ _ _ _ ?_
  refine oN_ ?_
  refine aE_ ?_
  refine fQ_ [((1,0),some (1,0))] ?_
  simp [go_sem,Tryz.f51,h1,h2,hpk,hf]
end Go.Proofs.YtjoaigccapegpaaGreat.AE
