/-
 Package stamp, first part: contracts. Conditions: none; every contract names its own.
-/
import Derived.Test.YtjoaigccapegpaaGreatPe
import Derived.Test.YtjoaigccapegpaaGreatOSlC
set_option linter.constructorNameAsVariable false
namespace Go.Proofs.YtjoaigccapegpaaGreat.AE
open Go Go.Proofs Go.RowKit
set_option linter.unusedVariables false
set_option linter.unusedSimpArgs false
set_option maxRecDepth 100000
set_option maxHeartbeats 4000000
def ordChg (a b:Chg):Int:=orL [cmpI a.time b.time,cmpI a.id.rep b.id.rep,cmpI a.id.seq b.id.seq]
def lessChg (a b:Chg):Bool:=decide (ordChg a b < 0)
def lessCR (a b:Chg):Bool:=decide (a.time < b.time\/a.time=b.time/\(a.id.rep < b.id.rep\/a.id.rep=b.id.rep/\a.id.seq < b.id.seq))
theorem lessCR_eq (a b:Chg):lessCR a b=lessChg a b:=by
 have h:(ordChg a b < 0) ↔ (a.time < b.time\/a.time=b.time/\(a.id.rep < b.id.rep\/a.id.rep=b.id.rep/\a.id.seq < b.id.seq)):=by
  simp only [ordChg,orL,cmpI]
  split <;> split <;> (try split) <;> (try split) <;> (try split) <;> (try split) <;> (try split) <;> omega
 unfold lessChg lessCR
 exact decide_eq_decide.2 h.symm
structure ordChgX where
 a:Chg
 b:Chg
noncomputable def ordChgS:HSpec:=mkH (ι:=ordChgX) (fun ⟨a,b⟩=>([.agg (cChg a),.agg (cChg b)],[])) fun ⟨a,b⟩=>⟨.int .i64 (ordChg a b),[],[]⟩
theorem ordChgS_atG (a:Chg) (b:Chg):ordChgS [.agg (cChg a),.agg (cChg b)] []=some (⟨.int .i64 (ordChg a b),[],[]⟩):=
 mA_ (ι:=ordChgX) (fun i j h=>by obtain ⟨a,b⟩:=i; obtain ⟨a2,b2⟩:=j; simp [and_assoc,qB_,qI_,qO_,qC_,qE_,qK_,qR_,qV_,qP_,qOc_] at h; obtain ⟨rfl,rfl⟩:=h; rfl) ⟨a,b⟩
theorem ordChgS_at (a:Chg) (b:Chg):ordChgS [.agg (cChg a),.agg (cChg b)] []=some (⟨.int .i64 (ordChg a b),[],[]⟩):=ordChgS_atG a b
theorem ordChg_ok:HSound Tryz.prog 98 ordChgS:=by
 refine sE_ (fn:=Tryz.f98) rfl rfl (by kernel_rfl) fun args bx hr hS=>?_
 obtain ⟨⟨a,b⟩,rfl,rfl,rfl⟩:=mO_ hS
 clear hS
 refine ⟨_,(eV_ (g:=112) (by kernel_rfl) cmp_ok (eV_ (g:=111) (by kernel_rfl) or_ok (eN_ _))),by simp [Tryz.f98],by simp [go_sem],fun w Mx pin=>?_⟩
 simp only [hB_at,lab_nil,lab_cons,hOf_nil,hOf_cons]
 refine aQ_ ?_
 iterate 3
  refine oC_ fun J hJ=>?_
  simp [go_sem]
  refine hJ _ _ _ ?_
 refine oN_ ?_
 refine aU_ ?_
 iterate 22
  refine oC_ fun J hJ=>?_
  simp [go_sem,cmpS_at,orS_at [cmpI a.time b.time,cmpI a.id.rep b.id.rep,cmpI a.id.seq b.id.seq] (by simp)]
  refine hJ _ _ _ ?_
 refine oN_ ?_
 refine ⟨rfl,?_⟩
 refine aE_ ?_
 refine fQ_ [] ?_
 simp [go_sem,Tryz.f98,ordChg]
structure lessChgX where
 a:Chg
 b:Chg
noncomputable def lessChgS:HSpec:=mkH (ι:=lessChgX) (fun ⟨a,b⟩=>([.agg (cChg a),.agg (cChg b)],[])) fun ⟨a,b⟩=>⟨.bool (lessChg a b),[],[]⟩
theorem lessChgS_atG (a:Chg) (b:Chg):lessChgS [.agg (cChg a),.agg (cChg b)] []=some (⟨.bool (lessChg a b),[],[]⟩):=
 mA_ (ι:=lessChgX) (fun i j h=>by obtain ⟨a,b⟩:=i; obtain ⟨a2,b2⟩:=j; simp [and_assoc,qB_,qI_,qO_,qC_,qE_,qK_,qR_,qV_,qP_,qOc_] at h; obtain ⟨rfl,rfl⟩:=h; rfl) ⟨a,b⟩
theorem lessChgS_at (a:Chg) (b:Chg):lessChgS [.agg (cChg a),.agg (cChg b)] []=some (⟨.bool (lessChg a b),[],[]⟩):=lessChgS_atG a b
theorem lessChg_ok:HSound Tryz.prog 90 lessChgS:=by
 refine sE_ (fn:=Tryz.f90) rfl rfl (by kernel_rfl) fun args bx hr hS=>?_
 obtain ⟨⟨a,b⟩,rfl,rfl,rfl⟩:=mO_ hS
 clear hS
 refine ⟨_,(eV_ (g:=98) (by kernel_rfl) ordChg_ok (eN_ _)),by simp [Tryz.f90],by simp [go_sem],fun w Mx pin=>?_⟩
 simp only [hB_at,lab_nil,lab_cons,hOf_nil,hOf_cons]
 refine aQ_ ?_
 iterate 3
  refine oC_ fun J hJ=>?_
  simp [go_sem]
  refine hJ _ _ _ ?_
 refine oN_ ?_
 refine aQ_ ?_
 iterate 5
  refine oC_ fun J hJ=>?_
  simp [go_sem,ordChgS_at]
  refine hJ _ _ _ ?_
 refine oN_ ?_
 refine aE_ ?_
 refine fQ_ [] ?_
 simp [go_sem,Tryz.f90,lessChg]
structure lessCRX where
 a:Chg
 b:Chg
noncomputable def lessCRS:HSpec:=mkH (ι:=lessCRX) (fun ⟨a,b⟩=>([.agg (cChg a),.agg (cChg b)],[])) fun ⟨a,b⟩=>⟨.bool (lessCR a b),[],[]⟩
theorem lessCRS_atG (a:Chg) (b:Chg):lessCRS [.agg (cChg a),.agg (cChg b)] []=some (⟨.bool (lessCR a b),[],[]⟩):=
 mA_ (ι:=lessCRX) (fun i j h=>by obtain ⟨a,b⟩:=i; obtain ⟨a2,b2⟩:=j; simp [and_assoc,qB_,qI_,qO_,qC_,qE_,qK_,qR_,qV_,qP_,qOc_] at h; obtain ⟨rfl,rfl⟩:=h; rfl) ⟨a,b⟩
theorem lessCRS_at (a:Chg) (b:Chg):lessCRS [.agg (cChg a),.agg (cChg b)] []=some (⟨.bool (lessCR a b),[],[]⟩):=lessCRS_atG a b
theorem lessCR_ok:HSound Tryz.prog 78 lessCRS:=by
 refine sE_ (fn:=Tryz.f78) rfl rfl (by kernel_rfl) fun args bx hr hS=>?_
 obtain ⟨⟨a,b⟩,rfl,rfl,rfl⟩:=mO_ hS
 clear hS
 refine ⟨_,(eN_ _),by simp [Tryz.f78],by simp [go_sem],fun w Mx pin=>?_⟩
 simp only [hB_at,lab_nil,lab_cons,hOf_nil,hOf_cons]
 refine aQ_ ?_
 iterate 3
  refine oC_ fun J hJ=>?_
  simp [go_sem]
  refine hJ _ _ _ ?_
 refine oN_ ?_
 refine aS_ fun K2 hK2=>?_
 refine aQ_ ?_
 iterate 5
  refine oC_ fun J hJ=>?_
  simp [go_sem]
  refine hJ _ _ _ ?_
 refine oN_ ?_
 refine aC_ (t:=_) rfl (fun c4=>?_) (fun c4=>?_)
 ·
  simp [go_sem] at c4
  refine aQ_ ?_
  iterate 6
   refine oC_ fun J hJ=>?_
   simp [go_sem]
   refine hJ _ _ _ ?_
  refine oN_ ?_
  refine aE_ ?_
  refine fQ_ [] ?_
  simp [go_sem,Tryz.f78,lessCR]
  try (first | done | (intros; omega) | (rw [Bool.eq_iff_iff]; simp; omega))
 ·
  simp [go_sem] at c4
  refine aK_ ?_
  refine hK2 _ ?_
  refine aS_ fun K6 hK6=>?_
  refine aQ_ ?_
  iterate 7
   refine oC_ fun J hJ=>?_
   simp [go_sem]
   refine hJ _ _ _ ?_
  refine oN_ ?_
  refine aC_ (t:=_) rfl (fun c8=>?_) (fun c8=>?_)
  ·
   simp [go_sem] at c8
   refine aQ_ ?_
   iterate 8
    refine oC_ fun J hJ=>?_
    simp [go_sem]
    refine hJ _ _ _ ?_
   refine oN_ ?_
   refine aE_ ?_
   refine fQ_ [] ?_
   simp [go_sem,Tryz.f78,lessCR]
   try (first | done | (intros; omega) | (rw [Bool.eq_iff_iff]; simp; omega))
  ·
   simp [go_sem] at c8
   refine aK_ ?_
   refine hK6 _ ?_
   refine aQ_ ?_
   iterate 8
    refine oC_ fun J hJ=>?_
    simp [go_sem]
    refine hJ _ _ _ ?_
   refine oN_ ?_
   refine aE_ ?_
   refine fQ_ [] ?_
   simp [go_sem,Tryz.f78,lessCR]
   try (first | done | (intros; omega) | (rw [Bool.eq_iff_iff]; simp; omega))
theorem idx3 (i:Int) (n:Nat):i < 0\/(¬ i < 0/\(n:Int)<=i)\/∃ k:Nat,i=k/\k < n:=by
 by_cases h:i < 0
 · exact .inl h
 ·
  by_cases h2:(n:Int)<=i
  · exact .inr (.inl ⟨h,h2⟩)
  · exact .inr (.inr ⟨i.toNat,by omega,by omega⟩)
def isChg (a:Id) (x:Chg):Bool:=decide (x.id=a)
def placeC (l:List Chg) (a:Id):Int:=idxL (isChg a) l 0
structure isChgX where
 x:Chg
 a:Id
noncomputable def isChgS:HSpec:=mkH (ι:=isChgX) (fun ⟨x,a⟩=>([.agg (cChg x),.iref (cId a) 0],[])) fun ⟨x,a⟩=>⟨.bool (isChg a x),[],[]⟩
theorem isChgS_atG (x:Chg) (a:Id):isChgS [.agg (cChg x),.iref (cId a) 0] []=some (⟨.bool (isChg a x),[],[]⟩):=
 mA_ (ι:=isChgX) (fun i j h=>by obtain ⟨x,a⟩:=i; obtain ⟨x2,a2⟩:=j; simp [and_assoc,qB_,qI_,qO_,qC_,qE_,qK_,qR_,qV_,qP_,qOc_] at h; obtain ⟨rfl,rfl⟩:=h; rfl) ⟨x,a⟩
theorem isChgS_at (x:Chg) (a:Id):isChgS [.agg (cChg x),.iref (cId a) 0] []=some (⟨.bool (isChg a x),[],[]⟩):=isChgS_atG x a
theorem isChg_ok:HSound Tryz.prog 64 isChgS:=by
 refine sE_ (fn:=Tryz.f64) rfl rfl (by kernel_rfl) fun args bx hr hS=>?_
 obtain ⟨⟨x,a⟩,rfl,rfl,rfl⟩:=mO_ hS
 clear hS
 refine ⟨_,(eN_ _),by simp [Tryz.f64],by simp [go_sem],fun w Mx pin=>?_⟩
 simp only [hB_at,lab_nil,lab_cons,hOf_nil,hOf_cons]
 refine aQ_ ?_
 iterate 2
  refine oC_ fun J hJ=>?_
  simp [go_sem]
  refine hJ _ _ _ ?_
 refine oN_ ?_
 refine aQ_ ?_
 iterate 5
  refine oC_ fun J hJ=>?_
  simp [go_sem]
  refine hJ _ _ _ ?_
 refine oN_ ?_
 refine aE_ ?_
 refine fQ_ [] ?_
 simp [go_sem,Tryz.f64,isChg]
structure findCX where
 l:List Chg
 l':AV
 a:Id
 h_l:SlA 9 cChg l l'
 hL:l.length<=100000
noncomputable def findCS:HSpec:=mkH (ι:=findCX) (fun ⟨l,l',a,h_l,hL⟩=>([l',.agg (cId a)],[])) fun ⟨l,l',a,h_l,hL⟩=>⟨.int .i64 (placeC l a),[],[]⟩
theorem findCS_atG (l:List Chg) (l':AV) (a:Id) (h_l:SlA 9 cChg l l') (hL:l.length<=100000):findCS [l',.agg (cId a)] []=some (⟨.int .i64 (placeC l a),[],[]⟩):=
 mA_ (ι:=findCX) (fun i j h=>by obtain ⟨l,l',a,h_l,hL⟩:=i; obtain ⟨l2,l'2,a2,h_l2,hL2⟩:=j; simp [and_assoc,qB_,qI_,qO_,qC_,qE_,qK_,qR_,qV_,qP_,qOc_] at h; obtain ⟨rfl,rfl⟩:=h; obtain rfl:=SlA.inj (fun x y h=>cChg_inj h) h_l h_l2; rfl) ⟨l,l',a,h_l,hL⟩
theorem findCS_at (l:List Chg) (a:Id) (hL:l.length<=100000):findCS [(.sl 9 (rows cChg l)),.agg (cId a)] []=some (⟨.int .i64 (placeC l a),[],[]⟩):=findCS_atG l _ a .sl hL
theorem findC_ok:HSound Tryz.prog 35 findCS:=by
 refine sE_ (fn:=Tryz.f35) rfl rfl (by kernel_rfl) fun args bx hr hS=>?_
 obtain ⟨⟨l,l',a,h_l,hL⟩,rfl,rfl,rfl⟩:=mO_ hS
 clear hS
 refine ⟨_,(eV_ (g:=63) (by kernel_rfl) (indexChg_ok 64 [.iref (cId a) 0] (isChg a) isChgS (by kernel_rfl) isChg_ok (fun x=>isChgS_at x a) (fun H=>by simp [go_sem]) (fun H0 H=>by simp [go_sem])) (eN_ _)),by simp [Tryz.f35],by simp [go_sem],fun w Mx pin=>?_⟩
 simp only [hB_at,lab_nil,lab_cons,hOf_nil,hOf_cons]
 refine aW_ (s':=⟨ofL [(0,(.sl 9 (rows cChg l))),(1,.agg (cId a))],hOf []⟩) ?_ ?_
 · cases h_l <;> exact wO_ [] (by simp [go_sem]) (by simp [go_sem]) (by simp [go_sem])
 clear h_l
 refine aQ_ ?_
 iterate 2
  refine oC_ fun J hJ=>?_
  simp [go_sem]
  refine hJ _ _ _ ?_
 refine oN_ ?_
 refine aQ_ ?_
 iterate 4
  refine oC_ fun J hJ=>?_
  simp [go_sem,indexChgS_at _ _ (isChg a) l hL]
  refine hJ _ _ _ ?_
 refine oN_ ?_
 refine aE_ ?_
 refine fQ_ [] ?_
 simp [go_sem,Tryz.f35,placeC]
def withoutL (l:List Chg) (i:Int):List Chg:=if i < 0\/(l.length:Int)<=i then l else l.take i.toNat++l.drop (i.toNat + 1)
structure withCX where
 l:List Chg
 l':AV
 i:Int
 h_l:SlA 9 cChg l l'
 hL:l.length<=100000
noncomputable def withCS:HSpec:=mkH (ι:=withCX) (fun ⟨l,l',i,h_l,hL⟩=>([l',.int .i64 i],[])) fun ⟨l,l',i,h_l,hL⟩=>⟨.own (2,0) (withoutL l i).length,[],[.row 35 9 (rows cChg (withoutL l i)) false]⟩
theorem withCS_atG (l:List Chg) (l':AV) (i:Int) (h_l:SlA 9 cChg l l') (hL:l.length<=100000):withCS [l',.int .i64 i] []=some (⟨.own (2,0) (withoutL l i).length,[],[.row 35 9 (rows cChg (withoutL l i)) false]⟩):=
 mA_ (ι:=withCX) (fun i j h=>by obtain ⟨l,l',i,h_l,hL⟩:=i; obtain ⟨l2,l'2,i2,h_l2,hL2⟩:=j; simp [and_assoc,qB_,qI_,qO_,qC_,qE_,qK_,qR_,qV_,qP_,qOc_] at h; obtain ⟨rfl,rfl⟩:=h; obtain rfl:=SlA.inj (fun x y h=>cChg_inj h) h_l h_l2; rfl) ⟨l,l',i,h_l,hL⟩
theorem withCS_at (l:List Chg) (i:Int) (hL:l.length<=100000):withCS [(.sl 9 (rows cChg l)),.int .i64 i] []=some (⟨.own (2,0) (withoutL l i).length,[],[.row 35 9 (rows cChg (withoutL l i)) false]⟩):=withCS_atG l _ i .sl hL
theorem withC_ok:HSound Tryz.prog 73 withCS:=by
 refine sE_ (fn:=Tryz.f73) rfl rfl (by kernel_rfl) fun args bx hr hS=>?_
 obtain ⟨⟨l,l',i,h_l,hL⟩,rfl,rfl,rfl⟩:=mO_ hS
 clear hS
 refine ⟨_,(eV_ (g:=33) (by kernel_rfl) cloneChg_ok (eV_ (g:=54) (by kernel_rfl) concatChg_ok (eN_ _))),by simp [Tryz.f73],by simp [go_sem],fun w Mx pin=>?_⟩
 simp only [hB_at,lab_nil,lab_cons,hOf_nil,hOf_cons]
 refine aW_ (s':=⟨ofL [(0,(.sl 9 (rows cChg l))),(1,.int .i64 i)],hOf []⟩) ?_ ?_
 · cases h_l <;> exact wO_ [] (by simp [go_sem]) (by simp [go_sem]) (by simp [go_sem])
 clear h_l
 refine aQ_ ?_
 iterate 1
  refine oC_ fun J hJ=>?_
  simp [go_sem]
  refine hJ _ _ _ ?_
 refine oN_ ?_
 refine aS_ fun K2 hK2=>?_
 refine aS_ fun K3 hK3=>?_
 rcases (show i < 0\/(¬ i < 0/\(l.length:Int)<=i)\/∃ k:Nat,i=k/\k < l.length from idx3 i l.length) with hi | ⟨hi,hi2⟩ | ⟨k,rfl,hk⟩
 ·
  have hw:withoutL l i=l:=if_pos (.inl hi)
  refine aR_ ?_
  iterate 8
   refine oC_ fun J hJ=>?_
   simp [go_sem,hi]
   refine hJ _ _ _ ?_
  refine oN_ ?_
  refine hK3 _ ?_
  refine aT_ rfl ?_
  refine aQ_ ?_
  iterate 3
   refine oC_ fun J hJ=>?_
   simp [go_sem,cloneChgS_at l hL]
   refine hJ _ _ _ ?_
  refine oN_ ?_
  refine aE_ ?_
  refine fQ_ [((2,0),some (0,224))] ?_
  simp [go_sem,Tryz.f73,hw]
 ·
  have hw:withoutL l i=l:=if_pos (.inr hi2)
  refine aR_ ?_
  iterate 8
   refine oC_ fun J hJ=>?_
   simp [go_sem,hi,hi2]
   refine hJ _ _ _ ?_
  refine oN_ ?_
  refine hK3 _ ?_
  refine aT_ rfl ?_
  refine aQ_ ?_
  iterate 3
   refine oC_ fun J hJ=>?_
   simp [go_sem,cloneChgS_at l hL]
   refine hJ _ _ _ ?_
  refine oN_ ?_
  refine aE_ ?_
  refine fQ_ [((2,0),some (0,224))] ?_
  simp [go_sem,Tryz.f73,hw]
 ·
  have hw:withoutL l (k:Int)=l.take k++l.drop (k + 1):=by
   unfold withoutL
   rw [if_neg (by omega)]
   simp
  have hk1:k<=l.length:=by omega
  have hk2:k + 1<=l.length:=by omega
  have hn:¬ l.length<=k:=by omega
  have wk:=wN_ (n:=k) (by omega)
  have hkt:((k:Int) + 1).toNat=k + 1:=by omega
  have h0:(0:Int)<=(k:Int) + 1:=by omega
  refine aR_ ?_
  iterate 8
   refine oC_ fun J hJ=>?_
   simp [go_sem,hn]
   refine hJ _ _ _ ?_
  refine oN_ ?_
  refine hK3 _ ?_
  refine aF_ rfl ?_
  refine aK_ ?_
  refine hK2 _ ?_
  refine aU_ ?_
  iterate 10
   refine oC_ fun J hJ=>?_
   simp [go_sem,wk,hk1,hk2,hkt,h0,concatChgS_at2 (l.take k) (l.drop (k + 1)) (by simp; omega)]
   refine hJ _ _ _ ?_
  refine oN_ ?_
  refine ⟨rfl,?_⟩
  refine aE_ ?_
  refine fQ_ [((2,0),some (0,368))] ?_
  simp [go_sem,Tryz.f73,hw,Nat.min_eq_left hk1]
end Go.Proofs.YtjoaigccapegpaaGreat.AE
