/-
 Law 07: StampLists. Conditions: none; every contract names its own.
-/
import Derived.Test.YtebflegkdfhoaaaOAl07
import Derived.Test.YtebflegkdfhoaaaORf7
import Derived.Test.YtebflegkdfhoaaaPe
set_option linter.constructorNameAsVariable false
namespace Go.Proofs.Ytebflegkdfhoaaa.AE
open Go Go.Proofs Go.RowKit
set_option linter.unusedVariables false
set_option linter.unusedSimpArgs false
set_option maxRecDepth 100000
set_option maxHeartbeats 4000000
structure few07X where
 l : List Chg
 l' : AV
 h_l : SlA 9 cChg l l'
noncomputable def few07S : HSpec := mkH (ι := few07X) (fun ⟨l, l', h_l⟩ => ([l'], [])) fun ⟨l, l', h_l⟩ => ⟨.sl 9 (rows cChg (l.take 40)), [], []⟩
theorem few07S_atG (l : List Chg) (l' : AV) (h_l : SlA 9 cChg l l') : few07S [l'] [] = some (⟨.sl 9 (rows cChg (l.take 40)), [], []⟩) :=
 mA_ (ι := few07X) (fun i j h => by obtain ⟨l, l', h_l⟩ := i; obtain ⟨l2, l'2, h_l2⟩ := j; simp [and_assoc, qB_, qI_, qO_, qC_, qE_, qK_, qR_, qV_, qP_, qOc_] at h; obtain rfl := h; obtain rfl := SlA.inj (fun x y h => cChg_inj h) h_l h_l2; rfl) ⟨l, l', h_l⟩
theorem few07S_at (l : List Chg) : few07S [(.sl 9 (rows cChg l))] [] = some (⟨.sl 9 (rows cChg (l.take 40)), [], []⟩) := few07S_atG l _ .sl
theorem few07S_atN : few07S [.nils] [] = some ((fun (l : List Chg) => ⟨.sl 9 (rows cChg (l.take 40)), [], []⟩) []) := few07S_atG [] _ .nil
theorem few07_ok : HSound Try.prog 40 few07S := by
 refine sE_ (fn := Try.f40) rfl rfl (by kernel_rfl) fun args bx hr hS => ?_
 obtain ⟨⟨l, l', h_l⟩, rfl, rfl, rfl⟩ := mO_ hS
 clear hS
 refine ⟨_, (eN_ _), by simp [Try.f40], by simp [go_sem], fun w Mx pin => ?_⟩
 simp only [hB_at, lab_nil, lab_cons, hOf_nil, hOf_cons]
 refine aW_ (s' := ⟨ofL [(0, (.sl 9 (rows cChg l)))], hOf []⟩) ?_ ?_
 · cases h_l <;> exact wO_ [] (by simp [go_sem]) (by simp [go_sem]) (by simp [go_sem])
 clear h_l
 refine aQ_ ?_
 iterate 1
  refine oC_ fun J hJ => ?_
  simp [go_sem]
  refine hJ _ _ _ ?_
 refine oN_ ?_
 refine aS_ fun K2 hK2 => ?_
 refine aQ_ ?_
 iterate 3
  refine oC_ fun J hJ => ?_
  simp [go_sem]
  refine hJ _ _ _ ?_
 refine oN_ ?_
 refine aC_ (t := _) rfl (fun c4 => ?_) (fun c4 => ?_)
 ·
  simp [go_sem] at c4
  refine aQ_ ?_
  iterate 3
   refine oC_ fun J hJ => ?_
   simp [go_sem, show 40 ≤ l.length by omega]
   refine hJ _ _ _ ?_
  refine oN_ ?_
  refine aE_ ?_
  refine fQ_ [] ?_
  first | (simp [go_sem, Try.f40]; done) | (simp [go_sem, Try.f40, List.take_of_length_le (show l.length ≤ 40 by omega)]; done)
 ·
  simp [go_sem] at c4
  refine aK_ ?_
  refine hK2 _ ?_
  refine aQ_ ?_
  iterate 2
   refine oC_ fun J hJ => ?_
   simp [go_sem]
   refine hJ _ _ _ ?_
  refine oN_ ?_
  refine aE_ ?_
  refine fQ_ [] ?_
  first | (simp [go_sem, Try.f40]; done) | (simp [go_sem, Try.f40, List.take_of_length_le (show l.length ≤ 40 by omega)]; done)
structure stampListsX where
 l : List Chg
 l' : AV
 c : Chg
 a : Id
 i : Int
 h_l : SlA 9 cChg l l'
noncomputable def stampListsS : HSpec := mkH (ι := stampListsX) (fun ⟨l, l', c, a, i, h_l⟩ => ([l', .agg (cChg c), .agg (cId a), .int .i64 i], [])) fun ⟨l, l', c, a, i, h_l⟩ => ⟨.bool true, [], []⟩
theorem stampListsS_atG (l : List Chg) (l' : AV) (c : Chg) (a : Id) (i : Int) (h_l : SlA 9 cChg l l') : stampListsS [l', .agg (cChg c), .agg (cId a), .int .i64 i] [] = some (⟨.bool true, [], []⟩) :=
 mA_ (ι := stampListsX) (fun i j h => by obtain ⟨l, l', c, a, i, h_l⟩ := i; obtain ⟨l2, l'2, c2, a2, i2, h_l2⟩ := j; simp [and_assoc, qB_, qI_, qO_, qC_, qE_, qK_, qR_, qV_, qP_, qOc_] at h; obtain ⟨rfl, rfl, rfl, rfl⟩ := h; obtain rfl := SlA.inj (fun x y h => cChg_inj h) h_l h_l2; rfl) ⟨l, l', c, a, i, h_l⟩
theorem stampListsS_at (l : List Chg) (c : Chg) (a : Id) (i : Int) : stampListsS [(.sl 9 (rows cChg l)), .agg (cChg c), .agg (cId a), .int .i64 i] [] = some (⟨.bool true, [], []⟩) := stampListsS_atG l _ c a i .sl
theorem stampListsS_atN (c : Chg) (a : Id) (i : Int) : stampListsS [.nils, .agg (cChg c), .agg (cId a), .int .i64 i] [] = some ((fun (l : List Chg) => ⟨.bool true, [], []⟩) []) := stampListsS_atG [] _ c a i .nil
def stampListsI (L : List Chg) (c : Chg) (a : Id) (i : Int) (pre _post : List Chg) (t : Int) : St := ⟨ofL [(0, .sl 9 (rows cChg L)), (3, .int .i64 i), (5, .ref (0, 80) 0), (6, .ref (0, 96) 0), (9, .own (0, 320) L.length), (10, .int .i64 t), (11, .int .i64 pre.length)], hOf [((0, 80), .obj (cChg c)), ((0, 96), .obj (cId a)), ((0, 320), .row 26 9 (rows cChg L) false)]⟩
theorem stampLists_ok : HSound Try.prog 10 stampListsS := by
 refine sE_ (fn := Try.f10) rfl rfl (by kernel_rfl) fun args bx hr hS => ?_
 obtain ⟨⟨l, l', c, a, i, h_l⟩, rfl, rfl, rfl⟩ := mO_ hS
 clear hS
 refine ⟨_, (eV_ (g := 37) (by kernel_rfl) alive07_ok (eV_ (g := 38) (by kernel_rfl) lessChg_ok (eV_ (g := 48) (by kernel_rfl) sorted_ok (eV_ (g := 45) (by kernel_rfl) findC_ok (eV_ (g := 47) (by kernel_rfl) lastC_ok (eV_ (g := 42) (by kernel_rfl) withC_ok (eV_ (g := 39) (by kernel_rfl) lessCR_ok (eV_ (g := 40) (by kernel_rfl) few07_ok (eV_ (g := 41) (by kernel_rfl) putC_ok (eV_ (g := 43) (by kernel_rfl) putCR_ok (eV_ (g := 46) (by kernel_rfl) findCR_ok (eV_ (g := 44) (by kernel_rfl) withCR_ok (eV_ (g := 21) (by kernel_rfl) plChg_ok (eN_ _)))))))))))))), by simp [Try.f10], by simp [go_sem], fun w Mx pin => ?_⟩
 simp only [hB_at, lab_nil, lab_cons, hOf_nil, hOf_cons]
 refine aW_ (s' := ⟨ofL [(0, (.sl 9 (rows cChg l))), (1, .agg (cChg c)), (2, .agg (cId a)), (3, .int .i64 i)], hOf []⟩) ?_ ?_
 · cases h_l <;> exact wO_ [] (by simp [go_sem]) (by simp [go_sem]) (by simp [go_sem])
 clear h_l
 obtain ⟨L, hLd⟩ : ∃ L, L = l.take 40 := ⟨_, rfl⟩
 have e40 : L.length ≤ 40 := by rw [hLd]; simp; omega
 have e6 : L.length ≤ 100000 := by omega
 have e5 : L.length ≤ 50000 := by omega
 have e4 : L.length ≤ 99998 := by omega
 have e7 : (cputL c L).length ≤ 100000 := by have := putAt_le c L; simp [cputL]; omega
 have e8 : (withoutL L i).length ≤ 100000 := by have := withG_len i L 0; rw [withG_eq] at this; omega
 have m1 : L.length * 72 ≤ 140737488355328 := by omega
 have m2 : L.length ≤ maxLen := by simp only [maxLen]; omega
 refine aQ_ ?_
 iterate 3
  refine oC_ fun J hJ => ?_
  simp [go_sem]
  refine hJ _ _ _ ?_
 refine oN_ ?_
 refine aS_ fun K2 hK2 => ?_
 refine aQ_ ?_
 iterate 2
  refine oC_ fun J hJ => ?_
  simp [go_sem, alive07S_at]
  refine hJ _ _ _ ?_
 refine oN_ ?_
 refine aF_ rfl ?_
 refine aK_ ?_
 refine hK2 _ ?_
 refine aQ_ ?_
 iterate 3
  refine oC_ fun J hJ => ?_
  simp [go_sem, few07S_at, ← hLd]
  refine hJ _ _ _ ?_
 refine oN_ ?_
 refine aQ_ ?_
 iterate 4
  refine oC_ fun J hJ => ?_
  simp [go_sem, m1, m2]
  refine hJ _ _ _ ?_
 refine oN_ ?_
 refine aQ_ ?_
 iterate 1
  refine oC_ fun J hJ => ?_
  simp [go_sem]
  refine hJ _ _ _ ?_
 refine oN_ ?_
 refine aS_ fun K9 hK9 => ?_
 refine aQ_ ?_
 iterate 1
  refine oC_ fun J hJ => ?_
  simp [go_sem]
  refine hJ _ _ _ ?_
 refine oN_ ?_
 refine aB_ ?_
 refine aL_ (ι := { q : List Chg × List Chg × Int // q.1 ++ q.2.1 = L ∧ lastG q.2.1 q.2.2 = lastG L 0 }) (fun q => stampListsI L c a i q.1.1 q.1.2.1 q.1.2.2) (fun q => q.1.2.1.length) ⟨([], L, 0), rfl, rfl⟩ ?_ ?_
 · refine wO_ [((0, 80), some (0, 80)), ((0, 96), some (0, 96)), ((0, 320), some (0, 320))] (by simp [go_sem]) ?_ ?_ <;> simp [go_sem]
 intro ⟨⟨pre, post, t⟩, hl, hgo⟩
 simp only at hl hgo
 have hpl := lS_ hl e6
 simp only [stampListsI]
 refine aS_ fun K11 hK11 => ?_
 refine aQ_ ?_
 iterate 4
  refine oC_ fun J hJ => ?_
  simp [go_sem]
  refine hJ _ _ _ ?_
 refine oN_ ?_
 refine aC_ (t := _) rfl (fun c13 => ?_) (fun c13 => ?_)
 ·
  simp [go_sem] at c13
  obtain ⟨x, post, rfl, hx⟩ := mL_ hl c13
  refine aK_ ?_
  refine hK11 _ ?_
  refine aS_ fun K14 hK14 => ?_
  refine aB_ ?_
  refine aR_ ?_
  iterate 8
   refine oC_ fun J hJ => ?_
   simp [go_sem, hx]
   refine hJ _ _ _ ?_
  refine oN_ ?_
  refine hK14 _ ?_
  refine aR_ ?_
  iterate 3
   refine oC_ fun J hJ => ?_
   simp [go_sem]
   refine hJ _ _ _ ?_
  refine oN_ ?_
  refine ⟨⟨(pre ++ [x], post, mx t x.time), by simp [← hl], by rw [← hgo]; simp [lastG]⟩, ?_, by simp⟩
  refine wO_ [((0, 80), some (0, 80)), ((0, 96), some (0, 96)), ((0, 320), some (0, 320))] (by simp [go_sem]) ?_ ?_ <;> simp [go_sem, wN_ hpl]
 ·
  simp [go_sem] at c13
  obtain ⟨rfl, rfl⟩ := mN_ hl c13
  simp only [lastG] at hgo
  refine aX_ ?_
  simp only [go_sem]
  refine hK9 _ ?_
  refine aQ_ ?_
  iterate 8
   refine oC_ fun J hJ => ?_
   simp [go_sem, putCS_at L c e4, withCS_at L i e6]
   refine hJ _ _ _ ?_
  refine oN_ ?_
  refine aU_ ?_
  iterate 33
   refine oC_ fun J hJ => ?_
   simp [go_sem, putCRS_at L c e5, withCRS_at L i e6, plChgS_at (cputL c L) (cputL c L) e7, plChgS_at (withoutL L i) (withoutL L i) e8, findCS_at L a e6, findCRS_at L a e6, lastCS_at L e6, plChgS_at L L e6, hgo]
   refine hJ _ _ _ ?_
  refine oN_ ?_
  refine ⟨rfl, ?_⟩
  refine aE_ ?_
  refine fQ_ [] ?_
  simp [go_sem, Try.f10]
end Go.Proofs.Ytebflegkdfhoaaa.AE
