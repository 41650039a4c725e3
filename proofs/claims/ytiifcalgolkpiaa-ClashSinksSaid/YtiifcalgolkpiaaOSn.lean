/-
 Packages stamp, countermandref07: contracts. Conditions: none; every contract names its own.
-/
import Derived.Test.YtiifcalgolkpiaaPe
import Derived.Test.YtiifcalgolkpiaaPc
set_option linter.constructorNameAsVariable false
namespace Go.Proofs.Ytiifcalgolkpiaa.AE
open Go Go.Proofs Go.RowKit
set_option linter.unusedVariables false
set_option linter.unusedSimpArgs false
set_option maxRecDepth 100000
set_option maxHeartbeats 4000000
def ordChg (a b : Chg) : Int := orL [cmpI a.time b.time, cmpI a.id.rep b.id.rep, cmpI a.id.seq b.id.seq]
def lessChg (a b : Chg) : Bool := decide (ordChg a b < 0)
def lessCR (a b : Chg) : Bool := decide (a.time < b.time ∨ a.time = b.time ∧ (a.id.rep < b.id.rep ∨ a.id.rep = b.id.rep ∧ a.id.seq < b.id.seq))
theorem lessCR_eq (a b : Chg) : lessCR a b = lessChg a b := by
 have h : (ordChg a b < 0) ↔ (a.time < b.time ∨ a.time = b.time ∧ (a.id.rep < b.id.rep ∨ a.id.rep = b.id.rep ∧ a.id.seq < b.id.seq)) := by
  simp only [ordChg, orL, cmpI]
  split <;> split <;> (try split) <;> (try split) <;> (try split) <;> (try split) <;> (try split) <;> omega
 unfold lessChg lessCR
 exact decide_eq_decide.2 h.symm
def isChg (a : Id) (x : Chg) : Bool := decide (x.id = a)
def placeC (l : List Chg) (a : Id) : Int := idxL (isChg a) l 0
structure ordChgX where
 a : Chg
 b : Chg
noncomputable def ordChgS : HSpec := mkH (ι := ordChgX) (fun ⟨a, b⟩ => ([.agg (cChg a), .agg (cChg b)], [])) fun ⟨a, b⟩ => ⟨.int .i64 (ordChg a b), [], []⟩
theorem ordChgS_atG (a : Chg) (b : Chg) : ordChgS [.agg (cChg a), .agg (cChg b)] [] = some (⟨.int .i64 (ordChg a b), [], []⟩) :=
 mA_ (ι := ordChgX) (fun i j h => by obtain ⟨a, b⟩ := i; obtain ⟨a2, b2⟩ := j; simp [and_assoc, qB_, qI_, qO_, qC_, qE_, qK_, qR_, qV_, qP_, qOc_] at h; obtain ⟨rfl, rfl⟩ := h; rfl) ⟨a, b⟩
theorem ordChgS_at (a : Chg) (b : Chg) : ordChgS [.agg (cChg a), .agg (cChg b)] [] = some (⟨.int .i64 (ordChg a b), [], []⟩) := ordChgS_atG a b
theorem ordChg_ok : HSound Try.prog 89 ordChgS := by
 refine sE_ (fn := Try.f89) rfl rfl (by kernel_rfl) fun args bx hr hS => ?_
 obtain ⟨⟨a, b⟩, rfl, rfl, rfl⟩ := mO_ hS
 clear hS
 refine ⟨_, (eV_ (g := 105) (by kernel_rfl) cmp_ok (eV_ (g := 104) (by kernel_rfl) or_ok (eN_ _))), by simp [Try.f89], by simp [go_sem], fun w Mx pin => ?_⟩
 simp only [hB_at, lab_nil, lab_cons, hOf_nil, hOf_cons]
 refine aQ_ ?_
 iterate 3
  refine oC_ fun J hJ => ?_
  simp [go_sem]
  refine hJ _ _ _ ?_
  clear hJ J
 refine oN_ ?_
 refine aU_ ?_
 iterate 22
  refine oC_ fun J hJ => ?_
  simp [go_sem, cmpS_at, orS_at [cmpI a.time b.time, cmpI a.id.rep b.id.rep, cmpI a.id.seq b.id.seq] (by simp)]
  refine hJ _ _ _ ?_
  clear hJ J
 refine oN_ ?_
 refine ⟨rfl, ?_⟩
 refine aE_ ?_
 refine fQ_ [] ?_
 simp [go_sem, Try.f89, ordChg]
structure lessChgX where
 a : Chg
 b : Chg
noncomputable def lessChgS : HSpec := mkH (ι := lessChgX) (fun ⟨a, b⟩ => ([.agg (cChg a), .agg (cChg b)], [])) fun ⟨a, b⟩ => ⟨.bool (lessChg a b), [], []⟩
theorem lessChgS_atG (a : Chg) (b : Chg) : lessChgS [.agg (cChg a), .agg (cChg b)] [] = some (⟨.bool (lessChg a b), [], []⟩) :=
 mA_ (ι := lessChgX) (fun i j h => by obtain ⟨a, b⟩ := i; obtain ⟨a2, b2⟩ := j; simp [and_assoc, qB_, qI_, qO_, qC_, qE_, qK_, qR_, qV_, qP_, qOc_] at h; obtain ⟨rfl, rfl⟩ := h; rfl) ⟨a, b⟩
theorem lessChgS_at (a : Chg) (b : Chg) : lessChgS [.agg (cChg a), .agg (cChg b)] [] = some (⟨.bool (lessChg a b), [], []⟩) := lessChgS_atG a b
theorem lessChg_ok : HSound Try.prog 65 lessChgS := by
 refine sE_ (fn := Try.f65) rfl rfl (by kernel_rfl) fun args bx hr hS => ?_
 obtain ⟨⟨a, b⟩, rfl, rfl, rfl⟩ := mO_ hS
 clear hS
 refine ⟨_, (eV_ (g := 89) (by kernel_rfl) ordChg_ok (eN_ _)), by simp [Try.f65], by simp [go_sem], fun w Mx pin => ?_⟩
 simp only [hB_at, lab_nil, lab_cons, hOf_nil, hOf_cons]
 refine aQ_ ?_
 iterate 3
  refine oC_ fun J hJ => ?_
  simp [go_sem]
  refine hJ _ _ _ ?_
  clear hJ J
 refine oN_ ?_
 refine aQ_ ?_
 iterate 5
  refine oC_ fun J hJ => ?_
  simp [go_sem, ordChgS_at]
  refine hJ _ _ _ ?_
  clear hJ J
 refine oN_ ?_
 refine aE_ ?_
 refine fQ_ [] ?_
 simp [go_sem, Try.f65, lessChg]
structure lessCRX where
 a : Chg
 b : Chg
noncomputable def lessCRS : HSpec := mkH (ι := lessCRX) (fun ⟨a, b⟩ => ([.agg (cChg a), .agg (cChg b)], [])) fun ⟨a, b⟩ => ⟨.bool (lessCR a b), [], []⟩
theorem lessCRS_atG (a : Chg) (b : Chg) : lessCRS [.agg (cChg a), .agg (cChg b)] [] = some (⟨.bool (lessCR a b), [], []⟩) :=
 mA_ (ι := lessCRX) (fun i j h => by obtain ⟨a, b⟩ := i; obtain ⟨a2, b2⟩ := j; simp [and_assoc, qB_, qI_, qO_, qC_, qE_, qK_, qR_, qV_, qP_, qOc_] at h; obtain ⟨rfl, rfl⟩ := h; rfl) ⟨a, b⟩
theorem lessCRS_at (a : Chg) (b : Chg) : lessCRS [.agg (cChg a), .agg (cChg b)] [] = some (⟨.bool (lessCR a b), [], []⟩) := lessCRS_atG a b
theorem lessCR_ok : HSound Try.prog 44 lessCRS := by
 refine sE_ (fn := Try.f44) rfl rfl (by kernel_rfl) fun args bx hr hS => ?_
 obtain ⟨⟨a, b⟩, rfl, rfl, rfl⟩ := mO_ hS
 clear hS
 refine ⟨_, (eN_ _), by simp [Try.f44], by simp [go_sem], fun w Mx pin => ?_⟩
 simp only [hB_at, lab_nil, lab_cons, hOf_nil, hOf_cons]
 refine aQ_ ?_
 iterate 3
  refine oC_ fun J hJ => ?_
  simp [go_sem]
  refine hJ _ _ _ ?_
  clear hJ J
 refine oN_ ?_
 refine aS_ fun K2 hK2 => ?_
 refine aQ_ ?_
 iterate 5
  refine oC_ fun J hJ => ?_
  simp [go_sem]
  refine hJ _ _ _ ?_
  clear hJ J
 refine oN_ ?_
 refine aC_ (t := _) rfl (fun c4 => ?_) (fun c4 => ?_)
 ·
  simp [go_sem] at c4
  refine aQ_ ?_
  iterate 6
   refine oC_ fun J hJ => ?_
   simp [go_sem]
   refine hJ _ _ _ ?_
   clear hJ J
  refine oN_ ?_
  refine aE_ ?_
  refine fQ_ [] ?_
  simp [go_sem, Try.f44, lessCR]
  try (first | done | (intros; omega) | (rw [Bool.eq_iff_iff]; simp; omega))
 ·
  simp [go_sem] at c4
  refine aK_ ?_
  refine hK2 _ ?_
  clear hK2
  refine aS_ fun K6 hK6 => ?_
  refine aQ_ ?_
  iterate 7
   refine oC_ fun J hJ => ?_
   simp [go_sem]
   refine hJ _ _ _ ?_
   clear hJ J
  refine oN_ ?_
  refine aC_ (t := _) rfl (fun c8 => ?_) (fun c8 => ?_)
  ·
   simp [go_sem] at c8
   refine aQ_ ?_
   iterate 8
    refine oC_ fun J hJ => ?_
    simp [go_sem]
    refine hJ _ _ _ ?_
    clear hJ J
   refine oN_ ?_
   refine aE_ ?_
   refine fQ_ [] ?_
   simp [go_sem, Try.f44, lessCR]
   try (first | done | (intros; omega) | (rw [Bool.eq_iff_iff]; simp; omega))
  ·
   simp [go_sem] at c8
   refine aK_ ?_
   refine hK6 _ ?_
   clear hK6
   refine aQ_ ?_
   iterate 8
    refine oC_ fun J hJ => ?_
    simp [go_sem]
    refine hJ _ _ _ ?_
    clear hJ J
   refine oN_ ?_
   refine aE_ ?_
   refine fQ_ [] ?_
   simp [go_sem, Try.f44, lessCR]
   try (first | done | (intros; omega) | (rw [Bool.eq_iff_iff]; simp; omega))
structure findCRX where
 l : List Chg
 l' : AV
 a : Id
 h_l : SlA 9 cChg l l'
 hL : l.length ≤ 100000
noncomputable def findCRS : HSpec := mkH (ι := findCRX) (fun ⟨l, l', a, h_l, hL⟩ => ([l', .agg (cId a)], [])) fun ⟨l, l', a, h_l, hL⟩ => ⟨.int .i64 (placeC l a), [], []⟩
theorem findCRS_atG (l : List Chg) (l' : AV) (a : Id) (h_l : SlA 9 cChg l l') (hL : l.length ≤ 100000) : findCRS [l', .agg (cId a)] [] = some (⟨.int .i64 (placeC l a), [], []⟩) :=
 mA_ (ι := findCRX) (fun i j h => by obtain ⟨l, l', a, h_l, hL⟩ := i; obtain ⟨l2, l'2, a2, h_l2, hL2⟩ := j; simp [and_assoc, qB_, qI_, qO_, qC_, qE_, qK_, qR_, qV_, qP_, qOc_] at h; obtain ⟨rfl, rfl⟩ := h; obtain rfl := SlA.inj (fun x y h => cChg_inj h) h_l h_l2; rfl) ⟨l, l', a, h_l, hL⟩
theorem findCRS_at (l : List Chg) (a : Id) (hL : l.length ≤ 100000) : findCRS [(.sl 9 (rows cChg l)), .agg (cId a)] [] = some (⟨.int .i64 (placeC l a), [], []⟩) := findCRS_atG l _ a .sl hL
theorem findCRS_atN (a : Id) : findCRS [.nils, .agg (cId a)] [] = some ((fun (l : List Chg) => ⟨.int .i64 (placeC l a), [], []⟩) []) := findCRS_atG [] _ a .nil (by simp)
def findCRI (l : List Chg) (a : Id) (pre _post : List Chg) : St := ⟨ofL [(0, .sl 9 (rows cChg l)), (3, .ref (0, 48) 0), (5, .int .i64 pre.length)], hOf [((0, 48), .obj (cId a))]⟩
theorem findCR_ok : HSound Try.prog 42 findCRS := by
 refine sE_ (fn := Try.f42) rfl rfl (by kernel_rfl) fun args bx hr hS => ?_
 obtain ⟨⟨l, l', a, h_l, hL⟩, rfl, rfl, rfl⟩ := mO_ hS
 clear hS
 refine ⟨_, (eN_ _), by simp [Try.f42], by simp [go_sem], fun w Mx pin => ?_⟩
 simp only [hB_at, lab_nil, lab_cons, hOf_nil, hOf_cons]
 refine aW_ (s' := ⟨ofL [(0, (.sl 9 (rows cChg l))), (1, .agg (cId a))], hOf []⟩) ?_ ?_
 · cases h_l <;> exact wO_ [] (by simp [go_sem]) (by simp [go_sem]) (by simp [go_sem])
 clear h_l
 refine aQ_ ?_
 iterate 2
  refine oC_ fun J hJ => ?_
  simp [go_sem]
  refine hJ _ _ _ ?_
  clear hJ J
 refine oN_ ?_
 refine aS_ fun K2 hK2 => ?_
 refine aQ_ ?_
 iterate 1
  refine oC_ fun J hJ => ?_
  simp [go_sem]
  refine hJ _ _ _ ?_
  clear hJ J
 refine oN_ ?_
 refine aB_ ?_
 refine aL_ (ι := { q : List Chg × List Chg // q.1 ++ q.2 = l ∧ idxL (isChg a) q.2 q.1.length = placeC l a }) (fun q => findCRI l a q.1.1 q.1.2) (fun q => q.1.2.length) ⟨([], l), rfl, rfl⟩ ?_ ?_
 · refine wO_ [((0, 48), some (0, 48))] (by simp [go_sem]) ?_ ?_ <;> simp [go_sem]
 intro ⟨⟨pre, post⟩, hl, hgo⟩
 simp only at hl hgo
 have hpl := lS_ hl hL
 simp only [findCRI]
 refine aS_ fun K4 hK4 => ?_
 refine aQ_ ?_
 iterate 4
  refine oC_ fun J hJ => ?_
  simp [go_sem]
  refine hJ _ _ _ ?_
  clear hJ J
 refine oN_ ?_
 refine aC_ (t := _) rfl (fun c6 => ?_) (fun c6 => ?_)
 ·
  simp [go_sem] at c6
  obtain ⟨x, post, rfl, hx⟩ := mL_ hl c6
  refine aK_ ?_
  refine hK4 _ ?_
  clear hK4
  refine aS_ fun K7 hK7 => ?_
  refine aB_ ?_
  refine aU_ ?_
  iterate 7
   refine oC_ fun J hJ => ?_
   simp [go_sem, hx]
   refine hJ _ _ _ ?_
   clear hJ J
  refine oN_ ?_
  refine ⟨rfl, ?_⟩
  refine aC_ (t := _) rfl (fun c9 => ?_) (fun c9 => ?_)
  ·
   simp [go_sem] at c9
   refine aQ_ ?_
   iterate 2
    refine oC_ fun J hJ => ?_
    simp [go_sem]
    refine hJ _ _ _ ?_
    clear hJ J
   refine oN_ ?_
   refine aE_ ?_
   refine fQ_ [] ?_
   simp [go_sem, Try.f42, ← hgo, idxL, isChg, c9]
  ·
   simp [go_sem] at c9
   refine aK_ ?_
   refine hK7 _ ?_
   clear hK7
   refine aR_ ?_
   iterate 3
    refine oC_ fun J hJ => ?_
    simp [go_sem]
    refine hJ _ _ _ ?_
    clear hJ J
   refine oN_ ?_
   refine ⟨⟨(pre ++ [x], post), by simp [← hl], by rw [← hgo]; simp [idxL, isChg, c9]⟩, ?_, by simp⟩
   refine wO_ [((0, 48), some (0, 48))] (by simp [go_sem]) ?_ ?_ <;> simp [go_sem, wN_ hpl]
 ·
  simp [go_sem] at c6
  obtain ⟨rfl, rfl⟩ := mN_ hl c6
  refine aX_ ?_
  simp only [go_sem]
  refine hK2 _ ?_
  clear hK2
  refine aQ_ ?_
  iterate 1
   refine oC_ fun J hJ => ?_
   simp [go_sem]
   refine hJ _ _ _ ?_
   clear hJ J
  refine oN_ ?_
  refine aE_ ?_
  refine fQ_ [] ?_
  simp [go_sem, Try.f42, ← hgo, idxL]
structure cloneChgX where
 L : List Chg
 L' : AV
 h_L : SlA 9 cChg L L'
 hL : L.length ≤ 100000
noncomputable def cloneChgS : HSpec := mkH (ι := cloneChgX) (fun ⟨L, L', h_L, hL⟩ => ([L'], [])) fun ⟨L, L', h_L, hL⟩ => ⟨.own (2, 0) L.length, [], [.row 29 9 (rows cChg L) false]⟩
theorem cloneChgS_atG (L : List Chg) (L' : AV) (h_L : SlA 9 cChg L L') (hL : L.length ≤ 100000) : cloneChgS [L'] [] = some (⟨.own (2, 0) L.length, [], [.row 29 9 (rows cChg L) false]⟩) :=
 mA_ (ι := cloneChgX) (fun i j h => by obtain ⟨L, L', h_L, hL⟩ := i; obtain ⟨L2, L'2, h_L2, hL2⟩ := j; simp [and_assoc, qB_, qI_, qO_, qC_, qE_, qK_, qR_, qV_, qP_, qOc_] at h; obtain rfl := h; obtain rfl := SlA.inj (fun x y h => cChg_inj h) h_L h_L2; rfl) ⟨L, L', h_L, hL⟩
theorem cloneChgS_at (L : List Chg) (hL : L.length ≤ 100000) : cloneChgS [(.sl 9 (rows cChg L))] [] = some (⟨.own (2, 0) L.length, [], [.row 29 9 (rows cChg L) false]⟩) := cloneChgS_atG L _ .sl hL
theorem cloneChgS_atN : cloneChgS [.nils] [] = some ((fun (L : List Chg) => ⟨.own (2, 0) L.length, [], [.row 29 9 (rows cChg L) false]⟩) []) := cloneChgS_atG [] _ .nil (by simp)
theorem cloneChg_ok : HSound Try.prog 63 cloneChgS := by
 refine sE_ (fn := Try.f63) rfl rfl (by kernel_rfl) fun args bx hr hS => ?_
 obtain ⟨⟨L, L', h_L, hL⟩, rfl, rfl, rfl⟩ := mO_ hS
 clear hS
 refine ⟨_, (eN_ _), by simp [Try.f63], by simp [go_sem], fun w Mx pin => ?_⟩
 simp only [hB_at, lab_nil, lab_cons, hOf_nil, hOf_cons]
 refine aW_ (s' := ⟨ofL [(0, (.sl 9 (rows cChg L)))], hOf []⟩) ?_ ?_
 · cases h_L <;> exact wO_ [] (by simp [go_sem]) (by simp [go_sem]) (by simp [go_sem])
 clear h_L
 refine aQ_ ?_
 iterate 1
  refine oC_ fun J hJ => ?_
  simp [go_sem]
  refine hJ _ _ _ ?_
  clear hJ J
 refine oN_ ?_
 refine aS_ fun K2 hK2 => ?_
 refine aQ_ ?_
 iterate 2
  refine oC_ fun J hJ => ?_
  simp [go_sem]
  refine hJ _ _ _ ?_
  clear hJ J
 refine oN_ ?_
 refine awp_condNil rfl (fun c4 => ?_) ?_
 ·
  rw [rows_eq_nil] at c4
  refine aQ_ ?_
  iterate 1
   refine oC_ fun J hJ => ?_
   simp [go_sem]
   refine hJ _ _ _ ?_
   clear hJ J
  refine oN_ ?_
  refine aE_ ?_
  refine fQ_ [((2, 0), none)] ?_
  simp [go_sem, Try.f63, c4]
 ·
  refine aK_ ?_
  refine hK2 _ ?_
  clear hK2
  refine aQ_ ?_
  iterate 4
   refine oC_ fun J hJ => ?_
   simp [go_sem, show L.length * 72 ≤ 140737488355328 by omega, show L.length ≤ maxLen by simp only [maxLen]; omega]
   refine hJ _ _ _ ?_
   clear hJ J
  refine oN_ ?_
  refine aE_ ?_
  refine fQ_ [((2, 0), some (0, 16 * 7))] ?_
  simp [go_sem, Try.f63]
end Go.Proofs.Ytiifcalgolkpiaa.AE
