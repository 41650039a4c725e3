/-
  Package deal, first part: contracts. Conditions: none; every contract names its own.
-/
import Derived.Test.YtebflegkdfhoaaaCmp
import Derived.Test.YtebflegkdfhoaaaSl
namespace Go.Proofs.Ytebflegkdfhoaaa.AE
open Go Go.Proofs Go.RowKit
set_option linter.unusedVariables false
set_option linter.unusedSimpArgs false
set_option maxRecDepth 100000
set_option maxHeartbeats 4000000
/-- The order of Ids. -/
def ordId (a b : Id) : Int := orL [cmpI a.seq b.seq, cmpI a.rep b.rep]
def lessId (a b : Id) : Bool := decide (ordId a b < 0)
def lessR (a b : Id) : Bool := decide (a.seq < b.seq ∨ a.seq = b.seq ∧ a.rep < b.rep)
theorem less_eq (a b : Id) : lessR a b = lessId a b := by
  have h : (ordId a b < 0) ↔ (a.seq < b.seq ∨ a.seq = b.seq ∧ a.rep < b.rep) := by
    simp only [ordId, orL, cmpI]
    split <;> split <;> (try split) <;> (try split) <;> (try split) <;> omega
  unfold lessId lessR
  exact decide_eq_decide.2 h.symm

structure ordIdX where
  a : Id
  b : Id
/-- ident.order -/
noncomputable def ordIdS : HSpec := mkH (ι := ordIdX) (fun ⟨a, b⟩ => ([.agg (cId a), .agg (cId b)], [])) fun ⟨a, b⟩ => ⟨.int .i64 (ordId a b), [], []⟩
theorem ordIdS_atG (a : Id) (b : Id) : ordIdS [.agg (cId a), .agg (cId b)] [] = some (⟨.int .i64 (ordId a b), [], []⟩) :=
  mkH_at (ι := ordIdX) (A := fun ⟨a, b⟩ => ([.agg (cId a), .agg (cId b)], [])) (R := fun ⟨a, b⟩ => ⟨.int .i64 (ordId a b), [], []⟩) (fun i j h => by obtain ⟨a, b⟩ := i; obtain ⟨a2, b2⟩ := j; simp [and_assoc, cBk_eq_iff, cId_eq_iff, cOrd_eq_iff, cChg_eq_iff, cEff_eq_iff, cKey_eq_iff, cReq_eq_iff, cV_eq_iff, cOp_eq_iff, cOc_eq_iff] at h; obtain ⟨rfl, rfl⟩ := h; rfl) ⟨a, b⟩
theorem ordIdS_at (a : Id) (b : Id) : ordIdS [.agg (cId a), .agg (cId b)] [] = some (⟨.int .i64 (ordId a b), [], []⟩) := ordIdS_atG a b

theorem ordId_ok : HSound Try.prog 74 ordIdS := by
  refine sound_ofE (fn := Try.f74) rfl rfl (by kernel_rfl) fun args bx hr hS => ?_
  obtain ⟨⟨a, b⟩, rfl, rfl, rfl⟩ := mkH_of hS
  clear hS
  refine ⟨_, (EnvOK.consV (g := 78) (by kernel_rfl) cmp_ok (EnvOK.consV (g := 77) (by kernel_rfl) or_ok (EnvOK.nil _))), by simp [Try.f74], by simp [go_sem], fun w Mx pin => ?_⟩
  simp only [hB_at, lab_nil, lab_cons, hOf_nil, hOf_cons]
  refine awp_seq fun K1 hK1 => ?_
  refine awp_region ?_
  iterate 3
    refine opsK_cons fun J hJ => ?_
    simp [go_sem]
    refine hJ _ _ _ ?_
    clear hJ J
  refine opsK_nil ?_
  refine hK1 _ ?_
  clear hK1
  refine awp_seq fun K2 hK2 => ?_
  refine awp_draw ?_
  iterate 13
    refine opsK_cons fun J hJ => ?_
    simp [go_sem, cmpS_at, orS_at [cmpI a.seq b.seq, cmpI a.rep b.rep] (by simp)]
    refine hJ _ _ _ ?_
    clear hJ J
  refine opsK_nil ?_
  refine ⟨rfl, ?_⟩
  refine hK2 _ ?_
  clear hK2
  refine awp_ret ?_
  refine finWQ_of [] ?_
  simp [go_sem, Try.f74, ordId]

structure lessIdX where
  a : Id
  b : Id
/-- ident.Less -/
noncomputable def lessIdS : HSpec := mkH (ι := lessIdX) (fun ⟨a, b⟩ => ([.agg (cId a), .agg (cId b)], [])) fun ⟨a, b⟩ => ⟨.bool (lessId a b), [], []⟩
theorem lessIdS_atG (a : Id) (b : Id) : lessIdS [.agg (cId a), .agg (cId b)] [] = some (⟨.bool (lessId a b), [], []⟩) :=
  mkH_at (ι := lessIdX) (A := fun ⟨a, b⟩ => ([.agg (cId a), .agg (cId b)], [])) (R := fun ⟨a, b⟩ => ⟨.bool (lessId a b), [], []⟩) (fun i j h => by obtain ⟨a, b⟩ := i; obtain ⟨a2, b2⟩ := j; simp [and_assoc, cBk_eq_iff, cId_eq_iff, cOrd_eq_iff, cChg_eq_iff, cEff_eq_iff, cKey_eq_iff, cReq_eq_iff, cV_eq_iff, cOp_eq_iff, cOc_eq_iff] at h; obtain ⟨rfl, rfl⟩ := h; rfl) ⟨a, b⟩
theorem lessIdS_at (a : Id) (b : Id) : lessIdS [.agg (cId a), .agg (cId b)] [] = some (⟨.bool (lessId a b), [], []⟩) := lessIdS_atG a b

theorem lessId_ok : HSound Try.prog 59 lessIdS := by
  refine sound_ofE (fn := Try.f59) rfl rfl (by kernel_rfl) fun args bx hr hS => ?_
  obtain ⟨⟨a, b⟩, rfl, rfl, rfl⟩ := mkH_of hS
  clear hS
  refine ⟨_, (EnvOK.consV (g := 74) (by kernel_rfl) ordId_ok (EnvOK.nil _)), by simp [Try.f59], by simp [go_sem], fun w Mx pin => ?_⟩
  simp only [hB_at, lab_nil, lab_cons, hOf_nil, hOf_cons]
  refine awp_seq fun K1 hK1 => ?_
  refine awp_region ?_
  iterate 3
    refine opsK_cons fun J hJ => ?_
    simp [go_sem]
    refine hJ _ _ _ ?_
    clear hJ J
  refine opsK_nil ?_
  refine hK1 _ ?_
  clear hK1
  refine awp_seq fun K2 hK2 => ?_
  refine awp_region ?_
  iterate 5
    refine opsK_cons fun J hJ => ?_
    simp [go_sem, ordIdS_at]
    refine hJ _ _ _ ?_
    clear hJ J
  refine opsK_nil ?_
  refine hK2 _ ?_
  clear hK2
  refine awp_ret ?_
  refine finWQ_of [] ?_
  simp [go_sem, Try.f59, lessId]

structure lessRX where
  a : Id
  b : Id
/-- countermandref06.Less -/
noncomputable def lessRS : HSpec := mkH (ι := lessRX) (fun ⟨a, b⟩ => ([.agg (cId a), .agg (cId b)], [])) fun ⟨a, b⟩ => ⟨.bool (lessR a b), [], []⟩
theorem lessRS_atG (a : Id) (b : Id) : lessRS [.agg (cId a), .agg (cId b)] [] = some (⟨.bool (lessR a b), [], []⟩) :=
  mkH_at (ι := lessRX) (A := fun ⟨a, b⟩ => ([.agg (cId a), .agg (cId b)], [])) (R := fun ⟨a, b⟩ => ⟨.bool (lessR a b), [], []⟩) (fun i j h => by obtain ⟨a, b⟩ := i; obtain ⟨a2, b2⟩ := j; simp [and_assoc, cBk_eq_iff, cId_eq_iff, cOrd_eq_iff, cChg_eq_iff, cEff_eq_iff, cKey_eq_iff, cReq_eq_iff, cV_eq_iff, cOp_eq_iff, cOc_eq_iff] at h; obtain ⟨rfl, rfl⟩ := h; rfl) ⟨a, b⟩
theorem lessRS_at (a : Id) (b : Id) : lessRS [.agg (cId a), .agg (cId b)] [] = some (⟨.bool (lessR a b), [], []⟩) := lessRS_atG a b

theorem lessR_ok : HSound Try.prog 61 lessRS := by
  refine sound_ofE (fn := Try.f61) rfl rfl (by kernel_rfl) fun args bx hr hS => ?_
  obtain ⟨⟨a, b⟩, rfl, rfl, rfl⟩ := mkH_of hS
  clear hS
  refine ⟨_, (EnvOK.nil _), by simp [Try.f61], by simp [go_sem], fun w Mx pin => ?_⟩
  simp only [hB_at, lab_nil, lab_cons, hOf_nil, hOf_cons]
  refine awp_seq fun K1 hK1 => ?_
  refine awp_region ?_
  iterate 3
    refine opsK_cons fun J hJ => ?_
    simp [go_sem]
    refine hJ _ _ _ ?_
    clear hJ J
  refine opsK_nil ?_
  refine hK1 _ ?_
  clear hK1
  refine awp_seq fun K2 hK2 => ?_
  cases h1 : decide (a.seq < b.seq) <;> cases h2 : (a.seq == b.seq) <;> cases h3 : decide (a.rep < b.rep)
  all_goals
    refine awp_region ?_
    iterate 20
      refine opsK_cons fun J hJ => ?_
      simp [go_sem, h1, h2, h3]
      refine hJ _ _ _ ?_
      clear hJ J
    refine opsK_nil ?_
    refine hK2 _ ?_
    clear hK2
    refine awp_ret ?_
    refine finWQ_of [] ?_
    simp at h1 h2 h3
    simp [go_sem, Try.f61, lessR]
    try omega

/-- Is it the order with an Id? -/
def isOrd (a : Id) (x : Ord) : Bool := decide (x.id = a)

structure isOrdX where
  x : Ord
  a : Id
/-- deal.place$1 -/
noncomputable def isOrdS : HSpec := mkH (ι := isOrdX) (fun ⟨x, a⟩ => ([.agg (cOrd x), .iref (cId a) 0], [])) fun ⟨x, a⟩ => ⟨.bool (isOrd a x), [], []⟩
theorem isOrdS_atG (x : Ord) (a : Id) : isOrdS [.agg (cOrd x), .iref (cId a) 0] [] = some (⟨.bool (isOrd a x), [], []⟩) :=
  mkH_at (ι := isOrdX) (A := fun ⟨x, a⟩ => ([.agg (cOrd x), .iref (cId a) 0], [])) (R := fun ⟨x, a⟩ => ⟨.bool (isOrd a x), [], []⟩) (fun i j h => by obtain ⟨x, a⟩ := i; obtain ⟨x2, a2⟩ := j; simp [and_assoc, cBk_eq_iff, cId_eq_iff, cOrd_eq_iff, cChg_eq_iff, cEff_eq_iff, cKey_eq_iff, cReq_eq_iff, cV_eq_iff, cOp_eq_iff, cOc_eq_iff] at h; obtain ⟨rfl, rfl⟩ := h; rfl) ⟨x, a⟩
theorem isOrdS_at (x : Ord) (a : Id) : isOrdS [.agg (cOrd x), .iref (cId a) 0] [] = some (⟨.bool (isOrd a x), [], []⟩) := isOrdS_atG x a

theorem isOrd_ok : HSound Try.prog 73 isOrdS := by
  refine sound_ofE (fn := Try.f73) rfl rfl (by kernel_rfl) fun args bx hr hS => ?_
  obtain ⟨⟨x, a⟩, rfl, rfl, rfl⟩ := mkH_of hS
  clear hS
  refine ⟨_, (EnvOK.nil _), by simp [Try.f73], by simp [go_sem], fun w Mx pin => ?_⟩
  simp only [hB_at, lab_nil, lab_cons, hOf_nil, hOf_cons]
  refine awp_seq fun K1 hK1 => ?_
  refine awp_region ?_
  iterate 2
    refine opsK_cons fun J hJ => ?_
    simp [go_sem]
    refine hJ _ _ _ ?_
    clear hJ J
  refine opsK_nil ?_
  refine hK1 _ ?_
  clear hK1
  refine awp_seq fun K2 hK2 => ?_
  refine awp_region ?_
  iterate 5
    refine opsK_cons fun J hJ => ?_
    simp [go_sem]
    refine hJ _ _ _ ?_
    clear hJ J
  refine opsK_nil ?_
  refine hK2 _ ?_
  clear hK2
  refine awp_ret ?_
  refine finWQ_of [] ?_
  simp [go_sem, Try.f73, isOrd]

def placeL (os : List Ord) (a : Id) : Int := idxL (isOrd a) os 0
/-- The order with an Id, or none. -/
def findL (os : List Ord) (a : Id) : Option Ord := os.find? (isOrd a)
theorem idxL_ge {α : Type} (p : α → Bool) : ∀ (l : List α) (i : Nat), idxL p l i = -1 ∧ l.find? p = none ∨ ∃ k x, k < l.length ∧ idxL p l i = ((i + k : Nat) : Int) ∧ l[k]? = some x ∧ p x = true ∧ l.find? p = some x
  | [], i => .inl ⟨rfl, rfl⟩
  | x :: r, i => by
    by_cases hx : p x = true
    · exact .inr ⟨0, x, by simp, by simp [idxL, hx], by simp, hx, by simp [List.find?, hx]⟩
    · rcases idxL_ge p r (i + 1) with ⟨h1, h2⟩ | ⟨k, y, h1, h2, h3, h4, h5⟩
      · exact .inl ⟨by simp [idxL, hx, h1], by simp [List.find?, hx, h2]⟩
      · exact .inr ⟨k + 1, y, by simp [h1], by simp [idxL, hx, h2]; omega, by simpa using h3, h4, by simp [List.find?, hx, h5]⟩
theorem place_cases (os : List Ord) (a : Id) : placeL os a = -1 ∧ findL os a = none ∨ ∃ (k : Nat) (x : Ord), k < os.length ∧ placeL os a = (k : Int) ∧ os[k]? = some x ∧ isOrd a x = true ∧ findL os a = some x := by
  rcases idxL_ge (isOrd a) os 0 with h | ⟨k, x, h1, h2, h3, h4, h5⟩
  · exact .inl h
  · exact .inr ⟨k, x, h1, by have h := h2; rw [Nat.zero_add] at h; exact h, h3, h4, h5⟩

structure placeX where
  b : Bk
  os : List Ord
  os' : AV
  a : Id
  h_os : SlA 7 cOrd os os'
  hL : os.length ≤ 100000
/-- deal.place -/
noncomputable def placeS : HSpec := mkH (ι := placeX) (fun ⟨b, os, os', a, h_os, hL⟩ => ([.agg (cBk b os'), .agg (cId a)], [])) fun ⟨b, os, os', a, h_os, hL⟩ => ⟨.int .i64 (placeL os a), [], []⟩
theorem placeS_atG (b : Bk) (os : List Ord) (os' : AV) (a : Id) (h_os : SlA 7 cOrd os os') (hL : os.length ≤ 100000) : placeS [.agg (cBk b os'), .agg (cId a)] [] = some (⟨.int .i64 (placeL os a), [], []⟩) :=
  mkH_at (ι := placeX) (A := fun ⟨b, os, os', a, h_os, hL⟩ => ([.agg (cBk b os'), .agg (cId a)], [])) (R := fun ⟨b, os, os', a, h_os, hL⟩ => ⟨.int .i64 (placeL os a), [], []⟩) (fun i j h => by obtain ⟨b, os, os', a, h_os, hL⟩ := i; obtain ⟨b2, os2, os'2, a2, h_os2, hL2⟩ := j; simp [and_assoc, cBk_eq_iff, cId_eq_iff, cOrd_eq_iff, cChg_eq_iff, cEff_eq_iff, cKey_eq_iff, cReq_eq_iff, cV_eq_iff, cOp_eq_iff, cOc_eq_iff] at h; obtain ⟨rfl, rfl, rfl⟩ := h; obtain rfl := SlA.inj (fun x y h => cOrd_inj h) h_os h_os2; rfl) ⟨b, os, os', a, h_os, hL⟩
theorem placeS_at (b : Bk) (os : List Ord) (a : Id) (hL : os.length ≤ 100000) : placeS [.agg (cBk b (.sl 7 (rows cOrd os))), .agg (cId a)] [] = some (⟨.int .i64 (placeL os a), [], []⟩) := placeS_atG b os _ a .sl hL
theorem placeS_atN (b : Bk) (a : Id) : placeS [.agg (cBk b .nils), .agg (cId a)] [] = some ((fun (os : List Ord) => ⟨.int .i64 (placeL os a), [], []⟩) []) := placeS_atG b [] _ a .nil (by simp)

theorem place_ok : HSound Try.prog 57 placeS := by
  refine sound_ofE (fn := Try.f57) rfl rfl (by kernel_rfl) fun args bx hr hS => ?_
  obtain ⟨⟨b, os, os', a, h_os, hL⟩, rfl, rfl, rfl⟩ := mkH_of hS
  clear hS
  refine ⟨_, (EnvOK.consV (g := 72) (by kernel_rfl) (indexOrd_ok 73 [.iref (cId a) 0] (isOrd a) isOrdS (by kernel_rfl) isOrd_ok (fun x => isOrdS_at x a) (fun H => by simp [go_sem]) (fun H0 H => by simp [go_sem])) (EnvOK.nil _)), by simp [Try.f57], by simp [go_sem], fun w Mx pin => ?_⟩
  simp only [hB_at, lab_nil, lab_cons, hOf_nil, hOf_cons]
  refine awp_weak (s' := ⟨ofL [(0, .agg (cBk b (.sl 7 (rows cOrd os)))), (1, .agg (cId a))], hOf []⟩) ?_ ?_
  · cases h_os <;> exact weak_of [] (by simp [go_sem]) (by simp [go_sem]) (by simp [go_sem])
  clear h_os
  refine awp_seq fun K1 hK1 => ?_
  refine awp_region ?_
  iterate 3
    refine opsK_cons fun J hJ => ?_
    simp [go_sem]
    refine hJ _ _ _ ?_
    clear hJ J
  refine opsK_nil ?_
  refine hK1 _ ?_
  clear hK1
  refine awp_seq fun K2 hK2 => ?_
  refine awp_region ?_
  iterate 5
    refine opsK_cons fun J hJ => ?_
    simp [go_sem, indexOrdS_at _ _ (isOrd a) os hL]
    refine hJ _ _ _ ?_
    clear hJ J
  refine opsK_nil ?_
  refine hK2 _ ?_
  clear hK2
  refine awp_ret ?_
  refine finWQ_of [] ?_
  simp [go_sem, Try.f57, placeL]

def findR (os : List Ord) (a : Id) : AV := .tup [.agg (cOrd ((findL os a).getD zOrd)), .bool (findL os a).isSome]

structure findX where
  b : Bk
  os : List Ord
  os' : AV
  a : Id
  h_os : SlA 7 cOrd os os'
  hL : os.length ≤ 100000
/-- deal.Find -/
noncomputable def findS : HSpec := mkH (ι := findX) (fun ⟨b, os, os', a, h_os, hL⟩ => ([.agg (cBk b os'), .agg (cId a)], [])) fun ⟨b, os, os', a, h_os, hL⟩ => ⟨findR os a, [], []⟩
theorem findS_atG (b : Bk) (os : List Ord) (os' : AV) (a : Id) (h_os : SlA 7 cOrd os os') (hL : os.length ≤ 100000) : findS [.agg (cBk b os'), .agg (cId a)] [] = some (⟨findR os a, [], []⟩) :=
  mkH_at (ι := findX) (A := fun ⟨b, os, os', a, h_os, hL⟩ => ([.agg (cBk b os'), .agg (cId a)], [])) (R := fun ⟨b, os, os', a, h_os, hL⟩ => ⟨findR os a, [], []⟩) (fun i j h => by obtain ⟨b, os, os', a, h_os, hL⟩ := i; obtain ⟨b2, os2, os'2, a2, h_os2, hL2⟩ := j; simp [and_assoc, cBk_eq_iff, cId_eq_iff, cOrd_eq_iff, cChg_eq_iff, cEff_eq_iff, cKey_eq_iff, cReq_eq_iff, cV_eq_iff, cOp_eq_iff, cOc_eq_iff] at h; obtain ⟨rfl, rfl, rfl⟩ := h; obtain rfl := SlA.inj (fun x y h => cOrd_inj h) h_os h_os2; rfl) ⟨b, os, os', a, h_os, hL⟩
theorem findS_at (b : Bk) (os : List Ord) (a : Id) (hL : os.length ≤ 100000) : findS [.agg (cBk b (.sl 7 (rows cOrd os))), .agg (cId a)] [] = some (⟨findR os a, [], []⟩) := findS_atG b os _ a .sl hL
theorem findS_atN (b : Bk) (a : Id) : findS [.agg (cBk b .nils), .agg (cId a)] [] = some ((fun (os : List Ord) => ⟨findR os a, [], []⟩) []) := findS_atG b [] _ a .nil (by simp)

theorem find_ok : HSound Try.prog 30 findS := by
  refine sound_ofE (fn := Try.f30) rfl rfl (by kernel_rfl) fun args bx hr hS => ?_
  obtain ⟨⟨b, os, os', a, h_os, hL⟩, rfl, rfl, rfl⟩ := mkH_of hS
  clear hS
  refine ⟨_, (EnvOK.consV (g := 57) (by kernel_rfl) place_ok (EnvOK.nil _)), by simp [Try.f30], by simp [go_sem], fun w Mx pin => ?_⟩
  simp only [hB_at, lab_nil, lab_cons, hOf_nil, hOf_cons]
  refine awp_weak (s' := ⟨ofL [(0, .agg (cBk b (.sl 7 (rows cOrd os)))), (1, .agg (cId a))], hOf []⟩) ?_ ?_
  · cases h_os <;> exact weak_of [] (by simp [go_sem]) (by simp [go_sem]) (by simp [go_sem])
  clear h_os
  have hpc := place_cases os a
  refine awp_seq fun K1 hK1 => ?_
  refine awp_region ?_
  iterate 4
    refine opsK_cons fun J hJ => ?_
    simp [go_sem]
    refine hJ _ _ _ ?_
    clear hJ J
  refine opsK_nil ?_
  refine hK1 _ ?_
  clear hK1
  refine awp_seq fun K2 hK2 => ?_
  refine awp_region ?_
  iterate 4
    refine opsK_cons fun J hJ => ?_
    simp [go_sem, placeS_at b os a hL]
    refine hJ _ _ _ ?_
    clear hJ J
  refine opsK_nil ?_
  refine hK2 _ ?_
  clear hK2
  refine awp_seq fun K3 hK3 => ?_
  refine awp_seq fun K4 hK4 => ?_
  refine awp_region ?_
  iterate 2
    refine opsK_cons fun J hJ => ?_
    simp [go_sem]
    refine hJ _ _ _ ?_
    clear hJ J
  refine opsK_nil ?_
  refine hK4 _ ?_
  clear hK4
  refine awp_cond (t := _) rfl (fun c5 => ?_) (fun c5 => ?_)
  · simp [go_sem] at c5
    obtain ⟨_, hf⟩ | ⟨k, x, hk0, hk, hx, _, hf⟩ := hpc
    rotate_left
    · omega
    refine awp_seq fun K6 hK6 => ?_
    refine awp_region ?_
    iterate 3
      refine opsK_cons fun J hJ => ?_
      simp [go_sem]
      refine hJ _ _ _ ?_
      clear hJ J
    refine opsK_nil ?_
    refine hK6 _ ?_
    clear hK6
    refine awp_ret ?_
    refine finWQ_of [] ?_
    simp [go_sem, Try.f30, findR, hf]
  · simp [go_sem] at c5
    obtain ⟨h1, _⟩ | ⟨k, x, hk0, hk, hx, _, hf⟩ := hpc
    · omega
    refine awp_skip ?_
    refine hK3 _ ?_
    clear hK3
    refine awp_seq fun K7 hK7 => ?_
    refine awp_region ?_
    iterate 7
      refine opsK_cons fun J hJ => ?_
      simp [go_sem, hk, hx]
      refine hJ _ _ _ ?_
      clear hJ J
    refine opsK_nil ?_
    refine hK7 _ ?_
    clear hK7
    refine awp_ret ?_
    refine finWQ_of [] ?_
    simp [go_sem, Try.f30, findR, hf]

structure indexIntX where
  L : List Int
  L' : AV
  v : Int
  h_L : SlA 1 cInt L L'
  hL : L.length ≤ 9223372036854775807
/-- slices.Index of numbers -/
noncomputable def indexIntS : HSpec := mkH (ι := indexIntX) (fun ⟨L, L', v, h_L, hL⟩ => ([L', .int .i64 v], [])) fun ⟨L, L', v, h_L, hL⟩ => ⟨.int .i64 (idxL (fun x => decide (v = x)) L 0), [], []⟩
theorem indexIntS_atG (L : List Int) (L' : AV) (v : Int) (h_L : SlA 1 cInt L L') (hL : L.length ≤ 9223372036854775807) : indexIntS [L', .int .i64 v] [] = some (⟨.int .i64 (idxL (fun x => decide (v = x)) L 0), [], []⟩) :=
  mkH_at (ι := indexIntX) (A := fun ⟨L, L', v, h_L, hL⟩ => ([L', .int .i64 v], [])) (R := fun ⟨L, L', v, h_L, hL⟩ => ⟨.int .i64 (idxL (fun x => decide (v = x)) L 0), [], []⟩) (fun i j h => by obtain ⟨L, L', v, h_L, hL⟩ := i; obtain ⟨L2, L'2, v2, h_L2, hL2⟩ := j; simp [and_assoc, cBk_eq_iff, cId_eq_iff, cOrd_eq_iff, cChg_eq_iff, cEff_eq_iff, cKey_eq_iff, cReq_eq_iff, cV_eq_iff, cOp_eq_iff, cOc_eq_iff] at h; obtain ⟨rfl, rfl⟩ := h; obtain rfl := SlA.inj (fun x y h => cInt_inj h) h_L h_L2; rfl) ⟨L, L', v, h_L, hL⟩
theorem indexIntS_at (L : List Int) (v : Int) (hL : L.length ≤ 9223372036854775807) : indexIntS [(.sl 1 (rows cInt L)), .int .i64 v] [] = some (⟨.int .i64 (idxL (fun x => decide (v = x)) L 0), [], []⟩) := indexIntS_atG L _ v .sl hL
theorem indexIntS_atN (v : Int) : indexIntS [.nils, .int .i64 v] [] = some ((fun (L : List Int) => ⟨.int .i64 (idxL (fun x => decide (v = x)) L 0), [], []⟩) []) := indexIntS_atG [] _ v .nil (by simp)

def indexIntI (L : List Int) (v : Int) (pre _post : List Int) : St := ⟨ofL [(0, .sl 1 (rows cInt L)), (1, .int .i64 v), (7, .int .i64 L.length), (8, .int .i64 pre.length)], hOf []⟩

theorem indexInt_ok : HSound Try.prog 76 indexIntS := by
  refine sound_ofE (fn := Try.f76) rfl rfl (by kernel_rfl) fun args bx hr hS => ?_
  obtain ⟨⟨L, L', v, h_L, hL⟩, rfl, rfl, rfl⟩ := mkH_of hS
  clear hS
  refine ⟨_, (EnvOK.nil _), by simp [Try.f76], by simp [go_sem], fun w Mx pin => ?_⟩
  simp only [hB_at, lab_nil, lab_cons, hOf_nil, hOf_cons]
  refine awp_weak (s' := ⟨ofL [(0, (.sl 1 (rows cInt L))), (1, .int .i64 v)], hOf []⟩) ?_ ?_
  · cases h_L <;> exact weak_of [] (by simp [go_sem]) (by simp [go_sem]) (by simp [go_sem])
  clear h_L
  refine awp_seq fun K1 hK1 => ?_
  refine awp_region ?_
  iterate 1
    refine opsK_cons fun J hJ => ?_
    simp [go_sem]
    refine hJ _ _ _ ?_
    clear hJ J
  refine opsK_nil ?_
  refine hK1 _ ?_
  clear hK1
  refine awp_seq fun K2 hK2 => ?_
  refine awp_seq fun K3 hK3 => ?_
  refine awp_region ?_
  iterate 3
    refine opsK_cons fun J hJ => ?_
    simp [go_sem]
    refine hJ _ _ _ ?_
    clear hJ J
  refine opsK_nil ?_
  refine hK3 _ ?_
  clear hK3
  refine awp_block ?_
  refine awp_loop (ι := { q : List Int × List Int // q.1 ++ q.2 = L ∧ idxL (fun x => decide (v = x)) q.2 q.1.length = idxL (fun x => decide (v = x)) L 0 }) (fun q => indexIntI L v q.1.1 q.1.2) (fun q => q.1.2.length) ⟨([], L), rfl, rfl⟩ ?_ ?_
  · refine weak_of [] (by simp [go_sem]) ?_ ?_ <;> simp [go_sem]
  intro ⟨⟨pre, post⟩, hl, hgo⟩
  simp only at hl hgo
  simp only [indexIntI]
  refine awp_seq fun K4 hK4 => ?_
  refine awp_region ?_
  iterate 1
    refine opsK_cons fun J hJ => ?_
    simp [go_sem]
    refine hJ _ _ _ ?_
    clear hJ J
  refine opsK_nil ?_
  refine hK4 _ ?_
  clear hK4
  refine awp_seq fun K5 hK5 => ?_
  refine awp_cond (t := _) rfl (fun c6 => ?_) (fun c6 => ?_)
  · simp [go_sem] at c6
    obtain ⟨x, post, rfl, hx⟩ := mid_lt hl c6
    refine awp_skip ?_
    refine hK5 _ ?_
    clear hK5
    refine awp_seq fun K7 hK7 => ?_
    refine awp_block ?_
    refine awp_seq fun K8 hK8 => ?_
    refine awp_region ?_
    iterate 2
      refine opsK_cons fun J hJ => ?_
      simp [go_sem]
      refine hJ _ _ _ ?_
      clear hJ J
    refine opsK_nil ?_
    refine hK8 _ ?_
    clear hK8
    refine awp_seq fun K9 hK9 => ?_
    refine awp_region ?_
    iterate 6
      refine opsK_cons fun J hJ => ?_
      simp [go_sem, hx]
      refine hJ _ _ _ ?_
      clear hJ J
    refine opsK_nil ?_
    refine hK9 _ ?_
    clear hK9
    refine awp_cond (t := _) rfl (fun c10 => ?_) (fun c10 => ?_)
    · simp [go_sem] at c10
      subst c10
      refine awp_seq fun K11 hK11 => ?_
      refine awp_region ?_
      iterate 2
        refine opsK_cons fun J hJ => ?_
        simp [go_sem]
        refine hJ _ _ _ ?_
        clear hJ J
      refine opsK_nil ?_
      refine hK11 _ ?_
      clear hK11
      refine awp_ret ?_
      refine finWQ_of [] ?_
      simp [go_sem, Try.f76, ← hgo, idxL]
    · simp [go_sem] at c10
      refine awp_skip ?_
      refine hK7 _ ?_
      clear hK7
      refine awp_region ?_
      iterate 2
        refine opsK_cons fun J hJ => ?_
        simp [go_sem]
        refine hJ _ _ _ ?_
        clear hJ J
      refine opsK_nil ?_
      refine ⟨⟨(pre ++ [x], post), by simp [← hl], by rw [← hgo]; simp [idxL, c10]⟩, ?_, by simp⟩
      refine weak_of [] (by simp [go_sem]) ?_ ?_ <;> simp [go_sem, wrap_big hx hL]
  · simp [go_sem] at c6
    obtain ⟨rfl, rfl⟩ := mid_nil hl c6
    refine awp_exit ?_
    simp only [go_sem]
    refine hK2 _ ?_
    clear hK2
    refine awp_seq fun K12 hK12 => ?_
    refine awp_region ?_
    iterate 1
      refine opsK_cons fun J hJ => ?_
      simp [go_sem]
      refine hJ _ _ _ ?_
      clear hJ J
    refine opsK_nil ?_
    refine hK12 _ ?_
    clear hK12
    refine awp_ret ?_
    refine finWQ_of [] ?_
    simp [go_sem, Try.f76, ← hgo, idxL]

theorem idxL_ge0 {α : Type} (p : α → Bool) (l : List α) (i : Nat) : (0 ≤ idxL p l i) ↔ l.any p = true := by
  induction l generalizing i with
  | nil => simp [idxL]
  | cons x r ih =>
    by_cases hx : p x = true
    · simp [idxL, hx]
    · simp [idxL, hx, ih]

structure contIntX where
  L : List Int
  L' : AV
  v : Int
  h_L : SlA 1 cInt L L'
  hL : L.length ≤ 9223372036854775807
/-- slices.Contains of numbers -/
noncomputable def contIntS : HSpec := mkH (ι := contIntX) (fun ⟨L, L', v, h_L, hL⟩ => ([L', .int .i64 v], [])) fun ⟨L, L', v, h_L, hL⟩ => ⟨.bool (decide (v ∈ L)), [], []⟩
theorem contIntS_atG (L : List Int) (L' : AV) (v : Int) (h_L : SlA 1 cInt L L') (hL : L.length ≤ 9223372036854775807) : contIntS [L', .int .i64 v] [] = some (⟨.bool (decide (v ∈ L)), [], []⟩) :=
  mkH_at (ι := contIntX) (A := fun ⟨L, L', v, h_L, hL⟩ => ([L', .int .i64 v], [])) (R := fun ⟨L, L', v, h_L, hL⟩ => ⟨.bool (decide (v ∈ L)), [], []⟩) (fun i j h => by obtain ⟨L, L', v, h_L, hL⟩ := i; obtain ⟨L2, L'2, v2, h_L2, hL2⟩ := j; simp [and_assoc, cBk_eq_iff, cId_eq_iff, cOrd_eq_iff, cChg_eq_iff, cEff_eq_iff, cKey_eq_iff, cReq_eq_iff, cV_eq_iff, cOp_eq_iff, cOc_eq_iff] at h; obtain ⟨rfl, rfl⟩ := h; obtain rfl := SlA.inj (fun x y h => cInt_inj h) h_L h_L2; rfl) ⟨L, L', v, h_L, hL⟩
theorem contIntS_at (L : List Int) (v : Int) (hL : L.length ≤ 9223372036854775807) : contIntS [(.sl 1 (rows cInt L)), .int .i64 v] [] = some (⟨.bool (decide (v ∈ L)), [], []⟩) := contIntS_atG L _ v .sl hL
theorem contIntS_atN (v : Int) : contIntS [.nils, .int .i64 v] [] = some ((fun (L : List Int) => ⟨.bool (decide (v ∈ L)), [], []⟩) []) := contIntS_atG [] _ v .nil (by simp)

theorem contInt_ok : HSound Try.prog 62 contIntS := by
  refine sound_ofE (fn := Try.f62) rfl rfl (by kernel_rfl) fun args bx hr hS => ?_
  obtain ⟨⟨L, L', v, h_L, hL⟩, rfl, rfl, rfl⟩ := mkH_of hS
  clear hS
  refine ⟨_, (EnvOK.consV (g := 76) (by kernel_rfl) indexInt_ok (EnvOK.nil _)), by simp [Try.f62], by simp [go_sem], fun w Mx pin => ?_⟩
  simp only [hB_at, lab_nil, lab_cons, hOf_nil, hOf_cons]
  refine awp_weak (s' := ⟨ofL [(0, (.sl 1 (rows cInt L))), (1, .int .i64 v)], hOf []⟩) ?_ ?_
  · cases h_L <;> exact weak_of [] (by simp [go_sem]) (by simp [go_sem]) (by simp [go_sem])
  clear h_L
  refine awp_seq fun K1 hK1 => ?_
  refine awp_region ?_
  iterate 1
    refine opsK_cons fun J hJ => ?_
    simp [go_sem]
    refine hJ _ _ _ ?_
    clear hJ J
  refine opsK_nil ?_
  refine hK1 _ ?_
  clear hK1
  refine awp_seq fun K2 hK2 => ?_
  refine awp_region ?_
  iterate 5
    refine opsK_cons fun J hJ => ?_
    simp [go_sem, indexIntS_at L v hL]
    refine hJ _ _ _ ?_
    clear hJ J
  refine opsK_nil ?_
  refine hK2 _ ?_
  clear hK2
  refine awp_ret ?_
  refine finWQ_of [] ?_
  simp [go_sem, Try.f62, idxL_ge0]

def heldG (item : Int) : List Ord → Int → Int
  | [], n => n
  | o :: r, n => heldG item r (if o.item = item ∧ (o.state = 1 ∨ o.state = 2) then IntKind.i64.wrap (n + o.qty) else n)
def countG (st : Int) : List Ord → Int → Int
  | [], n => n
  | o :: r, n => countG st r (if o.state = st then IntKind.i64.wrap (n + 1) else n)

structure countX where
  b : Bk
  os : List Ord
  os' : AV
  v : Int
  h_os : SlA 7 cOrd os os'
  hL : os.length ≤ 100000
/-- deal.Count -/
noncomputable def countS : HSpec := mkH (ι := countX) (fun ⟨b, os, os', v, h_os, hL⟩ => ([.agg (cBk b os'), .int .i64 v], [])) fun ⟨b, os, os', v, h_os, hL⟩ => ⟨.int .i64 (countG v os 0), [], []⟩
theorem countS_atG (b : Bk) (os : List Ord) (os' : AV) (v : Int) (h_os : SlA 7 cOrd os os') (hL : os.length ≤ 100000) : countS [.agg (cBk b os'), .int .i64 v] [] = some (⟨.int .i64 (countG v os 0), [], []⟩) :=
  mkH_at (ι := countX) (A := fun ⟨b, os, os', v, h_os, hL⟩ => ([.agg (cBk b os'), .int .i64 v], [])) (R := fun ⟨b, os, os', v, h_os, hL⟩ => ⟨.int .i64 (countG v os 0), [], []⟩) (fun i j h => by obtain ⟨b, os, os', v, h_os, hL⟩ := i; obtain ⟨b2, os2, os'2, v2, h_os2, hL2⟩ := j; simp [and_assoc, cBk_eq_iff, cId_eq_iff, cOrd_eq_iff, cChg_eq_iff, cEff_eq_iff, cKey_eq_iff, cReq_eq_iff, cV_eq_iff, cOp_eq_iff, cOc_eq_iff] at h; obtain ⟨rfl, rfl, rfl⟩ := h; obtain rfl := SlA.inj (fun x y h => cOrd_inj h) h_os h_os2; rfl) ⟨b, os, os', v, h_os, hL⟩
theorem countS_at (b : Bk) (os : List Ord) (v : Int) (hL : os.length ≤ 100000) : countS [.agg (cBk b (.sl 7 (rows cOrd os))), .int .i64 v] [] = some (⟨.int .i64 (countG v os 0), [], []⟩) := countS_atG b os _ v .sl hL
theorem countS_atN (b : Bk) (v : Int) : countS [.agg (cBk b .nils), .int .i64 v] [] = some ((fun (os : List Ord) => ⟨.int .i64 (countG v os 0), [], []⟩) []) := countS_atG b [] _ v .nil (by simp)

def countI (os : List Ord) (v : Int) (pre _post : List Ord) (n : Int) : St := ⟨ofL [(1, .int .i64 v), (5, .int .i64 n), (9, .sl 7 (rows cOrd os)), (10, .int .i64 os.length), (11, .int .i64 pre.length)], hOf []⟩

theorem count_ok : HSound Try.prog 35 countS := by
  refine sound_ofE (fn := Try.f35) rfl rfl (by kernel_rfl) fun args bx hr hS => ?_
  obtain ⟨⟨b, os, os', v, h_os, hL⟩, rfl, rfl, rfl⟩ := mkH_of hS
  clear hS
  refine ⟨_, (EnvOK.nil _), by simp [Try.f35], by simp [go_sem], fun w Mx pin => ?_⟩
  simp only [hB_at, lab_nil, lab_cons, hOf_nil, hOf_cons]
  refine awp_weak (s' := ⟨ofL [(0, .agg (cBk b (.sl 7 (rows cOrd os)))), (1, .int .i64 v)], hOf []⟩) ?_ ?_
  · cases h_os <;> exact weak_of [] (by simp [go_sem]) (by simp [go_sem]) (by simp [go_sem])
  clear h_os
  refine awp_seq fun K1 hK1 => ?_
  refine awp_region ?_
  iterate 2
    refine opsK_cons fun J hJ => ?_
    simp [go_sem]
    refine hJ _ _ _ ?_
    clear hJ J
  refine opsK_nil ?_
  refine hK1 _ ?_
  clear hK1
  refine awp_seq fun K2 hK2 => ?_
  refine awp_region ?_
  iterate 1
    refine opsK_cons fun J hJ => ?_
    simp [go_sem]
    refine hJ _ _ _ ?_
    clear hJ J
  refine opsK_nil ?_
  refine hK2 _ ?_
  clear hK2
  refine awp_seq fun K3 hK3 => ?_
  refine awp_seq fun K4 hK4 => ?_
  refine awp_region ?_
  iterate 4
    refine opsK_cons fun J hJ => ?_
    simp [go_sem]
    refine hJ _ _ _ ?_
    clear hJ J
  refine opsK_nil ?_
  refine hK4 _ ?_
  clear hK4
  refine awp_block ?_
  refine awp_loop (ι := { q : List Ord × List Ord × Int // q.1 ++ q.2.1 = os ∧ countG v q.2.1 q.2.2 = countG v os 0 }) (fun q => countI os v q.1.1 q.1.2.1 q.1.2.2) (fun q => q.1.2.1.length) ⟨([], os, 0), rfl, rfl⟩ ?_ ?_
  · refine weak_of [] (by simp [go_sem]) ?_ ?_ <;> simp [go_sem]
  intro ⟨⟨pre, post, n⟩, hl, hgo⟩
  simp only at hl hgo
  have hpl := len_small hl hL
  simp only [countI]
  refine awp_seq fun K5 hK5 => ?_
  refine awp_region ?_
  iterate 1
    refine opsK_cons fun J hJ => ?_
    simp [go_sem]
    refine hJ _ _ _ ?_
    clear hJ J
  refine opsK_nil ?_
  refine hK5 _ ?_
  clear hK5
  refine awp_seq fun K6 hK6 => ?_
  refine awp_cond (t := _) rfl (fun c7 => ?_) (fun c7 => ?_)
  · simp [go_sem] at c7
    obtain ⟨x, post, rfl, hx⟩ := mid_lt hl c7
    refine awp_skip ?_
    refine hK6 _ ?_
    clear hK6
    refine awp_seq fun K8 hK8 => ?_
    refine awp_block ?_
    refine awp_seq fun K9 hK9 => ?_
    refine awp_region ?_
    iterate 4
      refine opsK_cons fun J hJ => ?_
      simp [go_sem, hx]
      refine hJ _ _ _ ?_
      clear hJ J
    refine opsK_nil ?_
    refine hK9 _ ?_
    clear hK9
    refine awp_seq fun K10 hK10 => ?_
    refine awp_region ?_
    iterate 4
      refine opsK_cons fun J hJ => ?_
      simp [go_sem]
      refine hJ _ _ _ ?_
      clear hJ J
    refine opsK_nil ?_
    refine hK10 _ ?_
    clear hK10
    refine awp_cond (t := _) rfl (fun c11 => ?_) (fun c11 => ?_)
    · simp [go_sem] at c11
      refine awp_region ?_
      iterate 3
        refine opsK_cons fun J hJ => ?_
        simp [go_sem]
        refine hJ _ _ _ ?_
        clear hJ J
      refine opsK_nil ?_
      refine hK8 _ ?_
      clear hK8
      refine awp_region ?_
      iterate 2
        refine opsK_cons fun J hJ => ?_
        simp [go_sem]
        refine hJ _ _ _ ?_
        clear hJ J
      refine opsK_nil ?_
      refine ⟨⟨(pre ++ [x], post, (if x.state = v then IntKind.i64.wrap (n + 1) else n)), by simp [← hl], by rw [← hgo]; simp [countG]⟩, ?_, by simp⟩
      refine weak_of [] (by simp [go_sem]) ?_ ?_ <;> simp [go_sem, wrap_nat hpl, c11]
    · simp [go_sem] at c11
      refine awp_skip ?_
      refine hK8 _ ?_
      clear hK8
      refine awp_region ?_
      iterate 2
        refine opsK_cons fun J hJ => ?_
        simp [go_sem]
        refine hJ _ _ _ ?_
        clear hJ J
      refine opsK_nil ?_
      refine ⟨⟨(pre ++ [x], post, (if x.state = v then IntKind.i64.wrap (n + 1) else n)), by simp [← hl], by rw [← hgo]; simp [countG]⟩, ?_, by simp⟩
      refine weak_of [] (by simp [go_sem]) ?_ ?_ <;> simp [go_sem, wrap_nat hpl, c11]
  · simp [go_sem] at c7
    obtain ⟨rfl, rfl⟩ := mid_nil hl c7
    refine awp_exit ?_
    simp only [go_sem]
    refine hK3 _ ?_
    clear hK3
    refine awp_seq fun K12 hK12 => ?_
    refine awp_region ?_
    iterate 2
      refine opsK_cons fun J hJ => ?_
      simp [go_sem]
      refine hJ _ _ _ ?_
      clear hJ J
    refine opsK_nil ?_
    refine hK12 _ ?_
    clear hK12
    refine awp_ret ?_
    refine finWQ_of [] ?_
    simp [go_sem, Try.f35, ← hgo, countG]

structure heldX where
  b : Bk
  os : List Ord
  os' : AV
  v : Int
  h_os : SlA 7 cOrd os os'
  hL : os.length ≤ 100000
/-- deal.Held -/
noncomputable def heldS : HSpec := mkH (ι := heldX) (fun ⟨b, os, os', v, h_os, hL⟩ => ([.agg (cBk b os'), .int .i64 v], [])) fun ⟨b, os, os', v, h_os, hL⟩ => ⟨.int .i64 (heldG v os 0), [], []⟩
theorem heldS_atG (b : Bk) (os : List Ord) (os' : AV) (v : Int) (h_os : SlA 7 cOrd os os') (hL : os.length ≤ 100000) : heldS [.agg (cBk b os'), .int .i64 v] [] = some (⟨.int .i64 (heldG v os 0), [], []⟩) :=
  mkH_at (ι := heldX) (A := fun ⟨b, os, os', v, h_os, hL⟩ => ([.agg (cBk b os'), .int .i64 v], [])) (R := fun ⟨b, os, os', v, h_os, hL⟩ => ⟨.int .i64 (heldG v os 0), [], []⟩) (fun i j h => by obtain ⟨b, os, os', v, h_os, hL⟩ := i; obtain ⟨b2, os2, os'2, v2, h_os2, hL2⟩ := j; simp [and_assoc, cBk_eq_iff, cId_eq_iff, cOrd_eq_iff, cChg_eq_iff, cEff_eq_iff, cKey_eq_iff, cReq_eq_iff, cV_eq_iff, cOp_eq_iff, cOc_eq_iff] at h; obtain ⟨rfl, rfl, rfl⟩ := h; obtain rfl := SlA.inj (fun x y h => cOrd_inj h) h_os h_os2; rfl) ⟨b, os, os', v, h_os, hL⟩
theorem heldS_at (b : Bk) (os : List Ord) (v : Int) (hL : os.length ≤ 100000) : heldS [.agg (cBk b (.sl 7 (rows cOrd os))), .int .i64 v] [] = some (⟨.int .i64 (heldG v os 0), [], []⟩) := heldS_atG b os _ v .sl hL
theorem heldS_atN (b : Bk) (v : Int) : heldS [.agg (cBk b .nils), .int .i64 v] [] = some ((fun (os : List Ord) => ⟨.int .i64 (heldG v os 0), [], []⟩) []) := heldS_atG b [] _ v .nil (by simp)

def heldI (os : List Ord) (v : Int) (pre _post : List Ord) (n : Int) : St := ⟨ofL [(1, .int .i64 v), (5, .int .i64 n), (9, .sl 7 (rows cOrd os)), (10, .int .i64 os.length), (11, .int .i64 pre.length)], hOf []⟩

theorem held_ok : HSound Try.prog 34 heldS := by
  refine sound_ofE (fn := Try.f34) rfl rfl (by kernel_rfl) fun args bx hr hS => ?_
  obtain ⟨⟨b, os, os', v, h_os, hL⟩, rfl, rfl, rfl⟩ := mkH_of hS
  clear hS
  refine ⟨_, (EnvOK.nil _), by simp [Try.f34], by simp [go_sem], fun w Mx pin => ?_⟩
  simp only [hB_at, lab_nil, lab_cons, hOf_nil, hOf_cons]
  refine awp_weak (s' := ⟨ofL [(0, .agg (cBk b (.sl 7 (rows cOrd os)))), (1, .int .i64 v)], hOf []⟩) ?_ ?_
  · cases h_os <;> exact weak_of [] (by simp [go_sem]) (by simp [go_sem]) (by simp [go_sem])
  clear h_os
  refine awp_seq fun K1 hK1 => ?_
  refine awp_region ?_
  iterate 2
    refine opsK_cons fun J hJ => ?_
    simp [go_sem]
    refine hJ _ _ _ ?_
    clear hJ J
  refine opsK_nil ?_
  refine hK1 _ ?_
  clear hK1
  refine awp_seq fun K2 hK2 => ?_
  refine awp_region ?_
  iterate 1
    refine opsK_cons fun J hJ => ?_
    simp [go_sem]
    refine hJ _ _ _ ?_
    clear hJ J
  refine opsK_nil ?_
  refine hK2 _ ?_
  clear hK2
  refine awp_seq fun K3 hK3 => ?_
  refine awp_seq fun K4 hK4 => ?_
  refine awp_region ?_
  iterate 4
    refine opsK_cons fun J hJ => ?_
    simp [go_sem]
    refine hJ _ _ _ ?_
    clear hJ J
  refine opsK_nil ?_
  refine hK4 _ ?_
  clear hK4
  refine awp_block ?_
  refine awp_loop (ι := { q : List Ord × List Ord × Int // q.1 ++ q.2.1 = os ∧ heldG v q.2.1 q.2.2 = heldG v os 0 }) (fun q => heldI os v q.1.1 q.1.2.1 q.1.2.2) (fun q => q.1.2.1.length) ⟨([], os, 0), rfl, rfl⟩ ?_ ?_
  · refine weak_of [] (by simp [go_sem]) ?_ ?_ <;> simp [go_sem]
  intro ⟨⟨pre, post, n⟩, hl, hgo⟩
  simp only at hl hgo
  have hpl := len_small hl hL
  simp only [heldI]
  refine awp_seq fun K5 hK5 => ?_
  refine awp_region ?_
  iterate 1
    refine opsK_cons fun J hJ => ?_
    simp [go_sem]
    refine hJ _ _ _ ?_
    clear hJ J
  refine opsK_nil ?_
  refine hK5 _ ?_
  clear hK5
  refine awp_seq fun K6 hK6 => ?_
  refine awp_cond (t := _) rfl (fun c7 => ?_) (fun c7 => ?_)
  · simp [go_sem] at c7
    obtain ⟨x, post, rfl, hx⟩ := mid_lt hl c7
    refine awp_skip ?_
    refine hK6 _ ?_
    clear hK6
    refine awp_seq fun K8 hK8 => ?_
    refine awp_block ?_
    refine awp_seq fun K9 hK9 => ?_
    refine awp_region ?_
    iterate 4
      refine opsK_cons fun J hJ => ?_
      simp [go_sem, hx]
      refine hJ _ _ _ ?_
      clear hJ J
    refine opsK_nil ?_
    refine hK9 _ ?_
    clear hK9
    refine awp_seq fun K10 hK10 => ?_
    by_cases hc : x.item = v ∧ (x.state = 1 ∨ x.state = 2)
    · skip
      have g1 : (x.item == v) = true := by simp [hc.1]
      cases g2 : (x.state == 1) <;> cases g3 : (x.state == 2)
      all_goals first | (exfalso; simp at g2 g3; omega) | skip
      all_goals
        refine awp_region ?_
        iterate 14
          refine opsK_cons fun J hJ => ?_
          simp [go_sem, g1, g2, g3]
          refine hJ _ _ _ ?_
          clear hJ J
        refine opsK_nil ?_
        refine hK10 _ ?_
        clear hK10
        refine awp_condT rfl ?_
        refine awp_region ?_
        iterate 5
          refine opsK_cons fun J hJ => ?_
          simp [go_sem]
          refine hJ _ _ _ ?_
          clear hJ J
        refine opsK_nil ?_
        refine hK8 _ ?_
        clear hK8
        refine awp_region ?_
        iterate 2
          refine opsK_cons fun J hJ => ?_
          simp [go_sem]
          refine hJ _ _ _ ?_
          clear hJ J
        refine opsK_nil ?_
        refine ⟨⟨(pre ++ [x], post, (if x.item = v ∧ (x.state = 1 ∨ x.state = 2) then IntKind.i64.wrap (n + x.qty) else n)), by simp [← hl], by rw [← hgo]; simp [heldG]⟩, ?_, by simp⟩
        refine weak_of [] (by simp [go_sem]) ?_ ?_ <;> simp [go_sem, wrap_nat hpl, hc]
    · skip
      cases g1 : (x.item == v) <;> cases g2 : (x.state == 1) <;> cases g3 : (x.state == 2)
      all_goals first | (exfalso; simp at g1 g2 g3; omega) | skip
      all_goals
        refine awp_region ?_
        iterate 14
          refine opsK_cons fun J hJ => ?_
          simp [go_sem, g1, g2, g3]
          refine hJ _ _ _ ?_
          clear hJ J
        refine opsK_nil ?_
        refine hK10 _ ?_
        clear hK10
        refine awp_condF rfl ?_
        refine awp_skip ?_
        refine hK8 _ ?_
        clear hK8
        refine awp_region ?_
        iterate 2
          refine opsK_cons fun J hJ => ?_
          simp [go_sem]
          refine hJ _ _ _ ?_
          clear hJ J
        refine opsK_nil ?_
        refine ⟨⟨(pre ++ [x], post, (if x.item = v ∧ (x.state = 1 ∨ x.state = 2) then IntKind.i64.wrap (n + x.qty) else n)), by simp [← hl], by rw [← hgo]; simp [heldG]⟩, ?_, by simp⟩
        refine weak_of [] (by simp [go_sem]) ?_ ?_ <;> simp [go_sem, wrap_nat hpl, hc]
  · simp [go_sem] at c7
    obtain ⟨rfl, rfl⟩ := mid_nil hl c7
    refine awp_exit ?_
    simp only [go_sem]
    refine hK3 _ ?_
    clear hK3
    refine awp_seq fun K12 hK12 => ?_
    refine awp_region ?_
    iterate 2
      refine opsK_cons fun J hJ => ?_
      simp [go_sem]
      refine hJ _ _ _ ?_
      clear hJ J
    refine opsK_nil ?_
    refine hK12 _ ?_
    clear hK12
    refine awp_ret ?_
    refine finWQ_of [] ?_
    simp [go_sem, Try.f34, ← hgo, heldG]

end Go.Proofs.Ytebflegkdfhoaaa.AE
