/-
  Package stamp, first part: contracts. Conditions: none; every contract names its own.
-/
import Derived.Test.YtebflegkdfhoaaaCmp
import Derived.Test.YtebflegkdfhoaaaSl
import Derived.Test.YtebflegkdfhoaaaSl3
namespace Go.Proofs.Ytebflegkdfhoaaa.AE
open Go Go.Proofs Go.RowKit
set_option linter.unusedVariables false
set_option linter.unusedSimpArgs false
set_option maxRecDepth 100000
set_option maxHeartbeats 4000000
/-- The order of stamps. -/
def ordChg (a b : Chg) : Int := orL [cmpI a.time b.time, cmpI a.id.rep b.id.rep, cmpI a.id.seq b.id.seq]
def lessChg (a b : Chg) : Bool := decide (ordChg a b < 0)
def lessCR (a b : Chg) : Bool := decide (a.time < b.time ∨ a.time = b.time ∧ (a.id.rep < b.id.rep ∨ a.id.rep = b.id.rep ∧ a.id.seq < b.id.seq))
theorem lessCR_eq (a b : Chg) : lessCR a b = lessChg a b := by
  have h : (ordChg a b < 0) ↔ (a.time < b.time ∨ a.time = b.time ∧ (a.id.rep < b.id.rep ∨ a.id.rep = b.id.rep ∧ a.id.seq < b.id.seq)) := by
    simp only [ordChg, orL, cmpI]
    split <;> split <;> (try split) <;> (try split) <;> (try split) <;> (try split) <;> (try split) <;> omega
  unfold lessChg lessCR
  exact decide_eq_decide.2 h.symm

structure ordChgX where
  a : Chg
  b : Chg
/-- stamp.order -/
noncomputable def ordChgS : HSpec := mkH (ι := ordChgX) (fun ⟨a, b⟩ => ([.agg (cChg a), .agg (cChg b)], [])) fun ⟨a, b⟩ => ⟨.int .i64 (ordChg a b), [], []⟩
theorem ordChgS_atG (a : Chg) (b : Chg) : ordChgS [.agg (cChg a), .agg (cChg b)] [] = some (⟨.int .i64 (ordChg a b), [], []⟩) :=
  mkH_at (ι := ordChgX) (A := fun ⟨a, b⟩ => ([.agg (cChg a), .agg (cChg b)], [])) (R := fun ⟨a, b⟩ => ⟨.int .i64 (ordChg a b), [], []⟩) (fun i j h => by obtain ⟨a, b⟩ := i; obtain ⟨a2, b2⟩ := j; simp [and_assoc, cBk_eq_iff, cId_eq_iff, cOrd_eq_iff, cChg_eq_iff, cEff_eq_iff, cKey_eq_iff, cReq_eq_iff, cV_eq_iff, cOp_eq_iff, cOc_eq_iff] at h; obtain ⟨rfl, rfl⟩ := h; rfl) ⟨a, b⟩
theorem ordChgS_at (a : Chg) (b : Chg) : ordChgS [.agg (cChg a), .agg (cChg b)] [] = some (⟨.int .i64 (ordChg a b), [], []⟩) := ordChgS_atG a b

theorem ordChg_ok : HSound Try.prog 64 ordChgS := by
  refine sound_ofE (fn := Try.f64) rfl rfl (by kernel_rfl) fun args bx hr hS => ?_
  obtain ⟨⟨a, b⟩, rfl, rfl, rfl⟩ := mkH_of hS
  clear hS
  refine ⟨_, (EnvOK.consV (g := 78) (by kernel_rfl) cmp_ok (EnvOK.consV (g := 77) (by kernel_rfl) or_ok (EnvOK.nil _))), by simp [Try.f64], by simp [go_sem], fun w Mx pin => ?_⟩
  simp only [hB_at, lab_nil, lab_cons, hOf_nil, hOf_cons]
  refine awp_seq fun K1 hK1 => ?_
  refine awp_region ?_
  iterate 3
    refine opsK_cons fun J hJ => ?_
    simp [go_sem]
    refine hJ _ _ _ ?_
    clear hJ J
  refine opsK_nil ?_
  refine hK1 _ ?_
  clear hK1
  refine awp_seq fun K2 hK2 => ?_
  refine awp_draw ?_
  iterate 22
    refine opsK_cons fun J hJ => ?_
    simp [go_sem, cmpS_at, orS_at [cmpI a.time b.time, cmpI a.id.rep b.id.rep, cmpI a.id.seq b.id.seq] (by simp)]
    refine hJ _ _ _ ?_
    clear hJ J
  refine opsK_nil ?_
  refine ⟨rfl, ?_⟩
  refine hK2 _ ?_
  clear hK2
  refine awp_ret ?_
  refine finWQ_of [] ?_
  simp [go_sem, Try.f64, ordChg]

structure lessChgX where
  a : Chg
  b : Chg
/-- stamp.Less -/
noncomputable def lessChgS : HSpec := mkH (ι := lessChgX) (fun ⟨a, b⟩ => ([.agg (cChg a), .agg (cChg b)], [])) fun ⟨a, b⟩ => ⟨.bool (lessChg a b), [], []⟩
theorem lessChgS_atG (a : Chg) (b : Chg) : lessChgS [.agg (cChg a), .agg (cChg b)] [] = some (⟨.bool (lessChg a b), [], []⟩) :=
  mkH_at (ι := lessChgX) (A := fun ⟨a, b⟩ => ([.agg (cChg a), .agg (cChg b)], [])) (R := fun ⟨a, b⟩ => ⟨.bool (lessChg a b), [], []⟩) (fun i j h => by obtain ⟨a, b⟩ := i; obtain ⟨a2, b2⟩ := j; simp [and_assoc, cBk_eq_iff, cId_eq_iff, cOrd_eq_iff, cChg_eq_iff, cEff_eq_iff, cKey_eq_iff, cReq_eq_iff, cV_eq_iff, cOp_eq_iff, cOc_eq_iff] at h; obtain ⟨rfl, rfl⟩ := h; rfl) ⟨a, b⟩
theorem lessChgS_at (a : Chg) (b : Chg) : lessChgS [.agg (cChg a), .agg (cChg b)] [] = some (⟨.bool (lessChg a b), [], []⟩) := lessChgS_atG a b

theorem lessChg_ok : HSound Try.prog 38 lessChgS := by
  refine sound_ofE (fn := Try.f38) rfl rfl (by kernel_rfl) fun args bx hr hS => ?_
  obtain ⟨⟨a, b⟩, rfl, rfl, rfl⟩ := mkH_of hS
  clear hS
  refine ⟨_, (EnvOK.consV (g := 64) (by kernel_rfl) ordChg_ok (EnvOK.nil _)), by simp [Try.f38], by simp [go_sem], fun w Mx pin => ?_⟩
  simp only [hB_at, lab_nil, lab_cons, hOf_nil, hOf_cons]
  refine awp_seq fun K1 hK1 => ?_
  refine awp_region ?_
  iterate 3
    refine opsK_cons fun J hJ => ?_
    simp [go_sem]
    refine hJ _ _ _ ?_
    clear hJ J
  refine opsK_nil ?_
  refine hK1 _ ?_
  clear hK1
  refine awp_seq fun K2 hK2 => ?_
  refine awp_region ?_
  iterate 5
    refine opsK_cons fun J hJ => ?_
    simp [go_sem, ordChgS_at]
    refine hJ _ _ _ ?_
    clear hJ J
  refine opsK_nil ?_
  refine hK2 _ ?_
  clear hK2
  refine awp_ret ?_
  refine finWQ_of [] ?_
  simp [go_sem, Try.f38, lessChg]

structure lessCRX where
  a : Chg
  b : Chg
/-- countermandref07.Less -/
noncomputable def lessCRS : HSpec := mkH (ι := lessCRX) (fun ⟨a, b⟩ => ([.agg (cChg a), .agg (cChg b)], [])) fun ⟨a, b⟩ => ⟨.bool (lessCR a b), [], []⟩
theorem lessCRS_atG (a : Chg) (b : Chg) : lessCRS [.agg (cChg a), .agg (cChg b)] [] = some (⟨.bool (lessCR a b), [], []⟩) :=
  mkH_at (ι := lessCRX) (A := fun ⟨a, b⟩ => ([.agg (cChg a), .agg (cChg b)], [])) (R := fun ⟨a, b⟩ => ⟨.bool (lessCR a b), [], []⟩) (fun i j h => by obtain ⟨a, b⟩ := i; obtain ⟨a2, b2⟩ := j; simp [and_assoc, cBk_eq_iff, cId_eq_iff, cOrd_eq_iff, cChg_eq_iff, cEff_eq_iff, cKey_eq_iff, cReq_eq_iff, cV_eq_iff, cOp_eq_iff, cOc_eq_iff] at h; obtain ⟨rfl, rfl⟩ := h; rfl) ⟨a, b⟩
theorem lessCRS_at (a : Chg) (b : Chg) : lessCRS [.agg (cChg a), .agg (cChg b)] [] = some (⟨.bool (lessCR a b), [], []⟩) := lessCRS_atG a b

theorem lessCR_ok : HSound Try.prog 39 lessCRS := by
  refine sound_ofE (fn := Try.f39) rfl rfl (by kernel_rfl) fun args bx hr hS => ?_
  obtain ⟨⟨a, b⟩, rfl, rfl, rfl⟩ := mkH_of hS
  clear hS
  refine ⟨_, (EnvOK.nil _), by simp [Try.f39], by simp [go_sem], fun w Mx pin => ?_⟩
  simp only [hB_at, lab_nil, lab_cons, hOf_nil, hOf_cons]
  refine awp_seq fun K1 hK1 => ?_
  refine awp_region ?_
  iterate 3
    refine opsK_cons fun J hJ => ?_
    simp [go_sem]
    refine hJ _ _ _ ?_
    clear hJ J
  refine opsK_nil ?_
  refine hK1 _ ?_
  clear hK1
  refine awp_seq fun K2 hK2 => ?_
  refine awp_seq fun K3 hK3 => ?_
  refine awp_region ?_
  iterate 5
    refine opsK_cons fun J hJ => ?_
    simp [go_sem]
    refine hJ _ _ _ ?_
    clear hJ J
  refine opsK_nil ?_
  refine hK3 _ ?_
  clear hK3
  refine awp_cond (t := _) rfl (fun c4 => ?_) (fun c4 => ?_)
  · simp [go_sem] at c4
    refine awp_seq fun K5 hK5 => ?_
    refine awp_region ?_
    iterate 6
      refine opsK_cons fun J hJ => ?_
      simp [go_sem]
      refine hJ _ _ _ ?_
      clear hJ J
    refine opsK_nil ?_
    refine hK5 _ ?_
    clear hK5
    refine awp_ret ?_
    refine finWQ_of [] ?_
    simp [go_sem, Try.f39, lessCR]
    try (first | done | (intros; omega) | (rw [Bool.eq_iff_iff]; simp; omega))
  · simp [go_sem] at c4
    refine awp_skip ?_
    refine hK2 _ ?_
    clear hK2
    refine awp_seq fun K6 hK6 => ?_
    refine awp_seq fun K7 hK7 => ?_
    refine awp_region ?_
    iterate 7
      refine opsK_cons fun J hJ => ?_
      simp [go_sem]
      refine hJ _ _ _ ?_
      clear hJ J
    refine opsK_nil ?_
    refine hK7 _ ?_
    clear hK7
    refine awp_cond (t := _) rfl (fun c8 => ?_) (fun c8 => ?_)
    · simp [go_sem] at c8
      refine awp_seq fun K9 hK9 => ?_
      refine awp_region ?_
      iterate 8
        refine opsK_cons fun J hJ => ?_
        simp [go_sem]
        refine hJ _ _ _ ?_
        clear hJ J
      refine opsK_nil ?_
      refine hK9 _ ?_
      clear hK9
      refine awp_ret ?_
      refine finWQ_of [] ?_
      simp [go_sem, Try.f39, lessCR]
      try (first | done | (intros; omega) | (rw [Bool.eq_iff_iff]; simp; omega))
    · simp [go_sem] at c8
      refine awp_skip ?_
      refine hK6 _ ?_
      clear hK6
      refine awp_seq fun K10 hK10 => ?_
      refine awp_region ?_
      iterate 8
        refine opsK_cons fun J hJ => ?_
        simp [go_sem]
        refine hJ _ _ _ ?_
        clear hJ J
      refine opsK_nil ?_
      refine hK10 _ ?_
      clear hK10
      refine awp_ret ?_
      refine finWQ_of [] ?_
      simp [go_sem, Try.f39, lessCR]
      try (first | done | (intros; omega) | (rw [Bool.eq_iff_iff]; simp; omega))

theorem idx3 (i : Int) (n : Nat) : i < 0 ∨ (¬ i < 0 ∧ (n : Int) ≤ i) ∨ ∃ k : Nat, i = k ∧ k < n := by
  by_cases h : i < 0
  · exact .inl h
  · by_cases h2 : (n : Int) ≤ i
    · exact .inr (.inl ⟨h, h2⟩)
    · exact .inr (.inr ⟨i.toNat, by omega, by omega⟩)
/-- Is it the change with an Id? -/
def isChg (a : Id) (x : Chg) : Bool := decide (x.id = a)
def placeC (l : List Chg) (a : Id) : Int := idxL (isChg a) l 0

structure isChgX where
  x : Chg
  a : Id
/-- stamp.Find$1 -/
noncomputable def isChgS : HSpec := mkH (ι := isChgX) (fun ⟨x, a⟩ => ([.agg (cChg x), .iref (cId a) 0], [])) fun ⟨x, a⟩ => ⟨.bool (isChg a x), [], []⟩
theorem isChgS_atG (x : Chg) (a : Id) : isChgS [.agg (cChg x), .iref (cId a) 0] [] = some (⟨.bool (isChg a x), [], []⟩) :=
  mkH_at (ι := isChgX) (A := fun ⟨x, a⟩ => ([.agg (cChg x), .iref (cId a) 0], [])) (R := fun ⟨x, a⟩ => ⟨.bool (isChg a x), [], []⟩) (fun i j h => by obtain ⟨x, a⟩ := i; obtain ⟨x2, a2⟩ := j; simp [and_assoc, cBk_eq_iff, cId_eq_iff, cOrd_eq_iff, cChg_eq_iff, cEff_eq_iff, cKey_eq_iff, cReq_eq_iff, cV_eq_iff, cOp_eq_iff, cOc_eq_iff] at h; obtain ⟨rfl, rfl⟩ := h; rfl) ⟨x, a⟩
theorem isChgS_at (x : Chg) (a : Id) : isChgS [.agg (cChg x), .iref (cId a) 0] [] = some (⟨.bool (isChg a x), [], []⟩) := isChgS_atG x a

theorem isChg_ok : HSound Try.prog 68 isChgS := by
  refine sound_ofE (fn := Try.f68) rfl rfl (by kernel_rfl) fun args bx hr hS => ?_
  obtain ⟨⟨x, a⟩, rfl, rfl, rfl⟩ := mkH_of hS
  clear hS
  refine ⟨_, (EnvOK.nil _), by simp [Try.f68], by simp [go_sem], fun w Mx pin => ?_⟩
  simp only [hB_at, lab_nil, lab_cons, hOf_nil, hOf_cons]
  refine awp_seq fun K1 hK1 => ?_
  refine awp_region ?_
  iterate 2
    refine opsK_cons fun J hJ => ?_
    simp [go_sem]
    refine hJ _ _ _ ?_
    clear hJ J
  refine opsK_nil ?_
  refine hK1 _ ?_
  clear hK1
  refine awp_seq fun K2 hK2 => ?_
  refine awp_region ?_
  iterate 5
    refine opsK_cons fun J hJ => ?_
    simp [go_sem]
    refine hJ _ _ _ ?_
    clear hJ J
  refine opsK_nil ?_
  refine hK2 _ ?_
  clear hK2
  refine awp_ret ?_
  refine finWQ_of [] ?_
  simp [go_sem, Try.f68, isChg]

structure findCX where
  l : List Chg
  l' : AV
  a : Id
  h_l : SlA 9 cChg l l'
  hL : l.length ≤ 100000
/-- stamp.Find -/
noncomputable def findCS : HSpec := mkH (ι := findCX) (fun ⟨l, l', a, h_l, hL⟩ => ([l', .agg (cId a)], [])) fun ⟨l, l', a, h_l, hL⟩ => ⟨.int .i64 (placeC l a), [], []⟩
theorem findCS_atG (l : List Chg) (l' : AV) (a : Id) (h_l : SlA 9 cChg l l') (hL : l.length ≤ 100000) : findCS [l', .agg (cId a)] [] = some (⟨.int .i64 (placeC l a), [], []⟩) :=
  mkH_at (ι := findCX) (A := fun ⟨l, l', a, h_l, hL⟩ => ([l', .agg (cId a)], [])) (R := fun ⟨l, l', a, h_l, hL⟩ => ⟨.int .i64 (placeC l a), [], []⟩) (fun i j h => by obtain ⟨l, l', a, h_l, hL⟩ := i; obtain ⟨l2, l'2, a2, h_l2, hL2⟩ := j; simp [and_assoc, cBk_eq_iff, cId_eq_iff, cOrd_eq_iff, cChg_eq_iff, cEff_eq_iff, cKey_eq_iff, cReq_eq_iff, cV_eq_iff, cOp_eq_iff, cOc_eq_iff] at h; obtain ⟨rfl, rfl⟩ := h; obtain rfl := SlA.inj (fun x y h => cChg_inj h) h_l h_l2; rfl) ⟨l, l', a, h_l, hL⟩
theorem findCS_at (l : List Chg) (a : Id) (hL : l.length ≤ 100000) : findCS [(.sl 9 (rows cChg l)), .agg (cId a)] [] = some (⟨.int .i64 (placeC l a), [], []⟩) := findCS_atG l _ a .sl hL
theorem findCS_atN (a : Id) : findCS [.nils, .agg (cId a)] [] = some ((fun (l : List Chg) => ⟨.int .i64 (placeC l a), [], []⟩) []) := findCS_atG [] _ a .nil (by simp)

theorem findC_ok : HSound Try.prog 45 findCS := by
  refine sound_ofE (fn := Try.f45) rfl rfl (by kernel_rfl) fun args bx hr hS => ?_
  obtain ⟨⟨l, l', a, h_l, hL⟩, rfl, rfl, rfl⟩ := mkH_of hS
  clear hS
  refine ⟨_, (EnvOK.consV (g := 67) (by kernel_rfl) (indexChg_ok 68 [.iref (cId a) 0] (isChg a) isChgS (by kernel_rfl) isChg_ok (fun x => isChgS_at x a) (fun H => by simp [go_sem]) (fun H0 H => by simp [go_sem])) (EnvOK.nil _)), by simp [Try.f45], by simp [go_sem], fun w Mx pin => ?_⟩
  simp only [hB_at, lab_nil, lab_cons, hOf_nil, hOf_cons]
  refine awp_weak (s' := ⟨ofL [(0, (.sl 9 (rows cChg l))), (1, .agg (cId a))], hOf []⟩) ?_ ?_
  · cases h_l <;> exact weak_of [] (by simp [go_sem]) (by simp [go_sem]) (by simp [go_sem])
  clear h_l
  refine awp_seq fun K1 hK1 => ?_
  refine awp_region ?_
  iterate 2
    refine opsK_cons fun J hJ => ?_
    simp [go_sem]
    refine hJ _ _ _ ?_
    clear hJ J
  refine opsK_nil ?_
  refine hK1 _ ?_
  clear hK1
  refine awp_seq fun K2 hK2 => ?_
  refine awp_region ?_
  iterate 4
    refine opsK_cons fun J hJ => ?_
    simp [go_sem, indexChgS_at _ _ (isChg a) l hL]
    refine hJ _ _ _ ?_
    clear hJ J
  refine opsK_nil ?_
  refine hK2 _ ?_
  clear hK2
  refine awp_ret ?_
  refine finWQ_of [] ?_
  simp [go_sem, Try.f45, placeC]

def lastG : List Chg → Int → Int
  | [], t => t
  | c :: r, t => lastG r (mx t c.time)
def withoutL (l : List Chg) (i : Int) : List Chg := if i < 0 ∨ (l.length : Int) ≤ i then l else l.take i.toNat ++ l.drop (i.toNat + 1)

structure lastCX where
  l : List Chg
  l' : AV
  h_l : SlA 9 cChg l l'
  hL : l.length ≤ 100000
/-- stamp.Last -/
noncomputable def lastCS : HSpec := mkH (ι := lastCX) (fun ⟨l, l', h_l, hL⟩ => ([l'], [])) fun ⟨l, l', h_l, hL⟩ => ⟨.int .i64 (lastG l 0), [], []⟩
theorem lastCS_atG (l : List Chg) (l' : AV) (h_l : SlA 9 cChg l l') (hL : l.length ≤ 100000) : lastCS [l'] [] = some (⟨.int .i64 (lastG l 0), [], []⟩) :=
  mkH_at (ι := lastCX) (A := fun ⟨l, l', h_l, hL⟩ => ([l'], [])) (R := fun ⟨l, l', h_l, hL⟩ => ⟨.int .i64 (lastG l 0), [], []⟩) (fun i j h => by obtain ⟨l, l', h_l, hL⟩ := i; obtain ⟨l2, l'2, h_l2, hL2⟩ := j; simp [and_assoc, cBk_eq_iff, cId_eq_iff, cOrd_eq_iff, cChg_eq_iff, cEff_eq_iff, cKey_eq_iff, cReq_eq_iff, cV_eq_iff, cOp_eq_iff, cOc_eq_iff] at h; obtain rfl := h; obtain rfl := SlA.inj (fun x y h => cChg_inj h) h_l h_l2; rfl) ⟨l, l', h_l, hL⟩
theorem lastCS_at (l : List Chg) (hL : l.length ≤ 100000) : lastCS [(.sl 9 (rows cChg l))] [] = some (⟨.int .i64 (lastG l 0), [], []⟩) := lastCS_atG l _ .sl hL
theorem lastCS_atN : lastCS [.nils] [] = some ((fun (l : List Chg) => ⟨.int .i64 (lastG l 0), [], []⟩) []) := lastCS_atG [] _ .nil (by simp)

def lastI (l pre _post : List Chg) (t : Int) : St := ⟨ofL [(3, .int .i64 t), (6, .sl 9 (rows cChg l)), (7, .int .i64 l.length), (8, .int .i64 pre.length)], hOf []⟩

theorem lastC_ok : HSound Try.prog 47 lastCS := by
  refine sound_ofE (fn := Try.f47) rfl rfl (by kernel_rfl) fun args bx hr hS => ?_
  obtain ⟨⟨l, l', h_l, hL⟩, rfl, rfl, rfl⟩ := mkH_of hS
  clear hS
  refine ⟨_, (EnvOK.nil _), by simp [Try.f47], by simp [go_sem], fun w Mx pin => ?_⟩
  simp only [hB_at, lab_nil, lab_cons, hOf_nil, hOf_cons]
  refine awp_weak (s' := ⟨ofL [(0, (.sl 9 (rows cChg l)))], hOf []⟩) ?_ ?_
  · cases h_l <;> exact weak_of [] (by simp [go_sem]) (by simp [go_sem]) (by simp [go_sem])
  clear h_l
  refine awp_seq fun K1 hK1 => ?_
  refine awp_region ?_
  iterate 1
    refine opsK_cons fun J hJ => ?_
    simp [go_sem]
    refine hJ _ _ _ ?_
    clear hJ J
  refine opsK_nil ?_
  refine hK1 _ ?_
  clear hK1
  refine awp_seq fun K2 hK2 => ?_
  refine awp_region ?_
  iterate 1
    refine opsK_cons fun J hJ => ?_
    simp [go_sem]
    refine hJ _ _ _ ?_
    clear hJ J
  refine opsK_nil ?_
  refine hK2 _ ?_
  clear hK2
  refine awp_seq fun K3 hK3 => ?_
  refine awp_seq fun K4 hK4 => ?_
  refine awp_region ?_
  iterate 3
    refine opsK_cons fun J hJ => ?_
    simp [go_sem]
    refine hJ _ _ _ ?_
    clear hJ J
  refine opsK_nil ?_
  refine hK4 _ ?_
  clear hK4
  refine awp_block ?_
  refine awp_loop (ι := { q : List Chg × List Chg × Int // q.1 ++ q.2.1 = l ∧ lastG q.2.1 q.2.2 = lastG l 0 }) (fun q => lastI l q.1.1 q.1.2.1 q.1.2.2) (fun q => q.1.2.1.length) ⟨([], l, 0), rfl, rfl⟩ ?_ ?_
  · refine weak_of [] (by simp [go_sem]) ?_ ?_ <;> simp [go_sem]
  intro ⟨⟨pre, post, t⟩, hl, hgo⟩
  simp only at hl hgo
  have hpl := len_small hl hL
  simp only [lastI]
  refine awp_seq fun K5 hK5 => ?_
  refine awp_region ?_
  iterate 1
    refine opsK_cons fun J hJ => ?_
    simp [go_sem]
    refine hJ _ _ _ ?_
    clear hJ J
  refine opsK_nil ?_
  refine hK5 _ ?_
  clear hK5
  refine awp_seq fun K6 hK6 => ?_
  refine awp_cond (t := _) rfl (fun c7 => ?_) (fun c7 => ?_)
  · simp [go_sem] at c7
    obtain ⟨x, post, rfl, hx⟩ := mid_lt hl c7
    refine awp_skip ?_
    refine hK6 _ ?_
    clear hK6
    refine awp_seq fun K8 hK8 => ?_
    refine awp_block ?_
    refine awp_seq fun K9 hK9 => ?_
    refine awp_region ?_
    iterate 4
      refine opsK_cons fun J hJ => ?_
      simp [go_sem, hx]
      refine hJ _ _ _ ?_
      clear hJ J
    refine opsK_nil ?_
    refine hK9 _ ?_
    clear hK9
    refine awp_region ?_
    iterate 5
      refine opsK_cons fun J hJ => ?_
      simp [go_sem]
      refine hJ _ _ _ ?_
      clear hJ J
    refine opsK_nil ?_
    refine hK8 _ ?_
    clear hK8
    refine awp_region ?_
    iterate 2
      refine opsK_cons fun J hJ => ?_
      simp [go_sem]
      refine hJ _ _ _ ?_
      clear hJ J
    refine opsK_nil ?_
    refine ⟨⟨(pre ++ [x], post, mx t x.time), by simp [← hl], by rw [← hgo]; simp [lastG]⟩, ?_, by simp⟩
    refine weak_of [] (by simp [go_sem]) ?_ ?_ <;> simp [go_sem, wrap_nat hpl]
  · simp [go_sem] at c7
    obtain ⟨rfl, rfl⟩ := mid_nil hl c7
    refine awp_exit ?_
    simp only [go_sem]
    refine hK3 _ ?_
    clear hK3
    refine awp_seq fun K10 hK10 => ?_
    refine awp_region ?_
    iterate 2
      refine opsK_cons fun J hJ => ?_
      simp [go_sem]
      refine hJ _ _ _ ?_
      clear hJ J
    refine opsK_nil ?_
    refine hK10 _ ?_
    clear hK10
    refine awp_ret ?_
    refine finWQ_of [] ?_
    simp [go_sem, Try.f47, ← hgo, lastG]

structure withCX where
  l : List Chg
  l' : AV
  i : Int
  h_l : SlA 9 cChg l l'
  hL : l.length ≤ 100000
/-- stamp.Without -/
noncomputable def withCS : HSpec := mkH (ι := withCX) (fun ⟨l, l', i, h_l, hL⟩ => ([l', .int .i64 i], [])) fun ⟨l, l', i, h_l, hL⟩ => ⟨.own (2, 0) (withoutL l i).length, [], [.row 26 9 (rows cChg (withoutL l i)) false]⟩
theorem withCS_atG (l : List Chg) (l' : AV) (i : Int) (h_l : SlA 9 cChg l l') (hL : l.length ≤ 100000) : withCS [l', .int .i64 i] [] = some (⟨.own (2, 0) (withoutL l i).length, [], [.row 26 9 (rows cChg (withoutL l i)) false]⟩) :=
  mkH_at (ι := withCX) (A := fun ⟨l, l', i, h_l, hL⟩ => ([l', .int .i64 i], [])) (R := fun ⟨l, l', i, h_l, hL⟩ => ⟨.own (2, 0) (withoutL l i).length, [], [.row 26 9 (rows cChg (withoutL l i)) false]⟩) (fun i j h => by obtain ⟨l, l', i, h_l, hL⟩ := i; obtain ⟨l2, l'2, i2, h_l2, hL2⟩ := j; simp [and_assoc, cBk_eq_iff, cId_eq_iff, cOrd_eq_iff, cChg_eq_iff, cEff_eq_iff, cKey_eq_iff, cReq_eq_iff, cV_eq_iff, cOp_eq_iff, cOc_eq_iff] at h; obtain ⟨rfl, rfl⟩ := h; obtain rfl := SlA.inj (fun x y h => cChg_inj h) h_l h_l2; rfl) ⟨l, l', i, h_l, hL⟩
theorem withCS_at (l : List Chg) (i : Int) (hL : l.length ≤ 100000) : withCS [(.sl 9 (rows cChg l)), .int .i64 i] [] = some (⟨.own (2, 0) (withoutL l i).length, [], [.row 26 9 (rows cChg (withoutL l i)) false]⟩) := withCS_atG l _ i .sl hL
theorem withCS_atN (i : Int) : withCS [.nils, .int .i64 i] [] = some ((fun (l : List Chg) => ⟨.own (2, 0) (withoutL l i).length, [], [.row 26 9 (rows cChg (withoutL l i)) false]⟩) []) := withCS_atG [] _ i .nil (by simp)

theorem withC_ok : HSound Try.prog 42 withCS := by
  refine sound_ofE (fn := Try.f42) rfl rfl (by kernel_rfl) fun args bx hr hS => ?_
  obtain ⟨⟨l, l', i, h_l, hL⟩, rfl, rfl, rfl⟩ := mkH_of hS
  clear hS
  refine ⟨_, (EnvOK.consV (g := 54) (by kernel_rfl) cloneChg_ok (EnvOK.consV (g := 66) (by kernel_rfl) concatChg_ok (EnvOK.nil _))), by simp [Try.f42], by simp [go_sem], fun w Mx pin => ?_⟩
  simp only [hB_at, lab_nil, lab_cons, hOf_nil, hOf_cons]
  refine awp_weak (s' := ⟨ofL [(0, (.sl 9 (rows cChg l))), (1, .int .i64 i)], hOf []⟩) ?_ ?_
  · cases h_l <;> exact weak_of [] (by simp [go_sem]) (by simp [go_sem]) (by simp [go_sem])
  clear h_l
  refine awp_seq fun K1 hK1 => ?_
  refine awp_region ?_
  iterate 1
    refine opsK_cons fun J hJ => ?_
    simp [go_sem]
    refine hJ _ _ _ ?_
    clear hJ J
  refine opsK_nil ?_
  refine hK1 _ ?_
  clear hK1
  refine awp_seq fun K2 hK2 => ?_
  refine awp_seq fun K3 hK3 => ?_
  rcases (show i < 0 ∨ (¬ i < 0 ∧ (l.length : Int) ≤ i) ∨ ∃ k : Nat, i = k ∧ k < l.length from idx3 i l.length) with hi | ⟨hi, hi2⟩ | ⟨k, rfl, hk⟩
  · skip
    have hw : withoutL l i = l := if_pos (.inl hi)
    refine awp_region ?_
    iterate 8
      refine opsK_cons fun J hJ => ?_
      simp [go_sem, hi]
      refine hJ _ _ _ ?_
      clear hJ J
    refine opsK_nil ?_
    refine hK3 _ ?_
    clear hK3
    refine awp_condT rfl ?_
    refine awp_seq fun K5 hK5 => ?_
    refine awp_region ?_
    iterate 3
      refine opsK_cons fun J hJ => ?_
      simp [go_sem, cloneChgS_at l hL]
      refine hJ _ _ _ ?_
      clear hJ J
    refine opsK_nil ?_
    refine hK5 _ ?_
    clear hK5
    refine awp_ret ?_
    refine finWQ_of [((2, 0), some (0, 224))] ?_
    simp [go_sem, Try.f42, hw]
  · skip
    have hw : withoutL l i = l := if_pos (.inr hi2)
    refine awp_region ?_
    iterate 8
      refine opsK_cons fun J hJ => ?_
      simp [go_sem, hi, hi2]
      refine hJ _ _ _ ?_
      clear hJ J
    refine opsK_nil ?_
    refine hK3 _ ?_
    clear hK3
    refine awp_condT rfl ?_
    refine awp_seq fun K5 hK5 => ?_
    refine awp_region ?_
    iterate 3
      refine opsK_cons fun J hJ => ?_
      simp [go_sem, cloneChgS_at l hL]
      refine hJ _ _ _ ?_
      clear hJ J
    refine opsK_nil ?_
    refine hK5 _ ?_
    clear hK5
    refine awp_ret ?_
    refine finWQ_of [((2, 0), some (0, 224))] ?_
    simp [go_sem, Try.f42, hw]
  · skip
    have hw : withoutL l (k : Int) = l.take k ++ l.drop (k + 1) := by
      unfold withoutL
      rw [if_neg (by omega)]
      simp
    have hk1 : k ≤ l.length := by omega
    have hk2 : k + 1 ≤ l.length := by omega
    have hn : ¬ l.length ≤ k := by omega
    have wk := wrap_nat (n := k) (by omega)
    have hkt : ((k : Int) + 1).toNat = k + 1 := by omega
    have h0 : (0 : Int) ≤ (k : Int) + 1 := by omega
    refine awp_region ?_
    iterate 8
      refine opsK_cons fun J hJ => ?_
      simp [go_sem, hn]
      refine hJ _ _ _ ?_
      clear hJ J
    refine opsK_nil ?_
    refine hK3 _ ?_
    clear hK3
    refine awp_condF rfl ?_
    refine awp_skip ?_
    refine hK2 _ ?_
    clear hK2
    refine awp_seq fun K6 hK6 => ?_
    refine awp_draw ?_
    iterate 10
      refine opsK_cons fun J hJ => ?_
      simp [go_sem, wk, hk1, hk2, hkt, h0, concatChgS_at2 (l.take k) (l.drop (k + 1)) (by simp; omega)]
      refine hJ _ _ _ ?_
      clear hJ J
    refine opsK_nil ?_
    refine ⟨rfl, ?_⟩
    refine hK6 _ ?_
    clear hK6
    refine awp_ret ?_
    refine finWQ_of [((2, 0), some (0, 368))] ?_
    simp [go_sem, Try.f42, hw, Nat.min_eq_left hk1]

end Go.Proofs.Ytebflegkdfhoaaa.AE
