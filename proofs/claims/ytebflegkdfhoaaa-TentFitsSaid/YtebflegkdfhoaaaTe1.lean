/-
  Package tent: contracts. Conditions: none; every contract names its own.
-/
import Derived.Test.YtebflegkdfhoaaaPu
namespace Go.Proofs.Ytebflegkdfhoaaa.AE
open Go Go.Proofs Go.RowKit
set_option linter.unusedVariables false
set_option linter.unusedSimpArgs false
set_option maxRecDepth 100000
set_option maxHeartbeats 4000000
/-- Does a change lie ahead, of the same replica? -/
def aheadC (a : Id) (x : Chg) : Bool := decide (x.id.rep = a.rep ∧ x.id.seq < a.seq)
def freeC (l : List Chg) (a : Id) : Bool := decide (0 ≤ placeC l a) && !(l.any (aheadC a))
theorem idxC_ge0 {α : Type} (p : α → Bool) (l : List α) (i : Nat) : (0 ≤ idxL p l i) ↔ l.any p = true := by
  induction l generalizing i with
  | nil => simp [idxL]
  | cons x r ih =>
    by_cases hx : p x = true
    · simp [idxL, hx]
    · simp [idxL, hx, ih]
theorem idxC_at {α : Type} (p : α → Bool) : ∀ (l : List α) (i : Nat), idxL p l i = -1 ∨ ∃ k x, k < l.length ∧ idxL p l i = ((i + k : Nat) : Int) ∧ l[k]? = some x ∧ p x = true
  | [], i => .inl rfl
  | x :: r, i => by
    by_cases hx : p x = true
    · exact .inr ⟨0, x, by simp, by simp [idxL, hx], by simp, hx⟩
    · rcases idxC_at p r (i + 1) with h1 | ⟨k, y, h1, h2, h3, h4⟩
      · exact .inl (by simp [idxL, hx, h1])
      · exact .inr ⟨k + 1, y, by simp; omega, by simp [idxL, hx, h2]; omega, by simpa using h3, h4⟩
theorem placeC_at (l : List Chg) (a : Id) : placeC l a = -1 ∨ ∃ k x, k < l.length ∧ placeC l a = (k : Int) ∧ l[k]? = some x ∧ x.id = a := by
  rcases idxC_at (isChg a) l 0 with h | ⟨k, x, h1, h2, h3, h4⟩
  · exact .inl h
  · exact .inr ⟨k, x, h1, by rw [placeC, h2]; simp, h3, by simpa [isChg] using h4⟩
/-- The first one. -/
def headC (l : List Chg) : Chg := (l[0]?).getD zChg
theorem head_cases (l : List Chg) : (l.length = 0 ∧ headC l = zChg ∧ decide (l ≠ []) = false) ∨ ∃ x, 0 < l.length ∧ l[0]? = some x ∧ headC l = x ∧ decide (l ≠ []) = true := by
  cases l with
  | nil => exact .inl ⟨rfl, rfl, by simp⟩
  | cons x r => exact .inr ⟨x, by simp, rfl, rfl, by simp⟩
def tputL (l : List Chg) (c : Chg) : List Chg := if 0 ≤ placeC l c.id then l else putL c l
def takeC (l : List Chg) (a : Id) : Chg := if freeC l a = true then (l[(placeC l a).toNat]?).getD zChg else zChg
def takeL (l : List Chg) (a : Id) : List Chg := if freeC l a = true then withoutL l (placeC l a) else l

structure aheadCX where
  x : Chg
  a : Id
/-- tent.Free$1 -/
noncomputable def aheadCS : HSpec := mkH (ι := aheadCX) (fun ⟨x, a⟩ => ([.agg (cChg x), .iref (cId a) 0], [])) fun ⟨x, a⟩ => ⟨.bool (aheadC a x), [], []⟩
theorem aheadCS_atG (x : Chg) (a : Id) : aheadCS [.agg (cChg x), .iref (cId a) 0] [] = some (⟨.bool (aheadC a x), [], []⟩) :=
  mkH_at (ι := aheadCX) (A := fun ⟨x, a⟩ => ([.agg (cChg x), .iref (cId a) 0], [])) (R := fun ⟨x, a⟩ => ⟨.bool (aheadC a x), [], []⟩) (fun i j h => by obtain ⟨x, a⟩ := i; obtain ⟨x2, a2⟩ := j; simp [and_assoc, cBk_eq_iff, cId_eq_iff, cOrd_eq_iff, cChg_eq_iff, cEff_eq_iff, cKey_eq_iff, cReq_eq_iff, cV_eq_iff, cOp_eq_iff, cOc_eq_iff, rows_iff_Chg] at h; obtain ⟨rfl, rfl⟩ := h; rfl) ⟨x, a⟩
theorem aheadCS_at (x : Chg) (a : Id) : aheadCS [.agg (cChg x), .iref (cId a) 0] [] = some (⟨.bool (aheadC a x), [], []⟩) := aheadCS_atG x a

theorem aheadC_ok : HSound Try.prog 56 aheadCS := by
  refine sound_ofE (fn := Try.f56) rfl rfl (by kernel_rfl) fun args bx hr hS => ?_
  obtain ⟨⟨x, a⟩, rfl, rfl, rfl⟩ := mkH_of hS
  clear hS
  refine ⟨_, (EnvOK.nil _), by simp [Try.f56], by simp [go_sem], fun w Mx pin => ?_⟩
  simp only [hB_at, lab_nil, lab_cons, hOf_nil, hOf_cons]
  refine awp_seq fun K1 hK1 => ?_
  refine awp_region ?_
  iterate 2
    refine opsK_cons fun J hJ => ?_
    simp [go_sem]
    refine hJ _ _ _ ?_
    clear hJ J
  refine opsK_nil ?_
  refine hK1 _ ?_
  clear hK1
  refine awp_seq fun K2 hK2 => ?_
  cases h1 : (x.id.rep == a.rep)
  all_goals
    refine awp_region ?_
    iterate 15
      refine opsK_cons fun J hJ => ?_
      simp [go_sem, h1]
      refine hJ _ _ _ ?_
      clear hJ J
    refine opsK_nil ?_
    refine hK2 _ ?_
    clear hK2
    refine awp_ret ?_
    refine finWQ_of [] ?_
    simp at h1
    simp [go_sem, Try.f56, aheadC, h1]

structure contCX where
  l : List Chg
  l' : AV
  a : Id
  h_l : SlA 9 cChg l l'
  hL : l.length ≤ 100000
/-- slices.ContainsFunc -/
noncomputable def contCS : HSpec := mkH (ι := contCX) (fun ⟨l, l', a, h_l, hL⟩ => ([l', .fn 56 [.iref (cId a) 0]], [])) fun ⟨l, l', a, h_l, hL⟩ => ⟨.bool (l.any (aheadC a)), [], []⟩
theorem contCS_atG (l : List Chg) (l' : AV) (a : Id) (h_l : SlA 9 cChg l l') (hL : l.length ≤ 100000) : contCS [l', .fn 56 [.iref (cId a) 0]] [] = some (⟨.bool (l.any (aheadC a)), [], []⟩) :=
  mkH_at (ι := contCX) (A := fun ⟨l, l', a, h_l, hL⟩ => ([l', .fn 56 [.iref (cId a) 0]], [])) (R := fun ⟨l, l', a, h_l, hL⟩ => ⟨.bool (l.any (aheadC a)), [], []⟩) (fun i j h => by obtain ⟨l, l', a, h_l, hL⟩ := i; obtain ⟨l2, l'2, a2, h_l2, hL2⟩ := j; simp [and_assoc, cBk_eq_iff, cId_eq_iff, cOrd_eq_iff, cChg_eq_iff, cEff_eq_iff, cKey_eq_iff, cReq_eq_iff, cV_eq_iff, cOp_eq_iff, cOc_eq_iff, rows_iff_Chg] at h; obtain ⟨rfl, rfl⟩ := h; obtain rfl := SlA.inj (fun x y h => cChg_inj h) h_l h_l2; rfl) ⟨l, l', a, h_l, hL⟩
theorem contCS_at (l : List Chg) (a : Id) (hL : l.length ≤ 100000) : contCS [(.sl 9 (rows cChg l)), .fn 56 [.iref (cId a) 0]] [] = some (⟨.bool (l.any (aheadC a)), [], []⟩) := contCS_atG l _ a .sl hL
theorem contCS_atN (a : Id) : contCS [.nils, .fn 56 [.iref (cId a) 0]] [] = some ((fun (l : List Chg) => ⟨.bool (l.any (aheadC a)), [], []⟩) []) := contCS_atG [] _ a .nil (by simp)

theorem contC_ok : HSound Try.prog 55 contCS := by
  refine sound_ofE (fn := Try.f55) rfl rfl (by kernel_rfl) fun args bx hr hS => ?_
  obtain ⟨⟨l, l', a, h_l, hL⟩, rfl, rfl, rfl⟩ := mkH_of hS
  clear hS
  refine ⟨_, (EnvOK.consV (g := 67) (by kernel_rfl) (indexChg_ok 56 [.iref (cId a) 0] (aheadC a) aheadCS (by kernel_rfl) aheadC_ok (fun x => aheadCS_at x a) (fun H => by simp [go_sem]) (fun H0 H => by simp [go_sem])) (EnvOK.nil _)), by simp [Try.f55], by simp [go_sem], fun w Mx pin => ?_⟩
  simp only [hB_at, lab_nil, lab_cons, hOf_nil, hOf_cons]
  refine awp_weak (s' := ⟨ofL [(0, (.sl 9 (rows cChg l))), (1, .fn 56 [.iref (cId a) 0])], hOf []⟩) ?_ ?_
  · cases h_l <;> exact weak_of [] (by simp [go_sem]) (by simp [go_sem]) (by simp [go_sem])
  clear h_l
  refine awp_seq fun K1 hK1 => ?_
  refine awp_region ?_
  iterate 1
    refine opsK_cons fun J hJ => ?_
    simp [go_sem]
    refine hJ _ _ _ ?_
    clear hJ J
  refine opsK_nil ?_
  refine hK1 _ ?_
  clear hK1
  refine awp_seq fun K2 hK2 => ?_
  refine awp_region ?_
  iterate 5
    refine opsK_cons fun J hJ => ?_
    simp [go_sem, indexChgS_at _ _ (aheadC a) l hL]
    refine hJ _ _ _ ?_
    clear hJ J
  refine opsK_nil ?_
  refine hK2 _ ?_
  clear hK2
  refine awp_ret ?_
  refine finWQ_of [] ?_
  have hq := idxC_ge0 (aheadC a) l 0
  simp [go_sem, Try.f55]
  exact Bool.eq_iff_iff.2 (by simpa using hq)

structure tFreeX where
  l : List Chg
  a : Id
  hL : l.length ≤ 100000
/-- tent.Free -/
noncomputable def tFreeS : HSpec := mkH (ι := tFreeX) (fun ⟨l, a, hL⟩ => ([.iref [.sl 9 (rows cChg l)] 0, .agg (cId a)], [])) fun ⟨l, a, hL⟩ => ⟨.bool (freeC l a), [], []⟩
theorem tFreeS_atG (l : List Chg) (a : Id) (hL : l.length ≤ 100000) : tFreeS [.iref [.sl 9 (rows cChg l)] 0, .agg (cId a)] [] = some (⟨.bool (freeC l a), [], []⟩) :=
  mkH_at (ι := tFreeX) (A := fun ⟨l, a, hL⟩ => ([.iref [.sl 9 (rows cChg l)] 0, .agg (cId a)], [])) (R := fun ⟨l, a, hL⟩ => ⟨.bool (freeC l a), [], []⟩) (fun i j h => by obtain ⟨l, a, hL⟩ := i; obtain ⟨l2, a2, hL2⟩ := j; simp [and_assoc, cBk_eq_iff, cId_eq_iff, cOrd_eq_iff, cChg_eq_iff, cEff_eq_iff, cKey_eq_iff, cReq_eq_iff, cV_eq_iff, cOp_eq_iff, cOc_eq_iff, rows_iff_Chg] at h; obtain ⟨rfl, rfl⟩ := h; rfl) ⟨l, a, hL⟩
theorem tFreeS_at (l : List Chg) (a : Id) (hL : l.length ≤ 100000) : tFreeS [.iref [.sl 9 (rows cChg l)] 0, .agg (cId a)] [] = some (⟨.bool (freeC l a), [], []⟩) := tFreeS_atG l a hL

theorem tFree_ok : HSound Try.prog 23 tFreeS := by
  refine sound_ofE (fn := Try.f23) rfl rfl (by kernel_rfl) fun args bx hr hS => ?_
  obtain ⟨⟨l, a, hL⟩, rfl, rfl, rfl⟩ := mkH_of hS
  clear hS
  refine ⟨_, (EnvOK.consV (g := 45) (by kernel_rfl) findC_ok (EnvOK.consV (g := 55) (by kernel_rfl) contC_ok (EnvOK.nil _))), by simp [Try.f23], by simp [go_sem], fun w Mx pin => ?_⟩
  simp only [hB_at, lab_nil, lab_cons, hOf_nil, hOf_cons]
  refine awp_seq fun K1 hK1 => ?_
  refine awp_region ?_
  iterate 2
    refine opsK_cons fun J hJ => ?_
    simp [go_sem]
    refine hJ _ _ _ ?_
    clear hJ J
  refine opsK_nil ?_
  refine hK1 _ ?_
  clear hK1
  refine awp_seq fun K2 hK2 => ?_
  refine awp_seq fun K3 hK3 => ?_
  refine awp_draw ?_
  iterate 11
    refine opsK_cons fun J hJ => ?_
    simp [go_sem, findCS_at l a hL]
    refine hJ _ _ _ ?_
    clear hJ J
  refine opsK_nil ?_
  refine ⟨rfl, ?_⟩
  refine hK3 _ ?_
  clear hK3
  refine awp_cond (t := _) rfl (fun c4 => ?_) (fun c4 => ?_)
  · simp [go_sem] at c4
    refine awp_seq fun K5 hK5 => ?_
    refine awp_region ?_
    iterate 1
      refine opsK_cons fun J hJ => ?_
      simp [go_sem]
      refine hJ _ _ _ ?_
      clear hJ J
    refine opsK_nil ?_
    refine hK5 _ ?_
    clear hK5
    refine awp_ret ?_
    have hp : ¬ 0 ≤ placeC l a := by omega
    refine finWQ_of [] ?_
    simp [go_sem, Try.f23, freeC, hp]
  · simp [go_sem] at c4
    refine awp_skip ?_
    refine hK2 _ ?_
    clear hK2
    refine awp_seq fun K6 hK6 => ?_
    refine awp_region ?_
    iterate 8
      refine opsK_cons fun J hJ => ?_
      simp [go_sem, contCS_at l a hL]
      refine hJ _ _ _ ?_
      clear hJ J
    refine opsK_nil ?_
    refine hK6 _ ?_
    clear hK6
    refine awp_ret ?_
    have hp : 0 ≤ placeC l a := by omega
    refine finWQ_of [] ?_
    simp [go_sem, Try.f23, freeC, hp]

structure tLenX where
  l : List Chg
/-- tent.Len -/
noncomputable def tLenS : HSpec := mkH (ι := tLenX) (fun ⟨l⟩ => ([.iref [.sl 9 (rows cChg l)] 0], [])) fun ⟨l⟩ => ⟨.int .i64 l.length, [], []⟩
theorem tLenS_atG (l : List Chg) : tLenS [.iref [.sl 9 (rows cChg l)] 0] [] = some (⟨.int .i64 l.length, [], []⟩) :=
  mkH_at (ι := tLenX) (A := fun ⟨l⟩ => ([.iref [.sl 9 (rows cChg l)] 0], [])) (R := fun ⟨l⟩ => ⟨.int .i64 l.length, [], []⟩) (fun i j h => by obtain ⟨l⟩ := i; obtain ⟨l2⟩ := j; simp [and_assoc, cBk_eq_iff, cId_eq_iff, cOrd_eq_iff, cChg_eq_iff, cEff_eq_iff, cKey_eq_iff, cReq_eq_iff, cV_eq_iff, cOp_eq_iff, cOc_eq_iff, rows_iff_Chg] at h; obtain rfl := h; rfl) ⟨l⟩
theorem tLenS_at (l : List Chg) : tLenS [.iref [.sl 9 (rows cChg l)] 0] [] = some (⟨.int .i64 l.length, [], []⟩) := tLenS_atG l

theorem tLen_ok : HSound Try.prog 24 tLenS := by
  refine sound_ofE (fn := Try.f24) rfl rfl (by kernel_rfl) fun args bx hr hS => ?_
  obtain ⟨⟨l⟩, rfl, rfl, rfl⟩ := mkH_of hS
  clear hS
  refine ⟨_, (EnvOK.nil _), by simp [Try.f24], by simp [go_sem], fun w Mx pin => ?_⟩
  simp only [hB_at, lab_nil, lab_cons, hOf_nil, hOf_cons]
  refine awp_seq fun K1 hK1 => ?_
  refine awp_region ?_
  iterate 1
    refine opsK_cons fun J hJ => ?_
    simp [go_sem]
    refine hJ _ _ _ ?_
    clear hJ J
  refine opsK_nil ?_
  refine hK1 _ ?_
  clear hK1
  refine awp_seq fun K2 hK2 => ?_
  refine awp_seq fun K3 hK3 => ?_
  refine awp_region ?_
  iterate 2
    refine opsK_cons fun J hJ => ?_
    simp [go_sem]
    refine hJ _ _ _ ?_
    clear hJ J
  refine opsK_nil ?_
  refine hK3 _ ?_
  clear hK3
  refine awp_condF rfl ?_
  refine awp_skip ?_
  refine hK2 _ ?_
  clear hK2
  refine awp_seq fun K6 hK6 => ?_
  refine awp_region ?_
  iterate 6
    refine opsK_cons fun J hJ => ?_
    simp [go_sem]
    refine hJ _ _ _ ?_
    clear hJ J
  refine opsK_nil ?_
  refine hK6 _ ?_
  clear hK6
  refine awp_ret ?_
  refine finWQ_of [] ?_
  simp [go_sem, Try.f24]

structure tFirstX where
  l : List Chg
/-- tent.First -/
noncomputable def tFirstS : HSpec := mkH (ι := tFirstX) (fun ⟨l⟩ => ([.iref [.sl 9 (rows cChg l)] 0], [])) fun ⟨l⟩ => ⟨.tup [.agg (cChg (headC l)), .bool (decide (l ≠ []))], [], []⟩
theorem tFirstS_atG (l : List Chg) : tFirstS [.iref [.sl 9 (rows cChg l)] 0] [] = some (⟨.tup [.agg (cChg (headC l)), .bool (decide (l ≠ []))], [], []⟩) :=
  mkH_at (ι := tFirstX) (A := fun ⟨l⟩ => ([.iref [.sl 9 (rows cChg l)] 0], [])) (R := fun ⟨l⟩ => ⟨.tup [.agg (cChg (headC l)), .bool (decide (l ≠ []))], [], []⟩) (fun i j h => by obtain ⟨l⟩ := i; obtain ⟨l2⟩ := j; simp [and_assoc, cBk_eq_iff, cId_eq_iff, cOrd_eq_iff, cChg_eq_iff, cEff_eq_iff, cKey_eq_iff, cReq_eq_iff, cV_eq_iff, cOp_eq_iff, cOc_eq_iff, rows_iff_Chg] at h; obtain rfl := h; rfl) ⟨l⟩
theorem tFirstS_at (l : List Chg) : tFirstS [.iref [.sl 9 (rows cChg l)] 0] [] = some (⟨.tup [.agg (cChg (headC l)), .bool (decide (l ≠ []))], [], []⟩) := tFirstS_atG l

theorem tFirst_ok : HSound Try.prog 19 tFirstS := by
  refine sound_ofE (fn := Try.f19) rfl rfl (by kernel_rfl) fun args bx hr hS => ?_
  obtain ⟨⟨l⟩, rfl, rfl, rfl⟩ := mkH_of hS
  clear hS
  refine ⟨_, (EnvOK.consV (g := 24) (by kernel_rfl) tLen_ok (EnvOK.nil _)), by simp [Try.f19], by simp [go_sem], fun w Mx pin => ?_⟩
  simp only [hB_at, lab_nil, lab_cons, hOf_nil, hOf_cons]
  refine awp_seq fun K1 hK1 => ?_
  refine awp_region ?_
  iterate 2
    refine opsK_cons fun J hJ => ?_
    simp [go_sem]
    refine hJ _ _ _ ?_
    clear hJ J
  refine opsK_nil ?_
  refine hK1 _ ?_
  clear hK1
  refine awp_seq fun K2 hK2 => ?_
  refine awp_seq fun K3 hK3 => ?_
  rcases head_cases l with ⟨h0, hh, hn⟩ | ⟨x, h0, hx, hh, hn⟩
  · skip
    refine awp_region ?_
    iterate 3
      refine opsK_cons fun J hJ => ?_
      simp [go_sem, tLenS_at l, h0]
      refine hJ _ _ _ ?_
      clear hJ J
    refine opsK_nil ?_
    refine hK3 _ ?_
    clear hK3
    refine awp_condT rfl ?_
    refine awp_seq fun K5 hK5 => ?_
    refine awp_region ?_
    iterate 3
      refine opsK_cons fun J hJ => ?_
      simp [go_sem]
      refine hJ _ _ _ ?_
      clear hJ J
    refine opsK_nil ?_
    refine hK5 _ ?_
    clear hK5
    refine awp_ret ?_
    rw [hn, hh]
    refine finWQ_of [] ?_
    simp [go_sem, Try.f19]
  · skip
    have h1 : ((l.length : Int) == 0) = false := by rw [beq_eq_false_iff_ne]; omega
    refine awp_region ?_
    iterate 3
      refine opsK_cons fun J hJ => ?_
      simp [go_sem, tLenS_at l, h1]
      refine hJ _ _ _ ?_
      clear hJ J
    refine opsK_nil ?_
    refine hK3 _ ?_
    clear hK3
    refine awp_condF rfl ?_
    refine awp_skip ?_
    refine hK2 _ ?_
    clear hK2
    refine awp_seq fun K6 hK6 => ?_
    refine awp_region ?_
    iterate 8
      refine opsK_cons fun J hJ => ?_
      simp [go_sem, h0, ↓hx, hx]
      refine hJ _ _ _ ?_
      clear hJ J
    refine opsK_nil ?_
    refine hK6 _ ?_
    clear hK6
    refine awp_ret ?_
    rw [hn, hh]
    refine finWQ_of [] ?_
    simp [go_sem, Try.f19]

structure tAllX where
  l : List Chg
  hL : l.length ≤ 100000
/-- tent.All -/
noncomputable def tAllS : HSpec := mkH (ι := tAllX) (fun ⟨l, hL⟩ => ([.iref [.sl 9 (rows cChg l)] 0], [])) fun ⟨l, hL⟩ => ⟨.own (2, 0) l.length, [], [.row 26 9 (rows cChg l) false]⟩
theorem tAllS_atG (l : List Chg) (hL : l.length ≤ 100000) : tAllS [.iref [.sl 9 (rows cChg l)] 0] [] = some (⟨.own (2, 0) l.length, [], [.row 26 9 (rows cChg l) false]⟩) :=
  mkH_at (ι := tAllX) (A := fun ⟨l, hL⟩ => ([.iref [.sl 9 (rows cChg l)] 0], [])) (R := fun ⟨l, hL⟩ => ⟨.own (2, 0) l.length, [], [.row 26 9 (rows cChg l) false]⟩) (fun i j h => by obtain ⟨l, hL⟩ := i; obtain ⟨l2, hL2⟩ := j; simp [and_assoc, cBk_eq_iff, cId_eq_iff, cOrd_eq_iff, cChg_eq_iff, cEff_eq_iff, cKey_eq_iff, cReq_eq_iff, cV_eq_iff, cOp_eq_iff, cOc_eq_iff, rows_iff_Chg] at h; obtain rfl := h; rfl) ⟨l, hL⟩
theorem tAllS_at (l : List Chg) (hL : l.length ≤ 100000) : tAllS [.iref [.sl 9 (rows cChg l)] 0] [] = some (⟨.own (2, 0) l.length, [], [.row 26 9 (rows cChg l) false]⟩) := tAllS_atG l hL

theorem tAll_ok : HSound Try.prog 18 tAllS := by
  refine sound_ofE (fn := Try.f18) rfl rfl (by kernel_rfl) fun args bx hr hS => ?_
  obtain ⟨⟨l, hL⟩, rfl, rfl, rfl⟩ := mkH_of hS
  clear hS
  refine ⟨_, (EnvOK.consV (g := 54) (by kernel_rfl) cloneChg_ok (EnvOK.nil _)), by simp [Try.f18], by simp [go_sem], fun w Mx pin => ?_⟩
  simp only [hB_at, lab_nil, lab_cons, hOf_nil, hOf_cons]
  refine awp_seq fun K1 hK1 => ?_
  refine awp_region ?_
  iterate 1
    refine opsK_cons fun J hJ => ?_
    simp [go_sem]
    refine hJ _ _ _ ?_
    clear hJ J
  refine opsK_nil ?_
  refine hK1 _ ?_
  clear hK1
  refine awp_seq fun K2 hK2 => ?_
  refine awp_seq fun K3 hK3 => ?_
  refine awp_region ?_
  iterate 2
    refine opsK_cons fun J hJ => ?_
    simp [go_sem]
    refine hJ _ _ _ ?_
    clear hJ J
  refine opsK_nil ?_
  refine hK3 _ ?_
  clear hK3
  refine awp_condF rfl ?_
  refine awp_skip ?_
  refine hK2 _ ?_
  clear hK2
  refine awp_seq fun K6 hK6 => ?_
  refine awp_region ?_
  iterate 6
    refine opsK_cons fun J hJ => ?_
    simp [go_sem, cloneChgS_at l hL]
    refine hJ _ _ _ ?_
    clear hJ J
  refine opsK_nil ?_
  refine hK6 _ ?_
  clear hK6
  refine awp_ret ?_
  refine finWQ_of [((2, 0), some (0, 144))] ?_
  simp [go_sem, Try.f18]

structure tCloneX where
  l : List Chg
  hL : l.length ≤ 100000
/-- tent.Clone -/
noncomputable def tCloneS : HSpec := mkH (ι := tCloneX) (fun ⟨l, hL⟩ => ([.iref [.sl 9 (rows cChg l)] 0], [])) fun ⟨l, hL⟩ => ⟨.ref (2, 0) 0, [], [.obj [.own (2, 1) l.length], .row 26 9 (rows cChg l) false]⟩
theorem tCloneS_atG (l : List Chg) (hL : l.length ≤ 100000) : tCloneS [.iref [.sl 9 (rows cChg l)] 0] [] = some (⟨.ref (2, 0) 0, [], [.obj [.own (2, 1) l.length], .row 26 9 (rows cChg l) false]⟩) :=
  mkH_at (ι := tCloneX) (A := fun ⟨l, hL⟩ => ([.iref [.sl 9 (rows cChg l)] 0], [])) (R := fun ⟨l, hL⟩ => ⟨.ref (2, 0) 0, [], [.obj [.own (2, 1) l.length], .row 26 9 (rows cChg l) false]⟩) (fun i j h => by obtain ⟨l, hL⟩ := i; obtain ⟨l2, hL2⟩ := j; simp [and_assoc, cBk_eq_iff, cId_eq_iff, cOrd_eq_iff, cChg_eq_iff, cEff_eq_iff, cKey_eq_iff, cReq_eq_iff, cV_eq_iff, cOp_eq_iff, cOc_eq_iff, rows_iff_Chg] at h; obtain rfl := h; rfl) ⟨l, hL⟩
theorem tCloneS_at (l : List Chg) (hL : l.length ≤ 100000) : tCloneS [.iref [.sl 9 (rows cChg l)] 0] [] = some (⟨.ref (2, 0) 0, [], [.obj [.own (2, 1) l.length], .row 26 9 (rows cChg l) false]⟩) := tCloneS_atG l hL

theorem tClone_ok : HSound Try.prog 17 tCloneS := by
  refine sound_ofE (fn := Try.f17) rfl rfl (by kernel_rfl) fun args bx hr hS => ?_
  obtain ⟨⟨l, hL⟩, rfl, rfl, rfl⟩ := mkH_of hS
  clear hS
  refine ⟨_, (EnvOK.consV (g := 18) (by kernel_rfl) tAll_ok (EnvOK.nil _)), by simp [Try.f17], by simp [go_sem], fun w Mx pin => ?_⟩
  simp only [hB_at, lab_nil, lab_cons, hOf_nil, hOf_cons]
  refine awp_seq fun K1 hK1 => ?_
  refine awp_region ?_
  iterate 1
    refine opsK_cons fun J hJ => ?_
    simp [go_sem]
    refine hJ _ _ _ ?_
    clear hJ J
  refine opsK_nil ?_
  refine hK1 _ ?_
  clear hK1
  refine awp_seq fun K2 hK2 => ?_
  refine awp_seq fun K3 hK3 => ?_
  refine awp_region ?_
  iterate 2
    refine opsK_cons fun J hJ => ?_
    simp [go_sem]
    refine hJ _ _ _ ?_
    clear hJ J
  refine opsK_nil ?_
  refine hK3 _ ?_
  clear hK3
  refine awp_condF rfl ?_
  refine awp_skip ?_
  refine hK2 _ ?_
  clear hK2
  refine awp_seq fun K6 hK6 => ?_
  refine awp_region ?_
  iterate 5
    refine opsK_cons fun J hJ => ?_
    simp [go_sem, tAllS_at l hL]
    refine hJ _ _ _ ?_
    clear hJ J
  refine opsK_nil ?_
  refine hK6 _ ?_
  clear hK6
  refine awp_ret ?_
  refine finWQ_of [((2, 0), some (0, 128)), ((2, 1), some (0, 96))] ?_
  simp [go_sem, Try.f17]

structure tPutX where
  l : List Chg
  l' : AV
  c : Chg
  h_l : SlA 9 cChg l l'
  hL : l.length ≤ 99998
/-- tent.Put -/
noncomputable def tPutS : HSpec := mkH (ι := tPutX) (fun ⟨l, l', c, h_l, hL⟩ => ([.ref (1, 0) 0, .agg (cChg c)], [.obj [l']])) fun ⟨l, l', c, h_l, hL⟩ => ⟨.bool (decide (placeC l c.id < 0)), [.obj [.sl 9 (rows cChg (tputL l c))]], []⟩
theorem tPutS_atG (l : List Chg) (l' : AV) (c : Chg) (h_l : SlA 9 cChg l l') (hL : l.length ≤ 99998) : tPutS [.ref (1, 0) 0, .agg (cChg c)] [.obj [l']] = some (⟨.bool (decide (placeC l c.id < 0)), [.obj [.sl 9 (rows cChg (tputL l c))]], []⟩) :=
  mkH_at (ι := tPutX) (A := fun ⟨l, l', c, h_l, hL⟩ => ([.ref (1, 0) 0, .agg (cChg c)], [.obj [l']])) (R := fun ⟨l, l', c, h_l, hL⟩ => ⟨.bool (decide (placeC l c.id < 0)), [.obj [.sl 9 (rows cChg (tputL l c))]], []⟩) (fun i j h => by obtain ⟨l, l', c, h_l, hL⟩ := i; obtain ⟨l2, l'2, c2, h_l2, hL2⟩ := j; simp [and_assoc, cBk_eq_iff, cId_eq_iff, cOrd_eq_iff, cChg_eq_iff, cEff_eq_iff, cKey_eq_iff, cReq_eq_iff, cV_eq_iff, cOp_eq_iff, cOc_eq_iff, rows_iff_Chg] at h; obtain ⟨rfl, rfl⟩ := h; obtain rfl := SlA.inj (fun x y h => cChg_inj h) h_l h_l2; rfl) ⟨l, l', c, h_l, hL⟩
theorem tPutS_at (l : List Chg) (c : Chg) (hL : l.length ≤ 99998) : tPutS [.ref (1, 0) 0, .agg (cChg c)] [.obj [(.sl 9 (rows cChg l))]] = some (⟨.bool (decide (placeC l c.id < 0)), [.obj [.sl 9 (rows cChg (tputL l c))]], []⟩) := tPutS_atG l _ c .sl hL

theorem tPut_ok : HSound Try.prog 22 tPutS := by
  refine sound_ofE (fn := Try.f22) rfl rfl (by kernel_rfl) fun args bx hr hS => ?_
  obtain ⟨⟨l, l', c, h_l, hL⟩, rfl, rfl, rfl⟩ := mkH_of hS
  clear hS
  refine ⟨_, (EnvOK.consV (g := 45) (by kernel_rfl) findC_ok (EnvOK.consV (g := 41) (by kernel_rfl) putC_ok (EnvOK.nil _))), by simp [Try.f22], by simp [go_sem], fun w Mx pin => ?_⟩
  simp only [hB_at, lab_nil, lab_cons, hOf_nil, hOf_cons]
  refine awp_weak (s' := ⟨ofL [(0, .ref (1, 0) 0), (1, .agg (cChg c))], hOf [((1, 0), .obj [(.sl 9 (rows cChg l))])]⟩) ?_ ?_
  · cases h_l <;> exact weak_of [((1, 0), some (1, 0))] (by simp [go_sem]) (by simp [go_sem]) (by simp [go_sem])
  clear h_l
  refine awp_seq fun K1 hK1 => ?_
  refine awp_region ?_
  iterate 2
    refine opsK_cons fun J hJ => ?_
    simp [go_sem]
    refine hJ _ _ _ ?_
    clear hJ J
  refine opsK_nil ?_
  refine hK1 _ ?_
  clear hK1
  refine awp_seq fun K2 hK2 => ?_
  refine awp_seq fun K3 hK3 => ?_
  refine awp_draw ?_
  iterate 12
    refine opsK_cons fun J hJ => ?_
    simp [go_sem, findCS_at l c.id (by omega)]
    refine hJ _ _ _ ?_
    clear hJ J
  refine opsK_nil ?_
  refine ⟨rfl, ?_⟩
  refine hK3 _ ?_
  clear hK3
  refine awp_cond (t := _) rfl (fun c4 => ?_) (fun c4 => ?_)
  · simp [go_sem] at c4
    refine awp_seq fun K5 hK5 => ?_
    refine awp_region ?_
    iterate 1
      refine opsK_cons fun J hJ => ?_
      simp [go_sem]
      refine hJ _ _ _ ?_
      clear hJ J
    refine opsK_nil ?_
    refine hK5 _ ?_
    clear hK5
    refine awp_ret ?_
    have hp : tputL l c = l := if_pos (by omega)
    refine finWQ_of [((1, 0), some (1, 0))] ?_
    simp [go_sem, Try.f22, hp, show ¬ placeC l c.id < 0 by omega]
  · simp [go_sem] at c4
    refine awp_skip ?_
    refine hK2 _ ?_
    clear hK2
    refine awp_seq fun K6 hK6 => ?_
    refine awp_draw ?_
    iterate 10
      refine opsK_cons fun J hJ => ?_
      simp [go_sem, putCS_at l c hL]
      refine hJ _ _ _ ?_
      clear hJ J
    refine opsK_nil ?_
    refine ⟨rfl, ?_⟩
    refine hK6 _ ?_
    clear hK6
    refine awp_seq fun K7 hK7 => ?_
    refine awp_region ?_
    iterate 1
      refine opsK_cons fun J hJ => ?_
      simp [go_sem]
      refine hJ _ _ _ ?_
      clear hJ J
    refine opsK_nil ?_
    refine hK7 _ ?_
    clear hK7
    refine awp_ret ?_
    have hp : tputL l c = putL c l := if_neg (by omega)
    refine finWQ_of [((1, 0), some (1, 0))] ?_
    simp [go_sem, Try.f22, hp, show placeC l c.id < 0 by omega]

structure tTakeX where
  l : List Chg
  l' : AV
  a : Id
  h_l : SlA 9 cChg l l'
  hL : l.length ≤ 99998
/-- tent.Take -/
noncomputable def tTakeS : HSpec := mkH (ι := tTakeX) (fun ⟨l, l', a, h_l, hL⟩ => ([.ref (1, 0) 0, .agg (cId a)], [.obj [l']])) fun ⟨l, l', a, h_l, hL⟩ => ⟨.tup [.agg (cChg (takeC l a)), .bool (freeC l a)], [.obj [.sl 9 (rows cChg (takeL l a))]], []⟩
theorem tTakeS_atG (l : List Chg) (l' : AV) (a : Id) (h_l : SlA 9 cChg l l') (hL : l.length ≤ 99998) : tTakeS [.ref (1, 0) 0, .agg (cId a)] [.obj [l']] = some (⟨.tup [.agg (cChg (takeC l a)), .bool (freeC l a)], [.obj [.sl 9 (rows cChg (takeL l a))]], []⟩) :=
  mkH_at (ι := tTakeX) (A := fun ⟨l, l', a, h_l, hL⟩ => ([.ref (1, 0) 0, .agg (cId a)], [.obj [l']])) (R := fun ⟨l, l', a, h_l, hL⟩ => ⟨.tup [.agg (cChg (takeC l a)), .bool (freeC l a)], [.obj [.sl 9 (rows cChg (takeL l a))]], []⟩) (fun i j h => by obtain ⟨l, l', a, h_l, hL⟩ := i; obtain ⟨l2, l'2, a2, h_l2, hL2⟩ := j; simp [and_assoc, cBk_eq_iff, cId_eq_iff, cOrd_eq_iff, cChg_eq_iff, cEff_eq_iff, cKey_eq_iff, cReq_eq_iff, cV_eq_iff, cOp_eq_iff, cOc_eq_iff, rows_iff_Chg] at h; obtain ⟨rfl, rfl⟩ := h; obtain rfl := SlA.inj (fun x y h => cChg_inj h) h_l h_l2; rfl) ⟨l, l', a, h_l, hL⟩
theorem tTakeS_at (l : List Chg) (a : Id) (hL : l.length ≤ 99998) : tTakeS [.ref (1, 0) 0, .agg (cId a)] [.obj [(.sl 9 (rows cChg l))]] = some (⟨.tup [.agg (cChg (takeC l a)), .bool (freeC l a)], [.obj [.sl 9 (rows cChg (takeL l a))]], []⟩) := tTakeS_atG l _ a .sl hL

theorem tTake_ok : HSound Try.prog 20 tTakeS := by
  refine sound_ofE (fn := Try.f20) rfl rfl (by kernel_rfl) fun args bx hr hS => ?_
  obtain ⟨⟨l, l', a, h_l, hL⟩, rfl, rfl, rfl⟩ := mkH_of hS
  clear hS
  refine ⟨_, (EnvOK.consV (g := 23) (by kernel_rfl) tFree_ok (EnvOK.consV (g := 45) (by kernel_rfl) findC_ok (EnvOK.consV (g := 42) (by kernel_rfl) withC_ok (EnvOK.nil _)))), by simp [Try.f20], by simp [go_sem], fun w Mx pin => ?_⟩
  simp only [hB_at, lab_nil, lab_cons, hOf_nil, hOf_cons]
  refine awp_weak (s' := ⟨ofL [(0, .ref (1, 0) 0), (1, .agg (cId a))], hOf [((1, 0), .obj [(.sl 9 (rows cChg l))])]⟩) ?_ ?_
  · cases h_l <;> exact weak_of [((1, 0), some (1, 0))] (by simp [go_sem]) (by simp [go_sem]) (by simp [go_sem])
  clear h_l
  refine awp_seq fun K1 hK1 => ?_
  refine awp_region ?_
  iterate 3
    refine opsK_cons fun J hJ => ?_
    simp [go_sem]
    refine hJ _ _ _ ?_
    clear hJ J
  refine opsK_nil ?_
  refine hK1 _ ?_
  clear hK1
  refine awp_seq fun K2 hK2 => ?_
  refine awp_seq fun K3 hK3 => ?_
  cases hf : freeC l a
  · skip
    have h1 : takeC l a = zChg := if_neg (by simp [hf])
    have h2 : takeL l a = l := if_neg (by simp [hf])
    refine awp_region ?_
    iterate 4
      refine opsK_cons fun J hJ => ?_
      simp [go_sem, tFreeS_at l a (by omega), hf]
      refine hJ _ _ _ ?_
      clear hJ J
    refine opsK_nil ?_
    refine hK3 _ ?_
    clear hK3
    refine awp_condT rfl ?_
    refine awp_seq fun K5 hK5 => ?_
    refine awp_region ?_
    iterate 3
      refine opsK_cons fun J hJ => ?_
      simp [go_sem]
      refine hJ _ _ _ ?_
      clear hJ J
    refine opsK_nil ?_
    refine hK5 _ ?_
    clear hK5
    refine awp_ret ?_
    refine finWQ_of [((1, 0), some (1, 0))] ?_
    simp [go_sem, Try.f20, h1, h2, hf]
  · skip
    have h2 : takeL l a = withoutL l (placeC l a) := if_pos hf
    have hp : 0 ≤ placeC l a := by simp only [freeC, Bool.and_eq_true, decide_eq_true_eq] at hf; exact hf.1
    obtain h | ⟨k, x, hk, hpk, hx, _⟩ := placeC_at l a
    · omega
    have h1 : takeC l a = x := by simp [takeC, hf, hpk, hx]
    refine awp_region ?_
    iterate 4
      refine opsK_cons fun J hJ => ?_
      simp [go_sem, tFreeS_at l a (by omega), hf]
      refine hJ _ _ _ ?_
      clear hJ J
    refine opsK_nil ?_
    refine hK3 _ ?_
    clear hK3
    refine awp_condF rfl ?_
    refine awp_skip ?_
    refine hK2 _ ?_
    clear hK2
    refine awp_seq fun K6 hK6 => ?_
    refine awp_draw ?_
    iterate 7
      refine opsK_cons fun J hJ => ?_
      simp [go_sem, findCS_at l a (by omega), hpk]
      refine hJ _ _ _ ?_
      clear hJ J
    refine opsK_nil ?_
    refine ⟨rfl, ?_⟩
    refine hK6 _ ?_
    clear hK6
    refine awp_seq fun K7 hK7 => ?_
    refine awp_region ?_
    iterate 9
      refine opsK_cons fun J hJ => ?_
      simp [go_sem, hk, ↓hx, hx]
      refine hJ _ _ _ ?_
      clear hJ J
    refine opsK_nil ?_
    refine hK7 _ ?_
    clear hK7
    refine awp_seq fun K8 hK8 => ?_
    refine awp_region ?_
    iterate 10
      refine opsK_cons fun J hJ => ?_
      simp [go_sem, withCS_at l (k : Int) (by omega)]
      refine hJ _ _ _ ?_
      clear hJ J
    refine opsK_nil ?_
    refine hK8 _ ?_
    clear hK8
    refine awp_seq fun K9 hK9 => ?_
    refine awp_region ?_
    iterate 3
      refine opsK_cons fun J hJ => ?_
      simp [go_sem]
      refine hJ _ _ _ ?_
      clear hJ J
    refine opsK_nil ?_
    refine hK9 _ ?_
    clear hK9
    refine awp_ret ?_
    refine finWQ_of [((1, 0), some (1, 0))] ?_
    simp [go_sem, Try.f20, h1, h2, hpk, hf]

end Go.Proofs.Ytebflegkdfhoaaa.AE
