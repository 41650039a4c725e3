/-
  Law 07: StampLies. Conditions: none; every contract names its own.
-/
import Derived.Test.YtebflegkdfhoaaaAl07
namespace Go.Proofs.Ytebflegkdfhoaaa.AE
open Go Go.Proofs Go.RowKit
set_option linter.unusedVariables false
set_option linter.unusedSimpArgs false
set_option maxRecDepth 100000
set_option maxHeartbeats 4000000
theorem less_cases (a b : Chg) : (lessChg a b = true ∧ lessChg b a = false ∧ ¬ (a.time = b.time ∧ a.id = b.id)) ∨ (lessChg a b = false ∧ lessChg b a = true ∧ ¬ (a.time = b.time ∧ a.id = b.id)) ∨ (lessChg a b = false ∧ lessChg b a = false ∧ a.time = b.time ∧ a.id = b.id) := by
  rw [← lessCR_eq, ← lessCR_eq]
  have hid : a.id = b.id ↔ a.id.rep = b.id.rep ∧ a.id.seq = b.id.seq := by
    obtain ⟨⟨r, s⟩, t, k, x, y, n, ref⟩ := a
    obtain ⟨⟨r', s'⟩, t', k', x', y', n', ref'⟩ := b
    simp
  simp only [lessCR, decide_eq_true_eq, decide_eq_false_iff_not, hid]
  omega

structure stampLiesX where
  a : Chg
  b : Chg
/-- countermand/countermandlaw07.StampLies -/
noncomputable def stampLiesS : HSpec := mkH (ι := stampLiesX) (fun ⟨a, b⟩ => ([.agg (cChg a), .agg (cChg b)], [])) fun ⟨a, b⟩ => ⟨.bool true, [], []⟩
theorem stampLiesS_atG (a : Chg) (b : Chg) : stampLiesS [.agg (cChg a), .agg (cChg b)] [] = some (⟨.bool true, [], []⟩) :=
  mkH_at (ι := stampLiesX) (A := fun ⟨a, b⟩ => ([.agg (cChg a), .agg (cChg b)], [])) (R := fun ⟨a, b⟩ => ⟨.bool true, [], []⟩) (fun i j h => by obtain ⟨a, b⟩ := i; obtain ⟨a2, b2⟩ := j; simp [and_assoc, cBk_eq_iff, cId_eq_iff, cOrd_eq_iff, cChg_eq_iff, cEff_eq_iff, cKey_eq_iff, cReq_eq_iff, cV_eq_iff, cOp_eq_iff, cOc_eq_iff] at h; obtain ⟨rfl, rfl⟩ := h; rfl) ⟨a, b⟩
theorem stampLiesS_at (a : Chg) (b : Chg) : stampLiesS [.agg (cChg a), .agg (cChg b)] [] = some (⟨.bool true, [], []⟩) := stampLiesS_atG a b

theorem stampLies_ok : HSound Try.prog 9 stampLiesS := by
  refine sound_ofE (fn := Try.f9) rfl rfl (by kernel_rfl) fun args bx hr hS => ?_
  obtain ⟨⟨a, b⟩, rfl, rfl, rfl⟩ := mkH_of hS
  clear hS
  refine ⟨_, (EnvOK.consV (g := 37) (by kernel_rfl) alive07_ok (EnvOK.consV (g := 38) (by kernel_rfl) lessChg_ok (EnvOK.consV (g := 39) (by kernel_rfl) lessCR_ok (EnvOK.nil _)))), by simp [Try.f9], by simp [go_sem], fun w Mx pin => ?_⟩
  simp only [hB_at, lab_nil, lab_cons, hOf_nil, hOf_cons]
  refine awp_seq fun K1 hK1 => ?_
  refine awp_region ?_
  iterate 3
    refine opsK_cons fun J hJ => ?_
    simp [go_sem]
    refine hJ _ _ _ ?_
    clear hJ J
  refine opsK_nil ?_
  refine hK1 _ ?_
  clear hK1
  refine awp_seq fun K2 hK2 => ?_
  refine awp_seq fun K3 hK3 => ?_
  refine awp_region ?_
  iterate 2
    refine opsK_cons fun J hJ => ?_
    simp [go_sem, alive07S_at]
    refine hJ _ _ _ ?_
    clear hJ J
  refine opsK_nil ?_
  refine hK3 _ ?_
  clear hK3
  refine awp_condF rfl ?_
  refine awp_skip ?_
  refine hK2 _ ?_
  clear hK2
  refine awp_seq fun K6 hK6 => ?_
  rcases less_cases a b with hh | hh | hh
  · skip
    obtain ⟨hab, hba, hn⟩ := hh
    have hi : a.time = b.time → ¬ a.id = b.id := fun h h2 => hn ⟨h, h2⟩
    refine awp_draw ?_
    iterate 8
      refine opsK_cons fun J hJ => ?_
      simp [go_sem, lessChgS_at, hab, hba]
      refine hJ _ _ _ ?_
      clear hJ J
    refine opsK_nil ?_
    refine ⟨rfl, ?_⟩
    refine hK6 _ ?_
    clear hK6
    refine awp_seq fun K7 hK7 => ?_
    by_cases ht : a.time = b.time
    · skip
      have hj := hi ht
      refine awp_region ?_
      iterate 13
        refine opsK_cons fun J hJ => ?_
        simp [go_sem, ht, hj]
        refine hJ _ _ _ ?_
        clear hJ J
      refine opsK_nil ?_
      refine hK7 _ ?_
      clear hK7
      refine awp_seq fun K8 hK8 => ?_
      refine awp_region ?_
      iterate 23
        refine opsK_cons fun J hJ => ?_
        simp [go_sem, lessCRS_at, lessCR_eq, hab, hba]
        refine hJ _ _ _ ?_
        clear hJ J
      refine opsK_nil ?_
      refine hK8 _ ?_
      clear hK8
      refine awp_ret ?_
      refine finWQ_of [] ?_
      simp [go_sem, Try.f9]
    · skip
      have hb : (a.time == b.time) = false := by simp [ht]
      refine awp_region ?_
      iterate 13
        refine opsK_cons fun J hJ => ?_
        simp [go_sem, hb]
        refine hJ _ _ _ ?_
        clear hJ J
      refine opsK_nil ?_
      refine hK7 _ ?_
      clear hK7
      refine awp_seq fun K8 hK8 => ?_
      refine awp_region ?_
      iterate 23
        refine opsK_cons fun J hJ => ?_
        simp [go_sem, lessCRS_at, lessCR_eq, hab, hba]
        refine hJ _ _ _ ?_
        clear hJ J
      refine opsK_nil ?_
      refine hK8 _ ?_
      clear hK8
      refine awp_ret ?_
      refine finWQ_of [] ?_
      simp [go_sem, Try.f9]
  · skip
    obtain ⟨hab, hba, hn⟩ := hh
    have hi : a.time = b.time → ¬ a.id = b.id := fun h h2 => hn ⟨h, h2⟩
    refine awp_draw ?_
    iterate 8
      refine opsK_cons fun J hJ => ?_
      simp [go_sem, lessChgS_at, hab, hba]
      refine hJ _ _ _ ?_
      clear hJ J
    refine opsK_nil ?_
    refine ⟨rfl, ?_⟩
    refine hK6 _ ?_
    clear hK6
    refine awp_seq fun K7 hK7 => ?_
    by_cases ht : a.time = b.time
    · skip
      have hj := hi ht
      refine awp_region ?_
      iterate 13
        refine opsK_cons fun J hJ => ?_
        simp [go_sem, ht, hj]
        refine hJ _ _ _ ?_
        clear hJ J
      refine opsK_nil ?_
      refine hK7 _ ?_
      clear hK7
      refine awp_seq fun K8 hK8 => ?_
      refine awp_region ?_
      iterate 23
        refine opsK_cons fun J hJ => ?_
        simp [go_sem, lessCRS_at, lessCR_eq, hab, hba]
        refine hJ _ _ _ ?_
        clear hJ J
      refine opsK_nil ?_
      refine hK8 _ ?_
      clear hK8
      refine awp_ret ?_
      refine finWQ_of [] ?_
      simp [go_sem, Try.f9]
    · skip
      have hb : (a.time == b.time) = false := by simp [ht]
      refine awp_region ?_
      iterate 13
        refine opsK_cons fun J hJ => ?_
        simp [go_sem, hb]
        refine hJ _ _ _ ?_
        clear hJ J
      refine opsK_nil ?_
      refine hK7 _ ?_
      clear hK7
      refine awp_seq fun K8 hK8 => ?_
      refine awp_region ?_
      iterate 23
        refine opsK_cons fun J hJ => ?_
        simp [go_sem, lessCRS_at, lessCR_eq, hab, hba]
        refine hJ _ _ _ ?_
        clear hJ J
      refine opsK_nil ?_
      refine hK8 _ ?_
      clear hK8
      refine awp_ret ?_
      refine finWQ_of [] ?_
      simp [go_sem, Try.f9]
  · skip
    obtain ⟨hab, hba, ht, hj⟩ := hh
    refine awp_draw ?_
    iterate 8
      refine opsK_cons fun J hJ => ?_
      simp [go_sem, lessChgS_at, hab, hba]
      refine hJ _ _ _ ?_
      clear hJ J
    refine opsK_nil ?_
    refine ⟨rfl, ?_⟩
    refine hK6 _ ?_
    clear hK6
    refine awp_seq fun K7 hK7 => ?_
    refine awp_region ?_
    iterate 13
      refine opsK_cons fun J hJ => ?_
      simp [go_sem, ht, hj]
      refine hJ _ _ _ ?_
      clear hJ J
    refine opsK_nil ?_
    refine hK7 _ ?_
    clear hK7
    refine awp_seq fun K8 hK8 => ?_
    refine awp_region ?_
    iterate 23
      refine opsK_cons fun J hJ => ?_
      simp [go_sem, lessCRS_at, lessCR_eq, hab, hba]
      refine hJ _ _ _ ?_
      clear hJ J
    refine opsK_nil ?_
    refine hK8 _ ?_
    clear hK8
    refine awp_ret ?_
    refine finWQ_of [] ?_
    simp [go_sem, Try.f9]

end Go.Proofs.Ytebflegkdfhoaaa.AE
