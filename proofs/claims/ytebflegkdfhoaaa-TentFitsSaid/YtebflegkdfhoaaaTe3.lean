/-
  Law 18: contracts, second part. Conditions: none; every contract names its own.
-/
import Derived.Test.YtebflegkdfhoaaaTe2
namespace Go.Proofs.Ytebflegkdfhoaaa.AE
open Go Go.Proofs Go.RowKit
set_option linter.unusedVariables false
set_option linter.unusedSimpArgs false
set_option maxRecDepth 100000
set_option maxHeartbeats 4000000
structure run18X where
  m : List Chg
  m' : AV
  t : List Chg
  t' : AV
  os : List Op
  os' : AV
  h_m : SlA 9 cChg m m'
  h_t : SlA 9 cChg t t'
  h_os : SlA 12 cOp os os'
  hL : m = t ∧ m.length ≤ 1000 ∧ os.length ≤ 50
/-- countermandlaw18.run -/
noncomputable def run18S : HSpec := mkH (ι := run18X) (fun ⟨m, m', t, t', os, os', h_m, h_t, h_os, hL⟩ => ([.ref (1, 0) 0, m', os'], [.obj [t']])) fun ⟨m, m', t, t', os, os', h_m, h_t, h_os, hL⟩ => ⟨.tup [.sl 9 (rows cChg (runM m os)), .bool true], [.obj [.sl 9 (rows cChg (runM m os))]], []⟩
theorem run18S_atG (m : List Chg) (m' : AV) (t : List Chg) (t' : AV) (os : List Op) (os' : AV) (h_m : SlA 9 cChg m m') (h_t : SlA 9 cChg t t') (h_os : SlA 12 cOp os os') (hL : m = t ∧ m.length ≤ 1000 ∧ os.length ≤ 50) : run18S [.ref (1, 0) 0, m', os'] [.obj [t']] = some (⟨.tup [.sl 9 (rows cChg (runM m os)), .bool true], [.obj [.sl 9 (rows cChg (runM m os))]], []⟩) :=
  mkH_at (ι := run18X) (A := fun ⟨m, m', t, t', os, os', h_m, h_t, h_os, hL⟩ => ([.ref (1, 0) 0, m', os'], [.obj [t']])) (R := fun ⟨m, m', t, t', os, os', h_m, h_t, h_os, hL⟩ => ⟨.tup [.sl 9 (rows cChg (runM m os)), .bool true], [.obj [.sl 9 (rows cChg (runM m os))]], []⟩) (fun i j h => by obtain ⟨m, m', t, t', os, os', h_m, h_t, h_os, hL⟩ := i; obtain ⟨m2, m'2, t2, t'2, os2, os'2, h_m2, h_t2, h_os2, hL2⟩ := j; simp [and_assoc, cBk_eq_iff, cId_eq_iff, cOrd_eq_iff, cChg_eq_iff, cEff_eq_iff, cKey_eq_iff, cReq_eq_iff, cV_eq_iff, cOp_eq_iff, cOc_eq_iff, rows_iff_Chg] at h; obtain ⟨rfl, rfl, rfl⟩ := h; obtain rfl := SlA.inj (fun x y h => cChg_inj h) h_m h_m2; obtain rfl := SlA.inj (fun x y h => cChg_inj h) h_t h_t2; obtain rfl := SlA.inj (fun x y h => cOp_inj h) h_os h_os2; rfl) ⟨m, m', t, t', os, os', h_m, h_t, h_os, hL⟩
theorem run18S_at (m : List Chg) (t : List Chg) (os : List Op) (hL : m = t ∧ m.length ≤ 1000 ∧ os.length ≤ 50) : run18S [.ref (1, 0) 0, (.sl 9 (rows cChg m)), (.sl 12 (rows cOp os))] [.obj [(.sl 9 (rows cChg t))]] = some (⟨.tup [.sl 9 (rows cChg (runM m os)), .bool true], [.obj [.sl 9 (rows cChg (runM m os))]], []⟩) := run18S_atG m _ t _ os _ .sl .sl .sl hL

def run18I (os pre _post : List Op) (M : List Chg) : St := ⟨ofL [(0, .ref (1, 0) 0), (1, .sl 9 (rows cChg M)), (2, .sl 12 (rows cOp os)), (8, .bool true), (9, .int .i64 pre.length)], hOf [((1, 0), .obj [.sl 9 (rows cChg M)])]⟩

theorem run18_ok : HSound Try.prog 15 run18S := by
  refine sound_ofE (fn := Try.f15) rfl rfl (by kernel_rfl) fun args bx hr hS => ?_
  obtain ⟨⟨m, m', t, t', os, os', h_m, h_t, h_os, hL⟩, rfl, rfl, rfl⟩ := mkH_of hS
  clear hS
  refine ⟨_, (EnvOK.consH (g := 53) (by kernel_rfl) step18_ok (EnvOK.consV (g := 19) (by kernel_rfl) tFirst_ok (EnvOK.consV (g := 18) (by kernel_rfl) tAll_ok (EnvOK.consV (g := 21) (by kernel_rfl) plChg_ok (EnvOK.consV (g := 24) (by kernel_rfl) tLen_ok (EnvOK.nil _)))))), by simp [Try.f15], by simp [go_sem], fun w Mx pin => ?_⟩
  simp only [hB_at, lab_nil, lab_cons, hOf_nil, hOf_cons]
  refine awp_weak (s' := ⟨ofL [(0, .ref (1, 0) 0), (1, (.sl 9 (rows cChg m))), (2, (.sl 12 (rows cOp os)))], hOf [((1, 0), .obj [(.sl 9 (rows cChg t))])]⟩) ?_ ?_
  · cases h_m <;> cases h_t <;> cases h_os <;> exact weak_of [((1, 0), some (1, 0))] (by simp [go_sem]) (by simp [go_sem]) (by simp [go_sem])
  clear h_m h_t h_os
  obtain ⟨rfl, hLm, hLo0⟩ := hL
  have hLo : os.length ≤ 100000 := by omega
  refine awp_seq fun K1 hK1 => ?_
  refine awp_region ?_
  iterate 2
    refine opsK_cons fun J hJ => ?_
    simp [go_sem]
    refine hJ _ _ _ ?_
    clear hJ J
  refine opsK_nil ?_
  refine hK1 _ ?_
  clear hK1
  refine awp_seq fun K2 hK2 => ?_
  refine awp_region ?_
  iterate 1
    refine opsK_cons fun J hJ => ?_
    simp [go_sem]
    refine hJ _ _ _ ?_
    clear hJ J
  refine opsK_nil ?_
  refine hK2 _ ?_
  clear hK2
  refine awp_seq fun K3 hK3 => ?_
  refine awp_seq fun K4 hK4 => ?_
  refine awp_region ?_
  iterate 1
    refine opsK_cons fun J hJ => ?_
    simp [go_sem]
    refine hJ _ _ _ ?_
    clear hJ J
  refine opsK_nil ?_
  refine hK4 _ ?_
  clear hK4
  refine awp_block ?_
  refine awp_loop (ι := { q : List Op × List Op × List Chg // q.1 ++ q.2.1 = os ∧ q.2.2.length ≤ 1000 + q.1.length ∧ runM q.2.2 q.2.1 = runM m os }) (fun q => run18I os q.1.1 q.1.2.1 q.1.2.2) (fun q => q.1.2.1.length) ⟨([], os, m), rfl, ⟨by simp; omega, rfl⟩⟩ ?_ ?_
  · refine weak_of [((1, 0), some (1, 0))] (by simp [go_sem]) ?_ ?_ <;> simp [go_sem]
  intro ⟨⟨pre, post, M⟩, hl, hgo⟩
  simp only at hl hgo
  have hpl := len_small hl hLo
  simp only [run18I]
  refine awp_seq fun K5 hK5 => ?_
  refine awp_seq fun K6 hK6 => ?_
  by_cases hlt : pre.length < os.length
  · skip
    obtain ⟨x, post, rfl, hx⟩ := mid_lt hl hlt
    obtain ⟨N, hNd⟩ : ∃ N, N = stepM M x := ⟨_, rfl⟩
    have hN1 := stepM_len M x
    rw [← hNd] at hN1
    have hM1 := hgo.1
    have hN2 : N.length ≤ 49999 := by omega
    refine awp_region ?_
    iterate 7
      refine opsK_cons fun J hJ => ?_
      simp [go_sem, hlt]
      refine hJ _ _ _ ?_
      clear hJ J
    refine opsK_nil ?_
    refine hK6 _ ?_
    clear hK6
    refine awp_condT rfl ?_
    refine awp_skip ?_
    refine hK5 _ ?_
    clear hK5
    refine awp_seq fun K8 hK8 => ?_
    refine awp_block ?_
    refine awp_seq fun K9 hK9 => ?_
    refine awp_region ?_
    iterate 12
      refine opsK_cons fun J hJ => ?_
      simp [go_sem, ↓hx, hx, step18S_at M M x ⟨rfl, by omega⟩, ← hNd]
      refine hJ _ _ _ ?_
      clear hJ J
    refine opsK_nil ?_
    refine hK9 _ ?_
    clear hK9
    refine awp_seq fun K10 hK10 => ?_
    refine awp_region ?_
    iterate 8
      refine opsK_cons fun J hJ => ?_
      simp [go_sem, tFirstS_at N]
      refine hJ _ _ _ ?_
      clear hJ J
    refine opsK_nil ?_
    refine hK10 _ ?_
    clear hK10
    rcases head_cases N with ⟨h0, hh, hn⟩ | ⟨y, h0, hy, hh, hn⟩
    · skip
      have hd : decide (N = []) = true := by rw [decide_eq_true_eq]; exact List.eq_nil_of_length_eq_zero h0
      refine awp_draw ?_
      refine opsK_cons fun J hJ => ?_
      simp [go_sem, tAllS_at N (by omega), plChgS_at N N (by omega), hn, hh]
      refine hJ _ _ _ ?_
      clear hJ J
      refine opsK_cons fun J hJ => ?_
      simp [go_sem, tAllS_at N (by omega), plChgS_at N N (by omega), hn, hh]
      refine hJ _ _ _ ?_
      clear hJ J
      refine opsK_cons fun J hJ => ?_
      simp [go_sem, tAllS_at N (by omega), plChgS_at N N (by omega), hn, hh]
      refine hJ _ _ _ ?_
      clear hJ J
      refine opsK_cons fun J hJ => ?_
      simp [go_sem, tAllS_at N (by omega), plChgS_at N N (by omega), hn, hh]
      refine hJ _ _ _ ?_
      clear hJ J
      refine opsK_cons fun J hJ => ?_
      simp [go_sem, tAllS_at N (by omega), plChgS_at N N (by omega), hn, hh]
      refine hJ _ _ _ ?_
      clear hJ J
      refine opsK_cons fun J hJ => ?_
      simp [go_sem, tAllS_at N (by omega), plChgS_at N N (by omega), hn, hh]
      refine hJ _ _ _ ?_
      clear hJ J
      refine opsK_cons fun J hJ => ?_
      simp [go_sem, tAllS_at N (by omega), plChgS_at N N (by omega), hn, hh]
      refine hJ _ _ _ ?_
      clear hJ J
      refine opsK_cons fun J hJ => ?_
      simp [go_sem, tLenS_at N, hn, hd, hh, h0]
      refine hJ _ _ _ ?_
      clear hJ J
      refine opsK_cons fun J hJ => ?_
      simp [go_sem, tLenS_at N, hn, hd, hh, h0]
      refine hJ _ _ _ ?_
      clear hJ J
      refine opsK_cons fun J hJ => ?_
      simp [go_sem, tLenS_at N, hn, hd, hh, h0]
      refine hJ _ _ _ ?_
      clear hJ J
      refine opsK_cons fun J hJ => ?_
      simp [go_sem, tLenS_at N, hn, hd, hh, h0]
      refine hJ _ _ _ ?_
      clear hJ J
      refine opsK_cons fun J hJ => ?_
      simp [go_sem, tLenS_at N, hn, hd, hh, h0]
      refine hJ _ _ _ ?_
      clear hJ J
      refine opsK_cons fun J hJ => ?_
      simp [go_sem, tLenS_at N, hn, hd, hh, h0]
      refine hJ _ _ _ ?_
      clear hJ J
      refine opsK_cons fun J hJ => ?_
      simp [go_sem, tLenS_at N, hn, hd, hh, h0]
      refine hJ _ _ _ ?_
      clear hJ J
      refine opsK_cons fun J hJ => ?_
      simp [go_sem, tLenS_at N, hn, hd, hh, h0]
      refine hJ _ _ _ ?_
      clear hJ J
      refine opsK_cons fun J hJ => ?_
      simp [go_sem, tLenS_at N, hn, hd, hh, h0]
      refine hJ _ _ _ ?_
      clear hJ J
      refine opsK_cons fun J hJ => ?_
      simp [go_sem, tLenS_at N, hn, hd, hh, h0]
      refine hJ _ _ _ ?_
      clear hJ J
      refine opsK_cons fun J hJ => ?_
      simp [go_sem, tLenS_at N, hn, hd, hh, h0]
      refine hJ _ _ _ ?_
      clear hJ J
      refine opsK_cons fun J hJ => ?_
      simp [go_sem, tLenS_at N, hn, hd, hh, h0]
      refine hJ _ _ _ ?_
      clear hJ J
      refine opsK_cons fun J hJ => ?_
      simp [go_sem, tLenS_at N, hn, hd, hh, h0]
      refine hJ _ _ _ ?_
      clear hJ J
      refine opsK_cons fun J hJ => ?_
      simp [go_sem, tLenS_at N, hn, hd, hh, h0]
      refine hJ _ _ _ ?_
      clear hJ J
      refine opsK_cons fun J hJ => ?_
      simp [go_sem, tLenS_at N, hn, hd, hh, h0]
      refine hJ _ _ _ ?_
      clear hJ J
      refine opsK_cons fun J hJ => ?_
      simp [go_sem, tLenS_at N, hn, hd, hh, h0]
      refine hJ _ _ _ ?_
      clear hJ J
      refine opsK_cons fun J hJ => ?_
      simp [go_sem, tLenS_at N, hn, hd, hh, h0]
      refine hJ _ _ _ ?_
      clear hJ J
      refine opsK_cons fun J hJ => ?_
      simp [go_sem, tLenS_at N, hn, hd, hh, h0]
      refine hJ _ _ _ ?_
      clear hJ J
      refine opsK_cons fun J hJ => ?_
      simp [go_sem, tLenS_at N, hn, hd, hh, h0]
      refine hJ _ _ _ ?_
      clear hJ J
      refine opsK_cons fun J hJ => ?_
      simp [go_sem, tLenS_at N, hn, hd, hh, h0]
      refine hJ _ _ _ ?_
      clear hJ J
      refine opsK_cons fun J hJ => ?_
      simp [go_sem, tLenS_at N, hn, hd, hh, h0]
      refine hJ _ _ _ ?_
      clear hJ J
      refine opsK_cons fun J hJ => ?_
      simp [go_sem, tLenS_at N, hn, hd, hh, h0]
      refine hJ _ _ _ ?_
      clear hJ J
      refine opsK_cons fun J hJ => ?_
      simp [go_sem, tLenS_at N, hn, hd, hh, h0]
      refine hJ _ _ _ ?_
      clear hJ J
      refine opsK_cons fun J hJ => ?_
      simp [go_sem, tLenS_at N, hn, hd, hh, h0]
      refine hJ _ _ _ ?_
      clear hJ J
      refine opsK_cons fun J hJ => ?_
      simp [go_sem, tLenS_at N, hn, hd, hh, h0]
      refine hJ _ _ _ ?_
      clear hJ J
      refine opsK_cons fun J hJ => ?_
      simp [go_sem, tLenS_at N, hn, hd, hh, h0]
      refine hJ _ _ _ ?_
      clear hJ J
      refine opsK_cons fun J hJ => ?_
      simp [go_sem, tLenS_at N, hn, hd, hh, h0]
      refine hJ _ _ _ ?_
      clear hJ J
      refine opsK_cons fun J hJ => ?_
      simp [go_sem, tLenS_at N, hn, hd, hh, h0]
      refine hJ _ _ _ ?_
      clear hJ J
      refine opsK_cons fun J hJ => ?_
      simp [go_sem, tLenS_at N, hn, hd, hh, h0]
      refine hJ _ _ _ ?_
      clear hJ J
      refine opsK_cons fun J hJ => ?_
      simp [go_sem, tLenS_at N, hn, hd, hh, h0]
      refine hJ _ _ _ ?_
      clear hJ J
      refine opsK_cons fun J hJ => ?_
      simp [go_sem, tLenS_at N, hn, hd, hh, h0]
      refine hJ _ _ _ ?_
      clear hJ J
      refine opsK_cons fun J hJ => ?_
      simp [go_sem, tLenS_at N, hn, hd, hh, h0]
      refine hJ _ _ _ ?_
      clear hJ J
      refine opsK_cons fun J hJ => ?_
      simp [go_sem, tLenS_at N, hn, hd, hh, h0]
      refine hJ _ _ _ ?_
      clear hJ J
      refine opsK_cons fun J hJ => ?_
      simp [go_sem, tLenS_at N, hn, hd, hh, h0]
      refine hJ _ _ _ ?_
      clear hJ J
      refine opsK_cons fun J hJ => ?_
      simp [go_sem, tLenS_at N, hn, hd, hh, h0]
      refine hJ _ _ _ ?_
      clear hJ J
      refine opsK_cons fun J hJ => ?_
      simp [go_sem, tLenS_at N, hn, hd, hh, h0]
      refine hJ _ _ _ ?_
      clear hJ J
      refine opsK_cons fun J hJ => ?_
      simp [go_sem, tLenS_at N, hn, hd, hh, h0]
      refine hJ _ _ _ ?_
      clear hJ J
      refine opsK_nil ?_
      refine ⟨rfl, ?_⟩
      refine hK8 _ ?_
      clear hK8
      refine awp_region ?_
      iterate 3
        refine opsK_cons fun J hJ => ?_
        simp [go_sem]
        refine hJ _ _ _ ?_
        clear hJ J
      refine opsK_nil ?_
      refine ⟨⟨(pre ++ [x], post, N), by simp [← hl], ⟨by simp; omega, by rw [← hgo.2, hNd]; rfl⟩⟩, ?_, by simp⟩
      refine weak_of [((1, 0), some (1, 0))] (by simp [go_sem]) ?_ ?_ <;> simp [go_sem, wrap_nat hpl, run18I]
    · skip
      have h1 : ((N.length : Int) == 0) = false := by rw [beq_eq_false_iff_ne]; omega
      have hd : decide (N = []) = false := by rw [decide_eq_false_iff_not]; intro e; rw [e] at h0; simp at h0
      refine awp_draw ?_
      refine opsK_cons fun J hJ => ?_
      simp [go_sem, tAllS_at N (by omega), plChgS_at N N (by omega), hn, hh]
      refine hJ _ _ _ ?_
      clear hJ J
      refine opsK_cons fun J hJ => ?_
      simp [go_sem, tAllS_at N (by omega), plChgS_at N N (by omega), hn, hh]
      refine hJ _ _ _ ?_
      clear hJ J
      refine opsK_cons fun J hJ => ?_
      simp [go_sem, tAllS_at N (by omega), plChgS_at N N (by omega), hn, hh]
      refine hJ _ _ _ ?_
      clear hJ J
      refine opsK_cons fun J hJ => ?_
      simp [go_sem, tAllS_at N (by omega), plChgS_at N N (by omega), hn, hh]
      refine hJ _ _ _ ?_
      clear hJ J
      refine opsK_cons fun J hJ => ?_
      simp [go_sem, tAllS_at N (by omega), plChgS_at N N (by omega), hn, hh]
      refine hJ _ _ _ ?_
      clear hJ J
      refine opsK_cons fun J hJ => ?_
      simp [go_sem, tAllS_at N (by omega), plChgS_at N N (by omega), hn, hh]
      refine hJ _ _ _ ?_
      clear hJ J
      refine opsK_cons fun J hJ => ?_
      simp [go_sem, tAllS_at N (by omega), plChgS_at N N (by omega), hn, hh]
      refine hJ _ _ _ ?_
      clear hJ J
      refine opsK_cons fun J hJ => ?_
      simp [go_sem, tLenS_at N, hn, hd, hh, h0, h1, ↓hy, hy]
      refine hJ _ _ _ ?_
      clear hJ J
      refine opsK_cons fun J hJ => ?_
      simp [go_sem, tLenS_at N, hn, hd, hh, h0, h1, ↓hy, hy]
      refine hJ _ _ _ ?_
      clear hJ J
      refine opsK_cons fun J hJ => ?_
      simp [go_sem, tLenS_at N, hn, hd, hh, h0, h1, ↓hy, hy]
      refine hJ _ _ _ ?_
      clear hJ J
      refine opsK_cons fun J hJ => ?_
      simp [go_sem, tLenS_at N, hn, hd, hh, h0, h1, ↓hy, hy]
      refine hJ _ _ _ ?_
      clear hJ J
      refine opsK_cons fun J hJ => ?_
      simp [go_sem, tLenS_at N, hn, hd, hh, h0, h1, ↓hy, hy]
      refine hJ _ _ _ ?_
      clear hJ J
      refine opsK_cons fun J hJ => ?_
      simp [go_sem, tLenS_at N, hn, hd, hh, h0, h1, ↓hy, hy]
      refine hJ _ _ _ ?_
      clear hJ J
      refine opsK_cons fun J hJ => ?_
      simp [go_sem, tLenS_at N, hn, hd, hh, h0, h1, ↓hy, hy]
      refine hJ _ _ _ ?_
      clear hJ J
      refine opsK_cons fun J hJ => ?_
      simp [go_sem, tLenS_at N, hn, hd, hh, h0, h1, ↓hy, hy]
      refine hJ _ _ _ ?_
      clear hJ J
      refine opsK_cons fun J hJ => ?_
      simp [go_sem, tLenS_at N, hn, hd, hh, h0, h1, ↓hy, hy]
      refine hJ _ _ _ ?_
      clear hJ J
      refine opsK_cons fun J hJ => ?_
      simp [go_sem, tLenS_at N, hn, hd, hh, h0, h1, ↓hy, hy]
      refine hJ _ _ _ ?_
      clear hJ J
      refine opsK_cons fun J hJ => ?_
      simp [go_sem, tLenS_at N, hn, hd, hh, h0, h1, ↓hy, hy]
      refine hJ _ _ _ ?_
      clear hJ J
      refine opsK_cons fun J hJ => ?_
      simp [go_sem, tLenS_at N, hn, hd, hh, h0, h1, ↓hy, hy]
      refine hJ _ _ _ ?_
      clear hJ J
      refine opsK_cons fun J hJ => ?_
      simp [go_sem, tLenS_at N, hn, hd, hh, h0, h1, ↓hy, hy]
      refine hJ _ _ _ ?_
      clear hJ J
      refine opsK_cons fun J hJ => ?_
      simp [go_sem, tLenS_at N, hn, hd, hh, h0, h1, ↓hy, hy]
      refine hJ _ _ _ ?_
      clear hJ J
      refine opsK_cons fun J hJ => ?_
      simp [go_sem, tLenS_at N, hn, hd, hh, h0, h1, ↓hy, hy]
      refine hJ _ _ _ ?_
      clear hJ J
      refine opsK_cons fun J hJ => ?_
      simp [go_sem, tLenS_at N, hn, hd, hh, h0, h1, ↓hy, hy]
      refine hJ _ _ _ ?_
      clear hJ J
      refine opsK_cons fun J hJ => ?_
      simp [go_sem, tLenS_at N, hn, hd, hh, h0, h1, ↓hy, hy]
      refine hJ _ _ _ ?_
      clear hJ J
      refine opsK_cons fun J hJ => ?_
      simp [go_sem, tLenS_at N, hn, hd, hh, h0, h1, ↓hy, hy]
      refine hJ _ _ _ ?_
      clear hJ J
      refine opsK_cons fun J hJ => ?_
      simp [go_sem, tLenS_at N, hn, hd, hh, h0, h1, ↓hy, hy]
      refine hJ _ _ _ ?_
      clear hJ J
      refine opsK_cons fun J hJ => ?_
      simp [go_sem, tLenS_at N, hn, hd, hh, h0, h1, ↓hy, hy]
      refine hJ _ _ _ ?_
      clear hJ J
      refine opsK_cons fun J hJ => ?_
      simp [go_sem, tLenS_at N, hn, hd, hh, h0, h1, ↓hy, hy]
      refine hJ _ _ _ ?_
      clear hJ J
      refine opsK_cons fun J hJ => ?_
      simp [go_sem, tLenS_at N, hn, hd, hh, h0, h1, ↓hy, hy]
      refine hJ _ _ _ ?_
      clear hJ J
      refine opsK_cons fun J hJ => ?_
      simp [go_sem, tLenS_at N, hn, hd, hh, h0, h1, ↓hy, hy]
      refine hJ _ _ _ ?_
      clear hJ J
      refine opsK_cons fun J hJ => ?_
      simp [go_sem, tLenS_at N, hn, hd, hh, h0, h1, ↓hy, hy]
      refine hJ _ _ _ ?_
      clear hJ J
      refine opsK_cons fun J hJ => ?_
      simp [go_sem, tLenS_at N, hn, hd, hh, h0, h1, ↓hy, hy]
      refine hJ _ _ _ ?_
      clear hJ J
      refine opsK_cons fun J hJ => ?_
      simp [go_sem, tLenS_at N, hn, hd, hh, h0, h1, ↓hy, hy]
      refine hJ _ _ _ ?_
      clear hJ J
      refine opsK_cons fun J hJ => ?_
      simp [go_sem, tLenS_at N, hn, hd, hh, h0, h1, ↓hy, hy]
      refine hJ _ _ _ ?_
      clear hJ J
      refine opsK_cons fun J hJ => ?_
      simp [go_sem, tLenS_at N, hn, hd, hh, h0, h1, ↓hy, hy]
      refine hJ _ _ _ ?_
      clear hJ J
      refine opsK_cons fun J hJ => ?_
      simp [go_sem, tLenS_at N, hn, hd, hh, h0, h1, ↓hy, hy]
      refine hJ _ _ _ ?_
      clear hJ J
      refine opsK_cons fun J hJ => ?_
      simp [go_sem, tLenS_at N, hn, hd, hh, h0, h1, ↓hy, hy]
      refine hJ _ _ _ ?_
      clear hJ J
      refine opsK_cons fun J hJ => ?_
      simp [go_sem, tLenS_at N, hn, hd, hh, h0, h1, ↓hy, hy]
      refine hJ _ _ _ ?_
      clear hJ J
      refine opsK_cons fun J hJ => ?_
      simp [go_sem, tLenS_at N, hn, hd, hh, h0, h1, ↓hy, hy]
      refine hJ _ _ _ ?_
      clear hJ J
      refine opsK_cons fun J hJ => ?_
      simp [go_sem, tLenS_at N, hn, hd, hh, h0, h1, ↓hy, hy]
      refine hJ _ _ _ ?_
      clear hJ J
      refine opsK_cons fun J hJ => ?_
      simp [go_sem, tLenS_at N, hn, hd, hh, h0, h1, ↓hy, hy]
      refine hJ _ _ _ ?_
      clear hJ J
      refine opsK_cons fun J hJ => ?_
      simp [go_sem, tLenS_at N, hn, hd, hh, h0, h1, ↓hy, hy]
      refine hJ _ _ _ ?_
      clear hJ J
      refine opsK_cons fun J hJ => ?_
      simp [go_sem, tLenS_at N, hn, hd, hh, h0, h1, ↓hy, hy]
      refine hJ _ _ _ ?_
      clear hJ J
      refine opsK_cons fun J hJ => ?_
      simp [go_sem, tLenS_at N, hn, hd, hh, h0, h1, ↓hy, hy]
      refine hJ _ _ _ ?_
      clear hJ J
      refine opsK_nil ?_
      refine ⟨rfl, ?_⟩
      refine hK8 _ ?_
      clear hK8
      refine awp_region ?_
      iterate 3
        refine opsK_cons fun J hJ => ?_
        simp [go_sem]
        refine hJ _ _ _ ?_
        clear hJ J
      refine opsK_nil ?_
      refine ⟨⟨(pre ++ [x], post, N), by simp [← hl], ⟨by simp; omega, by rw [← hgo.2, hNd]; rfl⟩⟩, ?_, by simp⟩
      refine weak_of [((1, 0), some (1, 0))] (by simp [go_sem]) ?_ ?_ <;> simp [go_sem, wrap_nat hpl, run18I]
  · skip
    obtain ⟨rfl, rfl⟩ := mid_nil hl (by omega)
    refine awp_region ?_
    iterate 7
      refine opsK_cons fun J hJ => ?_
      simp [go_sem, hlt]
      refine hJ _ _ _ ?_
      clear hJ J
    refine opsK_nil ?_
    refine hK6 _ ?_
    clear hK6
    refine awp_condF rfl ?_
    refine awp_exit ?_
    simp only [go_sem]
    refine hK3 _ ?_
    clear hK3
    refine awp_seq fun K11 hK11 => ?_
    refine awp_region ?_
    iterate 4
      refine opsK_cons fun J hJ => ?_
      simp [go_sem]
      refine hJ _ _ _ ?_
      clear hJ J
    refine opsK_nil ?_
    refine hK11 _ ?_
    clear hK11
    refine awp_ret ?_
    have hM : M = runM m os := hgo.2
    refine finWQ_of [((1, 0), some (1, 0))] ?_
    simp [go_sem, Try.f15, ← hM]

def a18 : Chg := { zChg with id := ⟨0, 1⟩, time := 1 }
def b18 : Chg := { zChg with id := ⟨0, 2⟩, time := 2 }
def t18 : List Chg := [b18]
def u18 : List Chg := [a18, b18]
theorem an18 : cChg { id := { rep := zId.rep, seq := 1 }, time := 1, kind := zChg.kind, a := zChg.a, b := zChg.b, n := zChg.n, ref := zChg.ref } = cChg a18 := rfl
theorem bn18 : cChg { id := { rep := zId.rep, seq := 2 }, time := 2, kind := zChg.kind, a := zChg.a, b := zChg.b, n := zChg.n, ref := zChg.ref } = cChg b18 := rfl
theorem p18 : decide (placeC [] b18.id < 0) = true ∧ tputL [] b18 = t18 ∧ decide (placeC t18 a18.id < 0) = true ∧ tputL t18 a18 = u18 ∧ headC u18 = a18 ∧ decide (u18 ≠ []) = true ∧ decide (placeC u18 a18.id < 0) = false ∧ tputL u18 a18 = u18 ∧ freeC u18 a18.id = true ∧ freeC u18 b18.id = false ∧ u18.length = 2 := by decide

structure alive18X where
  u : Unit
/-- alive -/
noncomputable def alive18S : HSpec := mkH (ι := alive18X) (fun ⟨_⟩ => ([], [])) fun ⟨_⟩ => ⟨.bool true, [], []⟩
theorem alive18S_atG : alive18S [] [] = some (⟨.bool true, [], []⟩) :=
  mkH_at (ι := alive18X) (A := fun ⟨_⟩ => ([], [])) (R := fun ⟨_⟩ => ⟨.bool true, [], []⟩) (fun i j h => by obtain ⟨_⟩ := i; obtain ⟨_⟩ := j; rfl) ⟨()⟩
theorem alive18S_at : alive18S [] [] = some (⟨.bool true, [], []⟩) := alive18S_atG 

theorem alive18_ok : HSound Try.prog 12 alive18S := by
  refine sound_ofE (fn := Try.f12) rfl rfl (by kernel_rfl) fun args bx hr hS => ?_
  obtain ⟨⟨_⟩, rfl, rfl, rfl⟩ := mkH_of hS
  clear hS
  refine ⟨_, (EnvOK.consH (g := 22) (by kernel_rfl) tPut_ok (EnvOK.consV (g := 19) (by kernel_rfl) tFirst_ok (EnvOK.consV (g := 23) (by kernel_rfl) tFree_ok (EnvOK.consV (g := 24) (by kernel_rfl) tLen_ok (EnvOK.nil _))))), by simp [Try.f12], by simp [go_sem], fun w Mx pin => ?_⟩
  simp only [hB_at, lab_nil, lab_cons, hOf_nil, hOf_cons]
  obtain ⟨p1, p2, p3, p4, p5, p6, p7, p8, p9, p10, p11⟩ := p18
  refine awp_seq fun K1 hK1 => ?_
  refine awp_region ?_
  iterate 1
    refine opsK_cons fun J hJ => ?_
    simp [go_sem]
    refine hJ _ _ _ ?_
    clear hJ J
  refine opsK_nil ?_
  refine hK1 _ ?_
  clear hK1
  refine awp_seq fun K2 hK2 => ?_
  refine awp_region ?_
  iterate 3
    refine opsK_cons fun J hJ => ?_
    simp [go_sem]
    refine hJ _ _ _ ?_
    clear hJ J
  refine opsK_nil ?_
  refine hK2 _ ?_
  clear hK2
  refine awp_seq fun K3 hK3 => ?_
  refine awp_region ?_
  iterate 8
    refine opsK_cons fun J hJ => ?_
    simp [go_sem, an18, bn18]
    refine hJ _ _ _ ?_
    clear hJ J
  refine opsK_nil ?_
  refine hK3 _ ?_
  clear hK3
  refine awp_seq fun K4 hK4 => ?_
  refine awp_draw ?_
  iterate 8
    refine opsK_cons fun J hJ => ?_
    simp [go_sem, tPutS_atG [] .nils b18 .nil (by simp), p1, p2, tPutS_at t18 a18 (by decide), p3, p4]
    refine hJ _ _ _ ?_
    clear hJ J
  refine opsK_nil ?_
  refine ⟨rfl, ?_⟩
  refine hK4 _ ?_
  clear hK4
  refine awp_seq fun K5 hK5 => ?_
  refine awp_region ?_
  iterate 8
    refine opsK_cons fun J hJ => ?_
    simp [go_sem, tFirstS_at u18, p5, p6]
    refine hJ _ _ _ ?_
    clear hJ J
  refine opsK_nil ?_
  refine hK5 _ ?_
  clear hK5
  refine awp_seq fun K6 hK6 => ?_
  refine awp_region ?_
  iterate 37
    refine opsK_cons fun J hJ => ?_
    simp [go_sem, tPutS_at u18 a18 (by decide), p7, p8, tFreeS_at u18 a18.id (by decide), p9, tFreeS_at u18 b18.id (by decide), p10, tLenS_at u18, p11]
    refine hJ _ _ _ ?_
    clear hJ J
  refine opsK_nil ?_
  refine hK6 _ ?_
  clear hK6
  refine awp_ret ?_
  refine finWQ_of [] ?_
  simp [go_sem, Try.f12]

end Go.Proofs.Ytebflegkdfhoaaa.AE
