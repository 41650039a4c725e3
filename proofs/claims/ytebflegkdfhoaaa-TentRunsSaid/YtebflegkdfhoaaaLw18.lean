/-
  Law 18: TentRuns. Conditions: none; every contract names its own.
-/
import Derived.Test.YtebflegkdfhoaaaTe3
import Derived.Test.YtebflegkdfhoaaaFin
namespace Go.Proofs.Ytebflegkdfhoaaa.AE
open Go Go.Proofs Go.RowKit
set_option linter.unusedVariables false
set_option linter.unusedSimpArgs false
set_option maxRecDepth 100000
set_option maxHeartbeats 4000000
structure tentRunsX where
  os : List Op
  os' : AV
  h_os : SlA 12 cOp os os'
/-- countermand/countermandlaw18.TentRuns -/
noncomputable def tentRunsS : HSpec := mkH (ι := tentRunsX) (fun ⟨os, os', h_os⟩ => ([os'], [])) fun ⟨os, os', h_os⟩ => ⟨.bool true, [], []⟩
theorem tentRunsS_atG (os : List Op) (os' : AV) (h_os : SlA 12 cOp os os') : tentRunsS [os'] [] = some (⟨.bool true, [], []⟩) :=
  mkH_at (ι := tentRunsX) (A := fun ⟨os, os', h_os⟩ => ([os'], [])) (R := fun ⟨os, os', h_os⟩ => ⟨.bool true, [], []⟩) (fun i j h => by obtain ⟨os, os', h_os⟩ := i; obtain ⟨os2, os'2, h_os2⟩ := j; simp [and_assoc, cBk_eq_iff, cId_eq_iff, cOrd_eq_iff, cChg_eq_iff, cEff_eq_iff, cKey_eq_iff, cReq_eq_iff, cV_eq_iff, cOp_eq_iff, cOc_eq_iff] at h; obtain rfl := h; obtain rfl := SlA.inj (fun x y h => cOp_inj h) h_os h_os2; rfl) ⟨os, os', h_os⟩
theorem tentRunsS_at (os : List Op) : tentRunsS [(.sl 12 (rows cOp os))] [] = some (⟨.bool true, [], []⟩) := tentRunsS_atG os _ .sl
theorem tentRunsS_atN : tentRunsS [.nils] [] = some ((fun (os : List Op) => ⟨.bool true, [], []⟩) []) := tentRunsS_atG [] _ .nil

theorem tentRuns_ok : HSound Try.prog 4 tentRunsS := by
  refine sound_ofE (fn := Try.f4) rfl rfl (by kernel_rfl) fun args bx hr hS => ?_
  obtain ⟨⟨os, os', h_os⟩, rfl, rfl, rfl⟩ := mkH_of hS
  clear hS
  refine ⟨_, (EnvOK.consV (g := 12) (by kernel_rfl) alive18_ok (EnvOK.consV (g := 16) (by kernel_rfl) few18_ok (EnvOK.consH (g := 15) (by kernel_rfl) run18_ok (EnvOK.nil _)))), by simp [Try.f4], by simp [go_sem], fun w Mx pin => ?_⟩
  simp only [hB_at, lab_nil, lab_cons, hOf_nil, hOf_cons]
  refine awp_weak (s' := ⟨ofL [(0, (.sl 12 (rows cOp os)))], hOf []⟩) ?_ ?_
  · cases h_os <;> exact weak_of [] (by simp [go_sem]) (by simp [go_sem]) (by simp [go_sem])
  clear h_os
  refine awp_seq fun K1 hK1 => ?_
  refine awp_region ?_
  iterate 1
    refine opsK_cons fun J hJ => ?_
    simp [go_sem]
    refine hJ _ _ _ ?_
    clear hJ J
  refine opsK_nil ?_
  refine hK1 _ ?_
  clear hK1
  refine awp_seq fun K2 hK2 => ?_
  refine awp_seq fun K3 hK3 => ?_
  refine awp_region ?_
  iterate 2
    refine opsK_cons fun J hJ => ?_
    simp [go_sem, alive18S_at]
    refine hJ _ _ _ ?_
    clear hJ J
  refine opsK_nil ?_
  refine hK3 _ ?_
  clear hK3
  refine awp_condF rfl ?_
  refine awp_skip ?_
  refine hK2 _ ?_
  clear hK2
  refine awp_seq fun K6 hK6 => ?_
  refine awp_region ?_
  iterate 10
    refine opsK_cons fun J hJ => ?_
    simp [go_sem, few18S_at os, run18S_atG [] .nils [] .nils (os.take 50) (.sl 12 (rows cOp (os.take 50))) .nil .nil .sl ⟨rfl, by simp, by simp; omega⟩]
    refine hJ _ _ _ ?_
    clear hJ J
  refine opsK_nil ?_
  refine hK6 _ ?_
  clear hK6
  refine awp_seq fun K7 hK7 => ?_
  refine awp_region ?_
  iterate 2
    refine opsK_cons fun J hJ => ?_
    simp [go_sem]
    refine hJ _ _ _ ?_
    clear hJ J
  refine opsK_nil ?_
  refine hK7 _ ?_
  clear hK7
  refine awp_ret ?_
  refine finWQ_of [] ?_
  simp [go_sem, Try.f4]

theorem TentRuns_walk (w : World) (a0 : Option Addr) (c0 : Nat) (L0 : List (List Int)) (h0 : L0.length ≤ c0) (m0 : c0 ≤ maxLen) (s0 : SlK w.heap.size 12 w a0 L0) :
    Calls Try.prog 4 #[.slice a0 L0.length c0] w fun e w' => e = .returned (.bool true) ∧ Below w.heap.size w w' := by
  obtain ⟨os0, e0, r0⟩ := slk_rows ex_Op s0 h0 m0
  refine true_walk tentRuns_ok (tentRunsS_at os0) w rfl fun i v hi => ?_
  match i, hi with
  | 0, hi => cases hi; exact r0

end Go.Proofs.Ytebflegkdfhoaaa.AE
