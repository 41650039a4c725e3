/-
  Package stamp: sorting few. Conditions: none; every contract names its own.
-/
import Derived.Test.YtebflegkdfhoaaaSt1
import Derived.Test.YtebflegkdfhoaaaSo1
namespace Go.Proofs.Ytebflegkdfhoaaa.AE
open Go Go.Proofs Go.RowKit
set_option linter.unusedVariables false
set_option linter.unusedSimpArgs false
set_option maxRecDepth 100000
set_option maxHeartbeats 4000000
/-- Sorted by stamp: few changes. -/
def sortC (l : List Chg) : List Chg := insChg ordChg 0 (l.length - 1) 1 l
theorem sortC_len (l : List Chg) : (sortC l).length = l.length := insChg_len ..

structure sortedX where
  l : List Chg
  l' : AV
  h_l : SlA 9 cChg l l'
  hL : l.length < 20
/-- stamp.Sorted, of few -/
noncomputable def sortedS : HSpec := mkH (ι := sortedX) (fun ⟨l, l', h_l, hL⟩ => ([l'], [])) fun ⟨l, l', h_l, hL⟩ => ⟨.own (2, 0) l.length, [], [.row 26 9 (rows cChg (sortC l)) false]⟩
theorem sortedS_atG (l : List Chg) (l' : AV) (h_l : SlA 9 cChg l l') (hL : l.length < 20) : sortedS [l'] [] = some (⟨.own (2, 0) l.length, [], [.row 26 9 (rows cChg (sortC l)) false]⟩) :=
  mkH_at (ι := sortedX) (A := fun ⟨l, l', h_l, hL⟩ => ([l'], [])) (R := fun ⟨l, l', h_l, hL⟩ => ⟨.own (2, 0) l.length, [], [.row 26 9 (rows cChg (sortC l)) false]⟩) (fun i j h => by obtain ⟨l, l', h_l, hL⟩ := i; obtain ⟨l2, l'2, h_l2, hL2⟩ := j; simp [and_assoc, cBk_eq_iff, cId_eq_iff, cOrd_eq_iff, cChg_eq_iff, cEff_eq_iff, cKey_eq_iff, cReq_eq_iff, cV_eq_iff, cOp_eq_iff, cOc_eq_iff] at h; obtain rfl := h; obtain rfl := SlA.inj (fun x y h => cChg_inj h) h_l h_l2; rfl) ⟨l, l', h_l, hL⟩
theorem sortedS_at (l : List Chg) (hL : l.length < 20) : sortedS [(.sl 9 (rows cChg l))] [] = some (⟨.own (2, 0) l.length, [], [.row 26 9 (rows cChg (sortC l)) false]⟩) := sortedS_atG l _ .sl hL
theorem sortedS_atN : sortedS [.nils] [] = some ((fun (l : List Chg) => ⟨.own (2, 0) l.length, [], [.row 26 9 (rows cChg (sortC l)) false]⟩) []) := sortedS_atG [] _ .nil (by simp)

theorem sorted_ok : HSound Try.prog 48 sortedS := by
  refine sound_ofE (fn := Try.f48) rfl rfl (by kernel_rfl) fun args bx hr hS => ?_
  obtain ⟨⟨l, l', h_l, hL⟩, rfl, rfl, rfl⟩ := mkH_of hS
  clear hS
  refine ⟨_, (EnvOK.consV (g := 54) (by kernel_rfl) cloneChg_ok (EnvOK.consH (g := 69) (by kernel_rfl) (sortSChg_ok 64 ordChg ordChgS (by kernel_rfl) ordChg_ok (fun x y => ordChgS_at x y)) (EnvOK.nil _))), by simp [Try.f48], by simp [go_sem], fun w Mx pin => ?_⟩
  simp only [hB_at, lab_nil, lab_cons, hOf_nil, hOf_cons]
  refine awp_weak (s' := ⟨ofL [(0, (.sl 9 (rows cChg l)))], hOf []⟩) ?_ ?_
  · cases h_l <;> exact weak_of [] (by simp [go_sem]) (by simp [go_sem]) (by simp [go_sem])
  clear h_l
  refine awp_seq fun K1 hK1 => ?_
  refine awp_region ?_
  iterate 1
    refine opsK_cons fun J hJ => ?_
    simp [go_sem]
    refine hJ _ _ _ ?_
    clear hJ J
  refine opsK_nil ?_
  refine hK1 _ ?_
  clear hK1
  refine awp_seq fun K2 hK2 => ?_
  refine awp_region ?_
  iterate 3
    refine opsK_cons fun J hJ => ?_
    simp [go_sem, cloneChgS_at l (by omega)]
    refine hJ _ _ _ ?_
    clear hJ J
  refine opsK_nil ?_
  refine hK2 _ ?_
  clear hK2
  refine awp_seq fun K3 hK3 => ?_
  refine awp_region ?_
  iterate 2
    refine opsK_cons fun J hJ => ?_
    simp [go_sem, sortSChg_at 64 ordChg l hL]
    refine hJ _ _ _ ?_
    clear hJ J
  refine opsK_nil ?_
  refine hK3 _ ?_
  clear hK3
  refine awp_seq fun K4 hK4 => ?_
  refine awp_region ?_
  iterate 2
    refine opsK_cons fun J hJ => ?_
    simp [go_sem]
    refine hJ _ _ _ ?_
    clear hJ J
  refine opsK_nil ?_
  refine hK4 _ ?_
  clear hK4
  refine awp_ret ?_
  refine finWQ_of [((2, 0), some (0, 80))] ?_
  simp [go_sem, Try.f48, sortC, insChg_len]

end Go.Proofs.Ytebflegkdfhoaaa.AE
