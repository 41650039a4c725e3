/-
 Package stamp: sorting few. Conditions: none; every contract names its own.
-/
import Derived.Test.YtebflegkdfhoaaaOSt1
import Derived.Test.YtebflegkdfhoaaaOSo1
set_option linter.constructorNameAsVariable false
namespace Go.Proofs.Ytebflegkdfhoaaa.AE
open Go Go.Proofs Go.RowKit
set_option linter.unusedVariables false
set_option linter.unusedSimpArgs false
set_option maxRecDepth 100000
set_option maxHeartbeats 4000000
def sortC (l : List Chg) : List Chg := insChg ordChg 0 (l.length - 1) 1 l
theorem sortC_len (l : List Chg) : (sortC l).length = l.length := insChg_len ..
structure sortedX where
 l : List Chg
 l' : AV
 h_l : SlA 9 cChg l l'
 hL : l.length < 20
noncomputable def sortedS : HSpec := mkH (ι := sortedX) (fun ⟨l, l', h_l, hL⟩ => ([l'], [])) fun ⟨l, l', h_l, hL⟩ => ⟨.own (2, 0) l.length, [], [.row 26 9 (rows cChg (sortC l)) false]⟩
theorem sortedS_atG (l : List Chg) (l' : AV) (h_l : SlA 9 cChg l l') (hL : l.length < 20) : sortedS [l'] [] = some (⟨.own (2, 0) l.length, [], [.row 26 9 (rows cChg (sortC l)) false]⟩) :=
 mA_ (ι := sortedX) (fun i j h => by obtain ⟨l, l', h_l, hL⟩ := i; obtain ⟨l2, l'2, h_l2, hL2⟩ := j; simp [and_assoc, qB_, qI_, qO_, qC_, qE_, qK_, qR_, qV_, qP_, qOc_] at h; obtain rfl := h; obtain rfl := SlA.inj (fun x y h => cChg_inj h) h_l h_l2; rfl) ⟨l, l', h_l, hL⟩
theorem sortedS_at (l : List Chg) (hL : l.length < 20) : sortedS [(.sl 9 (rows cChg l))] [] = some (⟨.own (2, 0) l.length, [], [.row 26 9 (rows cChg (sortC l)) false]⟩) := sortedS_atG l _ .sl hL
theorem sortedS_atN : sortedS [.nils] [] = some ((fun (l : List Chg) => ⟨.own (2, 0) l.length, [], [.row 26 9 (rows cChg (sortC l)) false]⟩) []) := sortedS_atG [] _ .nil (by simp)
theorem sorted_ok : HSound Try.prog 48 sortedS := by
 refine sE_ (fn := Try.f48) rfl rfl (by kernel_rfl) fun args bx hr hS => ?_
 obtain ⟨⟨l, l', h_l, hL⟩, rfl, rfl, rfl⟩ := mO_ hS
 clear hS
 refine ⟨_, (eV_ (g := 54) (by kernel_rfl) cloneChg_ok (eH_ (g := 69) (by kernel_rfl) (sortSChg_ok 64 ordChg ordChgS (by kernel_rfl) ordChg_ok (fun x y => ordChgS_at x y)) (eN_ _))), by simp [Try.f48], by simp [go_sem], fun w Mx pin => ?_⟩
 simp only [hB_at, lab_nil, lab_cons, hOf_nil, hOf_cons]
 refine aW_ (s' := ⟨ofL [(0, (.sl 9 (rows cChg l)))], hOf []⟩) ?_ ?_
 · cases h_l <;> exact wO_ [] (by simp [go_sem]) (by simp [go_sem]) (by simp [go_sem])
 clear h_l
 refine aQ_ ?_
 iterate 1
  refine oC_ fun J hJ => ?_
  simp [go_sem]
  refine hJ _ _ _ ?_
 refine oN_ ?_
 refine aQ_ ?_
 iterate 3
  refine oC_ fun J hJ => ?_
  simp [go_sem, cloneChgS_at l (by omega)]
  refine hJ _ _ _ ?_
 refine oN_ ?_
 refine aQ_ ?_
 iterate 2
  refine oC_ fun J hJ => ?_
  simp [go_sem, sortSChg_at 64 ordChg l hL]
  refine hJ _ _ _ ?_
 refine oN_ ?_
 refine aQ_ ?_
 iterate 2
  refine oC_ fun J hJ => ?_
  simp [go_sem]
  refine hJ _ _ _ ?_
 refine oN_ ?_
 refine aE_ ?_
 refine fQ_ [((2, 0), some (0, 80))] ?_
 simp [go_sem, Try.f48, sortC, insChg_len]
end Go.Proofs.Ytebflegkdfhoaaa.AE
