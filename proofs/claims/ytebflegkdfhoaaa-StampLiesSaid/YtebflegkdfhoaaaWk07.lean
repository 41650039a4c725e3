/-
  Law 07: StampLies from its arguments as they are read. Conditions: none; every contract names its own.
-/
import Derived.Test.YtebflegkdfhoaaaLw07
import Derived.Test.YtebflegkdfhoaaaFin
namespace Go.Proofs.Ytebflegkdfhoaaa.AE
open Go Go.Proofs Go.RowKit
set_option linter.unusedVariables false
set_option linter.unusedSimpArgs false
set_option maxRecDepth 100000
set_option maxHeartbeats 4000000
theorem StampLies_walk (w : World) (l0 : List Int) (g0 : l0.length = 9) (_ : ∀ x ∈ l0, I64 x) (l1 : List Int) (g1 : l1.length = 9) (_ : ∀ x ∈ l1, I64 x) :
    Calls Try.prog 9 #[.agg (A l0), .agg (A l1)] w fun e w' => e = .returned (.bool true) ∧ Below w.heap.size w w' := by
  obtain ⟨x0, r0⟩ := agg_rep ex_Chg w g0
  obtain ⟨x1, r1⟩ := agg_rep ex_Chg w g1
  refine true_walk stampLies_ok (stampLiesS_at x0 x1) w rfl fun i v hi => ?_
  match i, hi with
  | 0, hi => cases hi; exact r0
  | 1, hi => cases hi; exact r1

end Go.Proofs.Ytebflegkdfhoaaa.AE
