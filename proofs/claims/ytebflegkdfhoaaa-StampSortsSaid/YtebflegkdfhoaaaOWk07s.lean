/-
 Law 07: StampSorts from its arguments as they are read. Conditions: none; every contract names its own.
-/
import Derived.Test.YtebflegkdfhoaaaOLw07s
import Derived.Test.YtebflegkdfhoaaaPg
set_option linter.constructorNameAsVariable false
namespace Go.Proofs.Ytebflegkdfhoaaa.AE
open Go Go.Proofs Go.RowKit
set_option linter.unusedVariables false
set_option linter.unusedSimpArgs false
set_option maxRecDepth 100000
set_option maxHeartbeats 4000000
theorem StampSorts_walk (w : World) (a0 : Option Addr) (c0 : Nat) (L0 : List (List Int)) (h0 : L0.length ≤ c0) (m0 : c0 ≤ maxLen) (s0 : SlK w.heap.size 9 w a0 L0) :
  Calls Try.prog 11 #[.slice a0 L0.length c0] w fun e w' => e = .returned (.bool true) ∧ Below w.heap.size w w' := by
 obtain ⟨os0, e0, r0⟩ := slk_rows ex_Chg s0 h0 m0
 refine true_walk stampSorts_ok (stampSortsS_at os0) w rfl fun i v hi => ?_
 match i, hi with
 | 0, hi => cases hi; exact r0
end Go.Proofs.Ytebflegkdfhoaaa.AE
