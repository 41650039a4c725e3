/-
  Law 07: StampLists from its arguments as they are read. Conditions: none; every contract names its own.
-/
import Derived.Test.YtebflegkdfhoaaaLw07b
import Derived.Test.YtebflegkdfhoaaaFin
namespace Go.Proofs.Ytebflegkdfhoaaa.AE
open Go Go.Proofs Go.RowKit
set_option linter.unusedVariables false
set_option linter.unusedSimpArgs false
set_option maxRecDepth 100000
set_option maxHeartbeats 4000000
theorem StampLists_walk (w : World) (a0 : Option Addr) (c0 : Nat) (L0 : List (List Int)) (h0 : L0.length ≤ c0) (m0 : c0 ≤ maxLen) (s0 : SlK w.heap.size 9 w a0 L0) (l1 : List Int) (g1 : l1.length = 9) (_ : ∀ x ∈ l1, I64 x) (l2 : List Int) (g2 : l2.length = 2) (_ : ∀ x ∈ l2, I64 x) (i3 : Int) (_ : I64 i3) :
    Calls Try.prog 10 #[.slice a0 L0.length c0, .agg (A l1), .agg (A l2), .int .i64 i3] w fun e w' => e = .returned (.bool true) ∧ Below w.heap.size w w' := by
  obtain ⟨os0, e0, r0⟩ := slk_rows ex_Chg s0 h0 m0
  obtain ⟨x1, r1⟩ := agg_rep ex_Chg w g1
  obtain ⟨x2, r2⟩ := agg_rep ex_Id w g2
  refine true_walk stampLists_ok (stampListsS_at os0 x1 x2 i3) w rfl fun i v hi => ?_
  match i, hi with
  | 0, hi => cases hi; exact r0
  | 1, hi => cases hi; exact r1
  | 2, hi => cases hi; exact r2
  | 3, hi => cases hi; exact (.int _ _ _)

end Go.Proofs.Ytebflegkdfhoaaa.AE
