/-
  Law 15: DealStates from its arguments as they are read. Conditions: none; every contract names its own.
-/
import Derived.Test.YtebflegkdfhoaaaLw15b
import Derived.Test.YtebflegkdfhoaaaFin
namespace Go.Proofs.Ytebflegkdfhoaaa.AE
open Go Go.Proofs Go.RowKit
set_option linter.unusedVariables false
set_option linter.unusedSimpArgs false
set_option maxRecDepth 100000
set_option maxHeartbeats 4000000
theorem DealStates_walk (w : World) (l0 : List Int) (a0 : Option Addr) (c0 : Nat) (L0 : List (List Int)) (g0 : l0.length = 24) (_ : ∀ x ∈ l0, I64 x) (h0 : L0.length ≤ c0) (m0 : c0 ≤ maxLen) (s0 : SlK w.heap.size 7 w a0 L0) (l1 : List Int) (g1 : l1.length = 2) (_ : ∀ x ∈ l1, I64 x) (a2 : Option Addr) (c2 : Nat) (L2 : List (List Int)) (h2 : L2.length ≤ c2) (m2 : c2 ≤ maxLen) (s2 : SlK w.heap.size 1 w a2 L2) (i3 : Int) (_ : I64 i3) :
    Calls Try.prog 7 #[.agg (bk l0 (.slice a0 L0.length c0)), .agg (A l1), .slice a2 L2.length c2, .int .i64 i3] w fun e w' => e = .returned (.bool true) ∧ Below w.heap.size w w' := by
  obtain ⟨b0, os0, e0, r0⟩ := book_rep g0 h0 m0 s0
  obtain ⟨x1, r1⟩ := agg_rep ex_Id w g1
  obtain ⟨os2, e2, r2⟩ := slk_rows ex_Int s2 h2 m2
  refine true_walk dealStates_ok (dealStatesS_at b0 os0 x1 os2 i3 (by rw [e2]; have := m2; simp only [maxLen] at this; omega)) w rfl fun i v hi => ?_
  match i, hi with
  | 0, hi => cases hi; exact r0
  | 1, hi => cases hi; exact r1
  | 2, hi => cases hi; exact r2
  | 3, hi => cases hi; exact (.int _ _ _)

end Go.Proofs.Ytebflegkdfhoaaa.AE
