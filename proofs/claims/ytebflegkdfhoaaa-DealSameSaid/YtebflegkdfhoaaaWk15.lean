/-
  Law 15: the laws from their arguments as they are read. Conditions: none; every contract names its own.
-/
import Derived.Test.YtebflegkdfhoaaaLw15
import Derived.Test.YtebflegkdfhoaaaFin
namespace Go.Proofs.Ytebflegkdfhoaaa.AE
open Go Go.Proofs Go.RowKit
set_option linter.unusedVariables false
set_option linter.unusedSimpArgs false
set_option maxRecDepth 100000
set_option maxHeartbeats 4000000
theorem DealSame_walk (w : World) (l0 : List Int) (a0 : Option Addr) (c0 : Nat) (L0 : List (List Int)) (g0 : l0.length = 24) (_ : ∀ x ∈ l0, I64 x) (h0 : L0.length ≤ c0) (m0 : c0 ≤ maxLen) (s0 : SlK w.heap.size 7 w a0 L0) (l1 : List Int) (a1 : Option Addr) (c1 : Nat) (L1 : List (List Int)) (g1 : l1.length = 24) (_ : ∀ x ∈ l1, I64 x) (h1 : L1.length ≤ c1) (m1 : c1 ≤ maxLen) (s1 : SlK w.heap.size 7 w a1 L1) :
    Calls Try.prog 8 #[.agg (bk l0 (.slice a0 L0.length c0)), .agg (bk l1 (.slice a1 L1.length c1))] w fun e w' => e = .returned (.bool true) ∧ Below w.heap.size w w' := by
  obtain ⟨b0, os0, e0, r0⟩ := book_rep g0 h0 m0 s0
  obtain ⟨b1, os1, e1, r1⟩ := book_rep g1 h1 m1 s1
  refine true_walk dealSame_ok (dealSameS_at b0 os0 b1 os1) w rfl fun i v hi => ?_
  match i, hi with
  | 0, hi => cases hi; exact r0
  | 1, hi => cases hi; exact r1

theorem DealPuts_walk (w : World) (l0 : List Int) (a0 : Option Addr) (c0 : Nat) (L0 : List (List Int)) (g0 : l0.length = 24) (_ : ∀ x ∈ l0, I64 x) (h0 : L0.length ≤ c0) (m0 : c0 ≤ maxLen) (s0 : SlK w.heap.size 7 w a0 L0) (l1 : List Int) (g1 : l1.length = 7) (_ : ∀ x ∈ l1, I64 x) (l2 : List Int) (g2 : l2.length = 2) (_ : ∀ x ∈ l2, I64 x) :
    Calls Try.prog 6 #[.agg (bk l0 (.slice a0 L0.length c0)), .agg (A l1), .agg (A l2)] w fun e w' => e = .returned (.bool true) ∧ Below w.heap.size w w' := by
  obtain ⟨b0, os0, e0, r0⟩ := book_rep g0 h0 m0 s0
  obtain ⟨x1, r1⟩ := agg_rep ex_Ord w g1
  obtain ⟨x2, r2⟩ := agg_rep ex_Id w g2
  refine true_walk dealPuts_ok (dealPutsS_at b0 os0 x1 x2) w rfl fun i v hi => ?_
  match i, hi with
  | 0, hi => cases hi; exact r0
  | 1, hi => cases hi; exact r1
  | 2, hi => cases hi; exact r2

end Go.Proofs.Ytebflegkdfhoaaa.AE
