/-
  countermandlaw08.few. Conditions: every contract names its own.
-/
import Derived.Test.YtikhhmdmmgkakaaVector3
namespace Go.Proofs.Ytikhhmdmmgkakaa
open Go.RowKit
set_option linter.unusedVariables false

theorem few_short (a : Option Addr) (n c : Nat) (h : n ≤ 40) (w : World) : Calls Try.prog 17 #[.slice a n c] w fun e w' => e = .returned (.slice a n c) ∧ w = w' := by
  have h1 : (decide ((40 : Int) < (n : Int))) = false := by simpa using (by omega : (n : Int) ≤ 40)
  go_enter Try.func17, Try.ntmps17
  go_wp2_with fail
  all_goals go_ret
  all_goals exact ⟨rfl, rfl⟩
theorem few_long (a : Addr) (n c : Nat) (h : 40 < n) (hc : n ≤ c) (w : World) : Calls Try.prog 17 #[.slice (some a) n c] w fun e w' => e = .returned (.slice (some a) 40 c) ∧ w = w' := by
  have h1 : (decide ((40 : Int) < (n : Int))) = true := by simpa using (by omega : (40 : Int) < n)
  have h2 : 40 ≤ c := by omega
  go_enter Try.func17, Try.ntmps17
  go_wp2_with fail
  all_goals go_ret
  all_goals exact ⟨rfl, rfl⟩
end Go.Proofs.Ytikhhmdmmgkakaa
