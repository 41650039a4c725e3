/-
  What the functions of vector return. Conditions: every contract names its own.
-/
import Derived.Test.YtikhhmdmmgkakaaTypes
import Derived.Test.YtikhhmdmmgkakaaOpen
import Derived.Deep.QuietTactic
import Derived.BigQuiet
import Derived.StillTailTactics
import Derived.Deep.RegionWith
namespace Go.Proofs.Ytikhhmdmmgkakaa
open Go.RowKit
set_option linter.unusedVariables false

theorem more_drew (w : World) (n : Nat) (os : List Obj) : (more w n os).drew = more w (n + 1) os := by
  rw [drew_more, more_more, List.append_nil]
theorem there_yes (r : Int) (w : World) (h1 : 0 ≤ r) (h2 : r < 4) : Calls Try.prog 46 #[.int .i64 r] w fun e w' => e = .returned (.bool true) ∧ w = w' := by
  go_enter Try.func46, Try.ntmps46
  go_wp2
  go_ret
  exact ⟨rfl, rfl⟩
theorem there_no (r : Int) (w : World) (h : r < 0 ∨ 4 ≤ r) : Calls Try.prog 46 #[.int .i64 r] w fun e w' => e = .returned (.bool false) ∧ w = w' := by
  by_cases h1 : 0 ≤ r
  · have h2 : ¬ r < 4 := by omega
    clear h
    go_enter Try.func46, Try.ntmps46
    go_wp2
    go_ret
    exact ⟨by simp, rfl⟩
  · clear h
    go_enter Try.func46, Try.ntmps46
    go_wp2
    go_ret
    exact ⟨by simp, rfl⟩
/-- The greater ones, behind k rounds. -/
def joinTo (a b : List Int) (k : Nat) : List Int := (List.range 4).map fun j => if j < k then mx (nth a j) (nth b j) else nth a j
def joinL (a b : List Int) : List Int := joinTo a b 4
@[go_sem] theorem len_joinTo (a b : List Int) (k : Nat) : (joinTo a b k).length = 4 := by simp [joinTo]
theorem joinTo_zero (a b : List Int) (ha : a.length = 4) : joinTo a b 0 = a := by
  match a, ha with
  | [x, y, z, t], _ => rfl
theorem nth_joinTo (a b : List Int) (k j : Nat) (hj : j < 4) : nth (joinTo a b k) j = if j < k then mx (nth a j) (nth b j) else nth a j := by
  rw [nth_eq (by rw [len_joinTo]; exact hj)]
  simp [joinTo]
@[go_sem] theorem nth_joinTo_self (a b : List Int) (k : Nat) (hk : k < 4) : nth (joinTo a b k) k = nth a k := by
  rw [nth_joinTo a b k k hk, if_neg (by omega)]
theorem joinTo_succ (a b : List Int) (k : Nat) (hk : k < 4) : (joinTo a b k).set k (mx (nth a k) (nth b k)) = joinTo a b (k + 1) := by
  apply List.ext_getElem
  · rw [List.length_set, len_joinTo, len_joinTo]
  · intro i h1 h2
    have hi : i < 4 := by rw [len_joinTo] at h2; exact h2
    rw [← nth_eq h1, ← nth_eq h2, nth_set (by rw [len_joinTo]; exact hk), nth_joinTo _ _ _ _ hi, nth_joinTo _ _ _ _ hi]
    by_cases h3 : k = i
    · subst h3; rw [if_pos rfl, if_pos (by omega)]
    · rw [if_neg h3]
      by_cases h4 : i < k
      · rw [if_pos h4, if_pos (by omega)]
      · rw [if_neg h4, if_neg (by omega)]
def z4 : List Int := [0, 0, 0, 0]
@[simp high] theorem zero_vec (w : World) : (zeroValue 22).run Try.prog w = .ok (.agg (A z4)) w := Try.zeroValue22 w
theorem Join_any (a b : List Int) (ha : a.length = 4) (hb : b.length = 4) (w : World) : Calls Try.prog 15 #[.agg (A a), .agg (A b)] w fun e w' => e = .returned (.agg (A (joinL a b))) ∧ Adds w w' := by
  have hz : z4.length = 4 := rfl
  go_enter Try.func15, Try.ntmps15
  go_wp2_with fail
  go_loopw [6] (fun i wr => ∃ k : Nat, k ≤ 4 ∧ i = .int .i64 k ∧ ∃ nd os, wr = more (((w.alloc (.cells (A (joinTo a b k)) 22)).alloc (.cells (A b) 22)).alloc (.cells (A z4) 22)) nd os) (fun i _ => 4 - (intOf i).toNat)
  case atStart => exact ⟨0, Nat.zero_le _, rfl, 0, [], by rw [joinTo_zero a b ha, more_zero]⟩
  case round =>
    obtain ⟨k, hk, rfl, nd, os, rfl⟩ := hrel
    by_cases hlt : k < 4
    · go_wp2_with fail
      go_still_tail 9, (by kernel_rfl)
      change wpList _ _ _ _ _ (World.drew (more _ nd os))
      rw [more_drew]
      go_wp2_with fail
      go_roundw
      case rel => exact ⟨k + 1, by omega, by go_num, nd + 1, os, by rw [joinTo_succ a b k hlt]⟩
      case measure => simp [intOf]; omega
    · obtain rfl : k = 4 := by omega
      go_wp2_with fail
      refine ret_agg (ty := 22) (p := 4) (n := 4) (g := w.heap.size + 1 + 1) rfl Try.isAgg22 Try.sizeOf22 rfl ?_ ?_ rfl ⟨rfl, ?_⟩
      · simp [joinL, size_A, len_joinTo]
      · go_simp
        rfl
      · exact ((((Adds.refl _).alloc _).alloc _).alloc _).more _ _
/-- Does the one cover the other? -/
def covers (a b : List Int) : Bool := joinL a b == a
set_option maxHeartbeats 2000000 in
theorem Covers_any (a b : List Int) (ha : a.length = 4) (hb : b.length = 4) (w : World) : Calls Try.prog 16 #[.agg (A a), .agg (A b)] w fun e w' => e = .returned (.bool (covers a b)) ∧ Adds w w' := by
  have hj : (joinL a b).length = 4 := len_joinTo a b 4
  go_enter Try.func16, Try.ntmps16
  go_wp2_with fail
  go_region_with (go_at_call 15; refine (Join_any a b ha hb _).mono ?_; rintro e w1 ⟨rfl, nd, os, rfl⟩)
  all_goals
    go_wp2_with fail
    go_ret
    exact ⟨rfl, (by repeat (first | exact Adds.refl _ | apply Adds.more | apply Adds.alloc | apply Adds.drewN | apply Adds.drew))⟩
end Go.Proofs.Ytikhhmdmmgkakaa
