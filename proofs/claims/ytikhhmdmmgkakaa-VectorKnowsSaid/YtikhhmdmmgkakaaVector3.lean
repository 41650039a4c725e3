/-
  vector.Has, Next, and the law's own example. Conditions: every contract names its own.
-/
import Derived.Test.YtikhhmdmmgkakaaVector2
import Derived.Lib.Hide
namespace Go.Proofs.Ytikhhmdmmgkakaa
open Go.RowKit
set_option linter.unusedVariables false

theorem ret_bool {a b : Bool} (h : a = b) : Ending.returned (.bool a) = .returned (.bool b) := by rw [h]
theorem thereq_yes (r : Int) (w : World) (h1 : 0 ≤ r) (h2 : r < 4) : Calls Try.prog 46 #[.int .i64 r] w fun e w' => e = .returned (.bool true) ∧ w' = w :=
  (there_yes r w h1 h2).mono fun _ _ ⟨a, b⟩ => ⟨a, b.symm⟩
theorem thereq_no (r : Int) (w : World) (h : r < 0 ∨ 4 ≤ r) : Calls Try.prog 46 #[.int .i64 r] w fun e w' => e = .returned (.bool false) ∧ w' = w :=
  (there_no r w h).mono fun _ _ ⟨a, b⟩ => ⟨a, b.symm⟩
def hasB (v q : List Int) : Bool := decide (0 ≤ nth q 0 ∧ nth q 0 < 4 ∧ 1 ≤ nth q 1 ∧ nth q 1 ≤ nth v (nth q 0).toNat)
theorem Has_any (v q : List Int) (hv : v.length = 4) (hq : q.length = 2) (w : World) : Calls Try.prog 44 #[.agg (A v), .agg (A q)] w fun e w' => e = .returned (.bool (hasB v q)) ∧ Adds w w' := by
  by_cases h1 : 0 ≤ nth q 0 ∧ nth q 0 < 4
  · obtain ⟨r0, r1⟩ := h1
    by_cases h2 : 1 ≤ nth q 1
    · have r2 : (nth q 0).toNat < 4 := by omega
      have hf := Lib.hid (show decide (nth q 1 ≤ nth v (nth q 0).toNat) = hasB v q by simp [hasB, r0, r1, h2])
      have k1 : decide (1 ≤ nth q 1) = true := by simpa using h2
      go_enter Try.func44, Try.ntmps44
      go_wp2_with fail
      go_quiet ((go_at_call 46; exact Calls.quiet_of_same (thereq_yes _ _ r0 r1)))
      go_wp2_with fail
      go_ret
      exact ⟨ret_bool hf.out, ((((Adds.refl _).alloc _).alloc _).drewN _)⟩
    · have hf := Lib.hid (show false = hasB v q by simp [hasB]; intros; omega)
      have k1 : decide (1 ≤ nth q 1) = false := by simp; omega
      go_enter Try.func44, Try.ntmps44
      go_wp2_with fail
      go_quiet ((go_at_call 46; exact Calls.quiet_of_same (thereq_yes _ _ r0 r1)))
      go_wp2_with fail
      go_ret
      exact ⟨ret_bool hf.out, ((((Adds.refl _).alloc _).alloc _).drewN _)⟩
  · have hf := Lib.hid (show false = hasB v q by simp [hasB]; intros; omega)
    have h2 := Lib.hid (show nth q 0 < 0 ∨ 4 ≤ nth q 0 by omega)
    clear h1
    go_enter Try.func44, Try.ntmps44
    go_wp2_with fail
    go_quiet ((go_at_call 46; exact Calls.quiet_of_same (thereq_no _ _ h2.out)))
    go_wp2_with fail
    go_ret
    exact ⟨ret_bool hf.out, ((((Adds.refl _).alloc _).alloc _).drewN _)⟩
theorem Next_ok (v : List Int) (hv : v.length = 4) (r : Int) (r0 : 0 ≤ r) (r1 : r < 4) (hx : I64 (nth v r.toNat)) (h : nth v r.toNat < 65535) (w : World) :
    Calls Try.prog 45 #[.agg (A v), .int .i64 r] w fun e w' => e = .returned (.agg (A [r, nth v r.toNat + 1])) ∧ Adds w w' := by
  have r2 : r.toNat < 4 := by omega
  obtain ⟨h1, h2⟩ := hx
  go_enter Try.func45, Try.ntmps45
  go_wp2_with fail
  refine (there_yes _ _ r0 r1).mono ?_
  rintro e w1 ⟨rfl, rfl⟩
  go_wp2_with fail
  refine ret_agg (ty := 32) (p := 4) (n := 2) (g := w.heap.size + 1) rfl Try.isAgg32 Try.sizeOf32 rfl ?_ ?_ rfl ⟨rfl, ?_⟩
  · rfl
  · go_simp
  · exact ((Adds.refl _).alloc _).alloc _
theorem of_ex : ofL [[1, 2, 0, 0, 0, 0, 0, 0, 0], [1, 1, 0, 0, 0, 0, 0, 0, 0]] = [0, 2, 0, 0] := by decide +kernel
theorem alive08 (w : World) : Calls Try.prog 14 #[] w fun e w' => e = .returned (.bool true) ∧ Adds w w' := by
  have C1 : Hid (∀ W : World, W.heap.size = w.heap.size + 1 → row W w.heap.size = A [1, 2, 0, 0, 0, 0, 0, 0, 0, 1, 1, 0, 0, 0, 0, 0, 0, 0] → Calls Try.prog 18 #[.slice (some ⟨w.heap.size, 0, none⟩) 2 2] W fun e w' => e = .returned (.agg (A [0, 2, 0, 0])) ∧ Adds W w') := fun W hsz hrow => by
    have := Of_any (some ⟨w.heap.size, 0, none⟩) 2 [[1, 2, 0, 0, 0, 0, 0, 0, 0], [1, 1, 0, 0, 0, 0, 0, 0, 0]] W ⟨by decide, fun i hi => ⟨w.heap.size, 0, rfl, by omega, by
      rw [hrow, size_A]
      have : i < 2 := hi
      match i, this with
      | 0, _ => decide
      | 1, _ => decide, by
      rw [hrow, extract_A]
      have : i < 2 := hi
      match i, this with
      | 0, _ => rfl
      | 1, _ => rfl⟩⟩ (by decide)
    rw [of_ex] at this
    exact this
  have C2 : Hid (∀ W, Calls Try.prog 44 #[.agg (A [0, 2, 0, 0]), .agg (A [1, 2])] W fun e w' => e = .returned (.bool true) ∧ Adds W w') := fun W => by
    have := Has_any [0, 2, 0, 0] [1, 2] rfl rfl W
    rw [show hasB [0, 2, 0, 0] [1, 2] = true from by decide] at this
    exact this
  have C3 : Hid (∀ W, Calls Try.prog 16 #[.agg (A [0, 2, 0, 0]), .agg (A [1, 0, 0, 0])] W fun e w' => e = .returned (.bool false) ∧ Adds W w') := fun W => by
    have := Covers_any [0, 2, 0, 0] [1, 0, 0, 0] rfl rfl W
    rw [show covers [0, 2, 0, 0] [1, 0, 0, 0] = false from by decide +kernel] at this
    exact this
  have C4 : Hid (∀ W, Calls Try.prog 45 #[.agg (A [0, 2, 0, 0]), .int .i64 1] W fun e w' => e = .returned (.agg (A [1, 3])) ∧ Adds W w') := fun W =>
    Next_ok [0, 2, 0, 0] rfl 1 (by decide) (by decide) (by decide) (by decide) W
  have z4e : z4 = [0, 0, 0, 0] := rfl
  go_enter Try.func14, Try.ntmps14
  go_wp2_with fail
  refine (C1.out _ ?_ ?_).mono ?_
  · simp
  · go_simp
    rfl
  rintro e w1 ⟨rfl, nd, os, rfl⟩
  go_wp2_with fail
  refine (C2.out _).mono ?_
  rintro e w1 ⟨rfl, nd, os, rfl⟩
  go_wp2_with fail
  refine (C3.out _).mono ?_
  rintro e w1 ⟨rfl, nd, os, rfl⟩
  go_wp2_with fail
  refine (C4.out _).mono ?_
  rintro e w1 ⟨rfl, nd, os, rfl⟩
  go_wp2_with fail
  go_ret
  exact ⟨by simp, (by repeat (first | exact Adds.refl _ | apply Adds.more | apply Adds.alloc | apply Adds.drewN | apply Adds.drew))⟩
end Go.Proofs.Ytikhhmdmmgkakaa
