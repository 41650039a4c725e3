/-
  The statement VectorJoins walks: it returns true. Conditions: the arguments are as told.
-/
import Derived.Test.YtikhhmdmmgkakaaVector3
namespace Go.Proofs.Ytikhhmdmmgkakaa
open Go.RowKit
set_option linter.unusedVariables false

theorem nth_joinL (a b : List Int) (j : Nat) (hj : j < 4) : nth (joinL a b) j = mx (nth a j) (nth b j) := by
  rw [joinL, nth_joinTo a b 4 j hj, if_pos hj]
theorem len_joinL (a b : List Int) : (joinL a b).length = 4 := len_joinTo a b 4
theorem covers_iff (a b : List Int) (ha : a.length = 4) : covers a b = true ↔ ∀ j, j < 4 → nth b j ≤ nth a j := by
  unfold covers
  rw [beq_iff_eq]
  constructor
  · intro h j hj
    have := nth_joinL a b j hj
    rw [h] at this
    unfold mx at this
    split at this <;> omega
  · intro h
    apply List.ext_getElem
    · rw [len_joinL, ha]
    · intro i h1 h2
      rw [← nth_eq h1, ← nth_eq h2, nth_joinL a b i (by omega)]
      have := h i (by omega)
      unfold mx
      split <;> omega
theorem covers_left (a b : List Int) : covers (joinL a b) a = true := by
  rw [covers_iff _ _ (len_joinL a b)]
  intro j hj
  rw [nth_joinL a b j hj]
  unfold mx
  split <;> omega
theorem covers_right (a b : List Int) : covers (joinL a b) b = true := by
  rw [covers_iff _ _ (len_joinL a b)]
  intro j hj
  rw [nth_joinL a b j hj]
  unfold mx
  split <;> omega
theorem covers_self (a : List Int) (ha : a.length = 4) : covers a a = true := (covers_iff a a ha).2 fun _ _ => Int.le_refl _
theorem covers_join (a b c : List Int) (hc : c.length = 4) : covers c (joinL a b) = (covers c a && covers c b) := by
  rw [Bool.eq_iff_iff, Bool.and_eq_true, covers_iff c _ hc, covers_iff c a hc, covers_iff c b hc]
  constructor
  · intro h
    refine ⟨fun j hj => ?_, fun j hj => ?_⟩
    all_goals
      have := h j hj
      rw [nth_joinL a b j hj] at this
      unfold mx at this
      split at this <;> omega
  · rintro ⟨h1, h2⟩ j hj
    have := h1 j hj
    have := h2 j hj
    rw [nth_joinL a b j hj]
    unfold mx
    split <;> omega
@[go_sem] theorem neq_self' (x : Int) : (x != x) = false := by simp
set_option maxRecDepth 100000 in
set_option maxHeartbeats 2000000 in
theorem VectorJoins_walk (w : World) (a : List Int) (ha : a.length = 4) (_xa : ∀ x ∈ a, I64 x) (b : List Int) (hb : b.length = 4) (_xb : ∀ x ∈ b, I64 x) (c : List Int) (hc : c.length = 4) (_xc : ∀ x ∈ c, I64 x) :
    Calls Try.prog 3 #[.agg (A a), .agg (A b), .agg (A c)] w fun e w' => e = .returned (.bool true) ∧ Adds w w' := by
  have hJ := Lib.hid (fun k hk => nth_joinL a b k hk)
  have hj : (joinL a b).length = 4 := len_joinL a b
  have cov : ∀ (x y : List Int) (r : Bool), x.length = 4 → y.length = 4 → covers x y = r → Hid (∀ W, Calls Try.prog 16 #[.agg (A x), .agg (A y)] W fun e w' => e = .returned (.bool r) ∧ Adds W w') := fun x y r hx hy hr W => by rw [← hr]; exact Covers_any x y hx hy W
  have K1 := cov _ _ _ hj ha (covers_left a b)
  have K2 := cov _ _ _ hj hb (covers_right a b)
  have K3 := cov _ _ _ ha ha (covers_self a ha)
  have K4 := cov c _ _ hc hj (covers_join a b c hc)
  have K5 := cov c a _ hc ha rfl
  have K6 := cov c b _ hc hb rfl
  clear cov
  have CJ : Hid (∀ W, Calls Try.prog 15 #[.agg (A a), .agg (A b)] W fun e w' => e = .returned (.agg (A (joinL a b))) ∧ Adds W w') := fun W => Join_any a b ha hb W
  generalize covers c a = p at *
  generalize covers c b = q at *
  generalize joinL a b = j at *
  have hz : z4.length = 4 := rfl
  go_enter Try.func3, Try.ntmps3
  go_wp2_with fail
  refine (alive08 _).mono ?_
  rintro e w1 ⟨rfl, nd1, os1, rfl⟩
  go_wp2_with fail
  refine (CJ.out _).mono ?_
  rintro e w1 ⟨rfl, nd2, os2, rfl⟩
  go_wp2_with fail
  go_loopw [8] (fun i wr => ∃ k n : Nat, k ≤ 4 ∧ i = .int .i64 k ∧ wr = (World.alloc (more (more (((w.alloc (.cells (A a) 22)).alloc (.cells (A b) 22)).alloc (.cells (A c) 22)) nd1 os1) nd2 os2) (.cells (A j) 22)).drewN n) (fun i _ => 4 - (intOf i).toNat)
  case atStart => exact ⟨0, 0, Nat.zero_le _, rfl, rfl⟩
  case round =>
    obtain ⟨k, n, hk, rfl, rfl⟩ := hrel
    by_cases hlt : k < 4
    · have hjk := hJ.out k hlt
      go_wp2_with fail
      go_quiet (fail)
      go_wp2_with fail
      go_roundw
      case rel => exact ⟨k + 1, _, by omega, by go_num, rfl⟩
      case measure => simp [intOf]; omega
    · cases p <;> cases q
      · go_wp2_with fail
        refine (K5.out _).mono ?_
        rintro e w1 ⟨rfl, nd, os, rfl⟩
        go_wp2_with fail
        refine (K1.out _).mono ?_
        rintro e w1 ⟨rfl, nd, os, rfl⟩
        go_wp2_with fail
        refine (K2.out _).mono ?_
        rintro e w1 ⟨rfl, nd, os, rfl⟩
        go_wp2_with fail
        refine (K3.out _).mono ?_
        rintro e w1 ⟨rfl, nd, os, rfl⟩
        go_wp2_with fail
        refine (K4.out _).mono ?_
        rintro e w1 ⟨rfl, nd, os, rfl⟩
        go_wp2_with fail
        go_ret
        exact ⟨by simp, (by repeat (first | exact Adds.refl _ | apply Adds.more | apply Adds.alloc | apply Adds.drewN | apply Adds.drew))⟩
      · go_wp2_with fail
        refine (K5.out _).mono ?_
        rintro e w1 ⟨rfl, nd, os, rfl⟩
        go_wp2_with fail
        refine (K1.out _).mono ?_
        rintro e w1 ⟨rfl, nd, os, rfl⟩
        go_wp2_with fail
        refine (K2.out _).mono ?_
        rintro e w1 ⟨rfl, nd, os, rfl⟩
        go_wp2_with fail
        refine (K3.out _).mono ?_
        rintro e w1 ⟨rfl, nd, os, rfl⟩
        go_wp2_with fail
        refine (K4.out _).mono ?_
        rintro e w1 ⟨rfl, nd, os, rfl⟩
        go_wp2_with fail
        go_ret
        exact ⟨by simp, (by repeat (first | exact Adds.refl _ | apply Adds.more | apply Adds.alloc | apply Adds.drewN | apply Adds.drew))⟩
      · go_wp2_with fail
        refine (K5.out _).mono ?_
        rintro e w1 ⟨rfl, nd, os, rfl⟩
        go_wp2_with fail
        refine (K6.out _).mono ?_
        rintro e w1 ⟨rfl, nd, os, rfl⟩
        go_wp2_with fail
        refine (K1.out _).mono ?_
        rintro e w1 ⟨rfl, nd, os, rfl⟩
        go_wp2_with fail
        refine (K2.out _).mono ?_
        rintro e w1 ⟨rfl, nd, os, rfl⟩
        go_wp2_with fail
        refine (K3.out _).mono ?_
        rintro e w1 ⟨rfl, nd, os, rfl⟩
        go_wp2_with fail
        refine (K4.out _).mono ?_
        rintro e w1 ⟨rfl, nd, os, rfl⟩
        go_wp2_with fail
        go_ret
        exact ⟨by simp, (by repeat (first | exact Adds.refl _ | apply Adds.more | apply Adds.alloc | apply Adds.drewN | apply Adds.drew))⟩
      · go_wp2_with fail
        refine (K5.out _).mono ?_
        rintro e w1 ⟨rfl, nd, os, rfl⟩
        go_wp2_with fail
        refine (K6.out _).mono ?_
        rintro e w1 ⟨rfl, nd, os, rfl⟩
        go_wp2_with fail
        refine (K1.out _).mono ?_
        rintro e w1 ⟨rfl, nd, os, rfl⟩
        go_wp2_with fail
        refine (K2.out _).mono ?_
        rintro e w1 ⟨rfl, nd, os, rfl⟩
        go_wp2_with fail
        refine (K3.out _).mono ?_
        rintro e w1 ⟨rfl, nd, os, rfl⟩
        go_wp2_with fail
        refine (K4.out _).mono ?_
        rintro e w1 ⟨rfl, nd, os, rfl⟩
        go_wp2_with fail
        go_ret
        exact ⟨by simp, (by repeat (first | exact Adds.refl _ | apply Adds.more | apply Adds.alloc | apply Adds.drewN | apply Adds.drew))⟩
end Go.Proofs.Ytikhhmdmmgkakaa
