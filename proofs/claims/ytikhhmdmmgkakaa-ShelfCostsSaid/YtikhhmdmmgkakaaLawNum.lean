/-
  The statements of layer 1 walk: NumTells, NumSums, NumClamps return true. Conditions: the numbers fit their kinds; of a slice, that its cells hold the numbers.
-/
import Derived.Test.YtikhhmdmmgkakaaOpen
namespace Go.Proofs.Ytikhhmdmmgkakaa
open Go.RowKit

/-- The number, if it fits; else 0. -/
def fitv (x : Int) : Int := if I64 x then x else 0
def fitb (x : Int) : Bool := decide (I64 x)
theorem fitv_yes {x : Int} (h : I64 x) : fitv x = x := if_pos h
theorem fitv_no {x : Int} (h : ¬ I64 x) : fitv x = 0 := if_neg h
theorem fitb_yes {x : Int} (h : I64 x) : fitb x = true := decide_eq_true h
theorem fitb_no {x : Int} (h : ¬ I64 x) : fitb x = false := decide_eq_false h
theorem res_yes {x : Int} (h : I64 x) : Ending.returned (.tuple #[.int .i64 x, .bool true]) = .returned (.tuple #[.int .i64 (fitv x), .bool (fitb x)]) := by rw [fitv_yes h, fitb_yes h]
theorem res_no {x : Int} (h : ¬ I64 x) : Ending.returned (.tuple #[.int .i64 0, .bool false]) = .returned (.tuple #[.int .i64 (fitv x), .bool (fitb x)]) := by rw [fitv_no h, fitb_no h]
theorem lawadd (a b : Int) (w : World) (ha : I64 a) (hb : I64 b) :
    Calls Try.prog 28 #[.int .i64 a, .int .i64 b] w fun e w' => e = .returned (.tuple #[.int .i64 (fitv (a + b)), .bool (fitb (a + b))]) ∧ w = w' := by
  unfold I64 at *
  by_cases h0 : 0 < b
  · by_cases h1 : 9223372036854775807 - b < a
    · go_enter Try.func28, Try.ntmps28
      go_wp2
      go_ret2
      exact ⟨by first | exact res_yes (by unfold I64; omega) | exact res_no (by unfold I64; omega), rfl⟩
    · go_enter Try.func28, Try.ntmps28
      have h2 : ¬ b < 0 := by omega
      go_wp2
      go_ret2
      exact ⟨by first | exact res_yes (by unfold I64; omega) | exact res_no (by unfold I64; omega), rfl⟩
  · by_cases h2 : b < 0
    · by_cases h1 : a < -9223372036854775808 - b
      · go_enter Try.func28, Try.ntmps28
        go_wp2
        go_ret2
        exact ⟨by first | exact res_yes (by unfold I64; omega) | exact res_no (by unfold I64; omega), rfl⟩
      · go_enter Try.func28, Try.ntmps28
        go_wp2
        go_ret2
        exact ⟨by first | exact res_yes (by unfold I64; omega) | exact res_no (by unfold I64; omega), rfl⟩
    · go_enter Try.func28, Try.ntmps28
      go_wp2
      go_ret2
      exact ⟨by first | exact res_yes (by unfold I64; omega) | exact res_no (by unfold I64; omega), rfl⟩
theorem lawsub (a b : Int) (w : World) (ha : I64 a) (hb : I64 b) :
    Calls Try.prog 33 #[.int .i64 a, .int .i64 b] w fun e w' => e = .returned (.tuple #[.int .i64 (fitv (a - b)), .bool (fitb (a - b))]) ∧ w = w' := by
  unfold I64 at *
  by_cases h0 : b < 0
  · by_cases h1 : 9223372036854775807 + b < a
    · go_enter Try.func33, Try.ntmps33
      go_wp2
      go_ret2
      exact ⟨by first | exact res_yes (by unfold I64; omega) | exact res_no (by unfold I64; omega), rfl⟩
    · have h2 : ¬ 0 < b := by omega
      go_enter Try.func33, Try.ntmps33
      go_wp2
      go_ret2
      exact ⟨by first | exact res_yes (by unfold I64; omega) | exact res_no (by unfold I64; omega), rfl⟩
  · by_cases h2 : 0 < b
    · by_cases h1 : a < -9223372036854775808 + b
      · go_enter Try.func33, Try.ntmps33
        go_wp2
        go_ret2
        exact ⟨by first | exact res_yes (by unfold I64; omega) | exact res_no (by unfold I64; omega), rfl⟩
      · go_enter Try.func33, Try.ntmps33
        go_wp2
        go_ret2
        exact ⟨by first | exact res_yes (by unfold I64; omega) | exact res_no (by unfold I64; omega), rfl⟩
    · go_enter Try.func33, Try.ntmps33
      go_wp2
      go_ret2
      exact ⟨by first | exact res_yes (by unfold I64; omega) | exact res_no (by unfold I64; omega), rfl⟩
theorem Add_any (a b : Int) (w : World) (ha : I64 a) (hb : I64 b) :
    Calls Try.prog 31 #[.int .i64 a, .int .i64 b] w fun e w' => e = .returned (.tuple #[.int .i64 (fitv (a + b)), .bool (fitb (a + b))]) ∧ w = w' := by
  by_cases h : I64 (a + b)
  · rw [fitv_yes h, fitb_yes h]
    exact Add_yes a b w h
  · rw [fitv_no h, fitb_no h]
    exact Add_no a b w ha hb h
theorem Sub_any (a b : Int) (w : World) (ha : I64 a) (hb : I64 b) :
    Calls Try.prog 32 #[.int .i64 a, .int .i64 b] w fun e w' => e = .returned (.tuple #[.int .i64 (fitv (a - b)), .bool (fitb (a - b))]) ∧ w = w' := by
  by_cases h : I64 (a - b)
  · rw [fitv_yes h, fitb_yes h]
    obtain ⟨h1, h2⟩ := h
    by_cases ha : a < 0 <;> by_cases hb : b < 0 <;> by_cases hc : a - b < 0
    all_goals first | (exfalso; omega) | skip
    all_goals
      go_enter Try.func32, Try.ntmps32
      go_wp2
      go_ret2
      exact ⟨rfl, rfl⟩
  · rw [fitv_no h, fitb_no h]
    unfold I64 at *
    by_cases h' : a < 0
    · have hw : ¬ wrap64 (a - b) < 0 := by unfold wrap64; omega
      have hb : ¬ b < 0 := by omega
      clear h
      go_enter Try.func32, Try.ntmps32
      go_wp2
      go_ret2
      exact ⟨rfl, rfl⟩
    · have hw : wrap64 (a - b) < 0 := by unfold wrap64; omega
      have hb : b < 0 := by omega
      clear h
      go_enter Try.func32, Try.ntmps32
      go_wp2
      go_ret2
      exact ⟨rfl, rfl⟩
theorem Mul_any (a b : Int) (w : World) (ha : I64 a) (hb : I64 b) :
    Calls Try.prog 34 #[.int .i64 a, .int .i64 b] w fun e w' => e = .returned (.tuple #[.int .i64 (fitv (a * b)), .bool (fitb (a * b))]) ∧ w = w' := by
  by_cases h : I64 (a * b)
  · rw [fitv_yes h, fitb_yes h]
    exact Mul_yes a b w ha hb h
  · rw [fitv_no h, fitb_no h]
    exact Mul_no a b w ha hb h

/-- Of a sum of many: the sum and true, if there is one behind each; else 0 and false. -/
def sumR : Int → List Int → Int × Bool
  | s, [] => (s, true)
  | s, x :: l => if I64 (s + x) then sumR (s + x) l else (0, false)
/-- A slice of numbers in memory. -/
def IntS (w : World) (a : Option Addr) (L : List Int) : Prop :=
  ∀ i, i < L.length → ∃ b off, a = some ⟨b, off, none⟩ ∧ w.cell? ⟨b, off + i, none⟩ = some (.int .i64 (L.getD i 0))
theorem sumR_step (s : Int) (L : List Int) (k : Nat) (h : k < L.length) : sumR s (L.drop k) = if I64 (s + L.getD k 0) then sumR (s + L.getD k 0) (L.drop (k + 1)) else (0, false) := by
  rw [List.drop_eq_getElem_cons h]
  simp [sumR, h]
theorem getD_mem {L : List Int} {k : Nat} (h : k < L.length) : L.getD k 0 ∈ L := by simp [h]
theorem sum_congr {x y : Int × Bool} (h : x = y) : Ending.returned (.tuple #[.int .i64 x.1, .bool x.2]) = .returned (.tuple #[.int .i64 y.1, .bool y.2]) := by rw [h]
set_option maxHeartbeats 400000 in
theorem Sum_any (a : Option Addr) (c : Nat) (L : List Int) (w : World) (hs : IntS w a L) (hm : L.length ≤ 9223372036854775807) (hw : ∀ x ∈ L, I64 x) :
    Calls Try.prog 27 #[.slice a L.length c] w fun e w' => e = .returned (.tuple #[.int .i64 (sumR 0 L).1, .bool (sumR 0 L).2]) ∧ w = w' := by
  have Hs := Lib.hid hs
  have Hw := Lib.hid hw
  clear hs hw
  go_enter Try.func27, Try.ntmps27
  go_wp2_with fail
  go_loop [4, 11] (fun s i => ∃ (k : Nat) (z : Int), k ≤ L.length ∧ i = .int .i64 k ∧ s = .int .i64 z ∧ I64 z ∧ Hid (sumR 0 L = sumR z (L.drop k))) (fun _ i => L.length - (intOf i).toNat)
  case atStart => exact ⟨0, 0, Nat.zero_le _, rfl, rfl, by decide, by simp [Hid]⟩
  case round =>
    obtain ⟨k, z, hk, rfl, rfl, hz, hsum⟩ := hrel
    by_cases hlt : k < L.length
    · obtain ⟨b, off, rfl, hc⟩ := Hs.out k hlt
      have hx := Hw.out _ (getD_mem hlt)
      have hst := Lib.hid (sumR_step z L k hlt)
      have HX := Lib.hid hx
      have HZ := Lib.hid hz
      clear hx hz
      generalize L.getD k 0 = x at *
      by_cases hq : I64 (z + x)
      · have HQ := Lib.hid hq
        clear hq
        go_wp2_with fail
        refine (Add_yes z x _ HQ.out).mono ?_
        rintro e w1 ⟨rfl, rfl⟩
        go_wp2_with fail
        go_round
        case rel => exact ⟨k + 1, z + x, by omega, by go_num, rfl, HQ.out, by have := hst.out; rw [if_pos HQ.out] at this; exact hsum.out.trans this⟩
        case measure => simp [intOf]; omega
      · have HQ := Lib.hid hq
        clear hq
        go_wp2_with fail
        refine (Add_no z x _ HZ.out HX.out HQ.out).mono ?_
        rintro e w1 ⟨rfl, rfl⟩
        go_wp2_with fail
        go_ret2
        refine ⟨?_, rfl⟩
        have := hst.out
        rw [if_neg HQ.out] at this
        rw [hsum.out, this]
        rfl
    · have : L.drop k = [] := List.drop_eq_nil_of_le (by omega)
      have H2 := Lib.hid this
      clear this
      go_wp2_with fail
      go_ret2
      refine ⟨?_, rfl⟩
      rw [hsum.out, H2.out]
      rfl
theorem Clamp_lo (n lo hi : Int) (w : World) (h : n < lo) : Calls Try.prog 29 #[.int .i64 n, .int .i64 lo, .int .i64 hi] w fun e w' => e = .returned (.int .i64 lo) ∧ w = w' := by
  go_enter Try.func29, Try.ntmps29
  go_wp2
  go_ret
  exact ⟨rfl, rfl⟩
theorem Clamp_hi (n lo hi : Int) (w : World) (h : ¬ n < lo) (h' : hi < n) : Calls Try.prog 29 #[.int .i64 n, .int .i64 lo, .int .i64 hi] w fun e w' => e = .returned (.int .i64 hi) ∧ w = w' := by
  go_enter Try.func29, Try.ntmps29
  go_wp2
  go_ret
  exact ⟨rfl, rfl⟩
theorem Clamp_in (n lo hi : Int) (w : World) (h : ¬ n < lo) (h' : ¬ hi < n) : Calls Try.prog 29 #[.int .i64 n, .int .i64 lo, .int .i64 hi] w fun e w' => e = .returned (.int .i64 n) ∧ w = w' := by
  go_enter Try.func29, Try.ntmps29
  go_wp2
  go_ret
  exact ⟨rfl, rfl⟩
theorem alive01 (w : World) : Calls Try.prog 26 #[] w fun e w' => e = .returned (.bool true) ∧ Adds w w' := by
  go_enter Try.func26, Try.ntmps26
  go_wp2_with fail
  refine (Add_yes 1 2 _ (by decide)).mono ?_
  rintro e w1 ⟨rfl, rfl⟩
  go_wp2_with fail
  refine (Mul_no 4611686018427387904 4 _ (by decide) (by decide) (by decide)).mono ?_
  rintro e w1 ⟨rfl, rfl⟩
  go_wp2_with fail
  have h6 : sumR 0 [1, 2, 3] = (6, true) := by decide
  have c := Sum_any (some ⟨w.heap.size, 0, none⟩) 3 [1, 2, 3] (w.alloc (.cells #[.int .i64 1, .int .i64 2, .int .i64 3] 2)) (by
    intro i hi
    refine ⟨w.heap.size, 0, rfl, ?_⟩
    match i, hi with
    | 0, _ => simp
    | 1, _ => simp
    | 2, _ => simp) (by decide) (by decide)
  rw [h6] at c
  have C := Lib.hid c
  clear c h6
  refine C.out.mono ?_
  rintro e w1 ⟨rfl, rfl⟩
  go_wp2
  go_ret
  exact ⟨rfl, (Adds.refl _).alloc _⟩
theorem NumClamps_walk (w : World) (n : Int) (_hn : I64 n) (lo : Int) (_hlo : I64 lo) (hi : Int) (_hhi : I64 hi) : Calls Try.prog 9 #[.int .i64 n, .int .i64 lo, .int .i64 hi] w fun e w' => e = .returned (.bool true) ∧ Adds w w' := by
  unfold I64 at *
  by_cases h1 : n < lo
  · go_enter Try.func9, Try.ntmps9
    go_wp2_with fail
    refine (alive01 _).mono ?_
    rintro e w1 ⟨rfl, hw⟩
    go_wp2_with fail
    refine (Clamp_lo n lo hi _ h1).mono ?_
    rintro e w2 ⟨rfl, rfl⟩
    go_wp2_with fail
    refine (In_no n lo hi _ (by omega)).mono ?_
    rintro e w2 ⟨rfl, rfl⟩
    go_wp2_with fail
    go_ret
    exact ⟨by simp, hw⟩
  · by_cases h2 : hi < n
    · go_enter Try.func9, Try.ntmps9
      go_wp2_with fail
      refine (alive01 _).mono ?_
      rintro e w1 ⟨rfl, hw⟩
      go_wp2_with fail
      refine (Clamp_hi n lo hi _ (by omega) h2).mono ?_
      rintro e w2 ⟨rfl, rfl⟩
      go_wp2_with fail
      refine (In_no n lo hi _ (by omega)).mono ?_
      rintro e w2 ⟨rfl, rfl⟩
      go_wp2_with fail
      go_ret
      exact ⟨by simp, hw⟩
    · go_enter Try.func9, Try.ntmps9
      go_wp2_with fail
      refine (alive01 _).mono ?_
      rintro e w1 ⟨rfl, hw⟩
      go_wp2_with fail
      refine (Clamp_in n lo hi _ (by omega) (by omega)).mono ?_
      rintro e w2 ⟨rfl, rfl⟩
      go_wp2_with fail
      refine (In_yes n lo hi _ (by omega) (by omega)).mono ?_
      rintro e w2 ⟨rfl, rfl⟩
      go_wp2_with fail
      go_ret
      exact ⟨by simp, hw⟩

theorem wrap_in {x : Int} (h : I64 x) : wrap64 x = x := by
  unfold I64 at h
  unfold wrap64
  omega
theorem quo_yes {a b : Int} (hb : ¬ b = 0) (ha : I64 a) : (wrap64 ((a * b).tdiv b) != a) = false := by
  rw [Int.mul_tdiv_cancel a hb, wrap_in ha]
  simp
theorem quo_no {a b : Int} (hb : ¬ b = 0) (hb1 : ¬ b = -1) (ha : I64 a) (hb2 : I64 b) (h : ¬ I64 (a * b)) : (wrap64 ((wrap64 (a * b)).tdiv b) != a) = true := by
  rw [bne_iff_ne]
  intro hq
  have hp : I64 (wrap64 (a * b)) := by unfold I64 wrap64; omega
  have h1 := Int.mul_tdiv_add_tmod (wrap64 (a * b)) b
  have h2 := Int.natAbs_tdiv_le_natAbs (wrap64 (a * b)) b
  have h3 : ((wrap64 (a * b)).tmod b).natAbs < b.natAbs := by
    rw [Int.natAbs_tmod]
    exact Nat.mod_lt _ (by omega)
  have h4 : wrap64 (a * b) = a * b ∨ wrap64 (a * b) ≤ a * b - 18446744073709551616 ∨ a * b + 18446744073709551616 ≤ wrap64 (a * b) := by unfold wrap64; omega
  generalize wrap64 (a * b) = p at *
  generalize p.tdiv b = q at *
  generalize p.tmod b = r at *
  unfold I64 at *
  have h5 : q = a ∨ q = 9223372036854775808 := by unfold wrap64 at hq; omega
  rcases h5 with rfl | rfl
  · rw [Int.mul_comm] at h1
    generalize q * b = m at *
    omega
  · omega
theorem lawmul (a b : Int) (w : World) (ha : I64 a) (hb : I64 b) :
    Calls Try.prog 35 #[.int .i64 a, .int .i64 b] w fun e w' => e = .returned (.tuple #[.int .i64 (fitv (a * b)), .bool (fitb (a * b))]) ∧ w = w' := by
  by_cases h0 : a = 0
  · subst h0
    have h : I64 (0 * b) := by unfold I64; omega
    rw [fitv_yes h, fitb_yes h, Int.zero_mul]
    clear h
    go_enter Try.func35, Try.ntmps35
    go_wp2_with fail
    go_ret2
    exact ⟨rfl, rfl⟩
  by_cases h1 : b = 0
  · subst h1
    have h : I64 (a * 0) := by unfold I64; omega
    rw [fitv_yes h, fitb_yes h, Int.mul_zero]
    have k0 : (a == 0) = false := by simpa using h0
    clear h h0
    go_enter Try.func35, Try.ntmps35
    go_wp2_with fail
    go_ret2
    exact ⟨rfl, rfl⟩
  have k0 : (a == 0) = false := by simpa using h0
  have k1 : (b == 0) = false := by simpa using h1
  by_cases h2 : a = -1
  · subst h2
    have e : -1 * b = 0 - b := by omega
    rw [e]
    have HB := Lib.hid hb
    clear e k0 h0 h1 ha hb
    go_enter Try.func35, Try.ntmps35
    go_wp2_with fail
    refine (lawsub 0 b _ (by decide) HB.out).mono ?_
    rintro e w1 ⟨rfl, rfl⟩
    go_wp2_with fail
    go_ret2
    exact ⟨by simp, rfl⟩
  by_cases h3 : b = -1
  · subst h3
    have e : a * -1 = 0 - a := by omega
    rw [e]
    have k2 : (a == -1) = false := by simpa using h2
    have HA := Lib.hid ha
    clear e k1 h0 h1 h2 ha hb
    go_enter Try.func35, Try.ntmps35
    go_wp2_with fail
    refine (lawsub 0 a _ (by decide) HA.out).mono ?_
    rintro e w1 ⟨rfl, rfl⟩
    go_wp2_with fail
    go_ret2
    exact ⟨by simp, rfl⟩
  have k2 : (a == -1) = false := by simpa using h2
  have k3 : (b == -1) = false := by simpa using h3
  have H1 := Lib.hid h1
  have H3 := Lib.hid h3
  have HA := Lib.hid ha
  have HB := Lib.hid hb
  clear h0 h1 h2 h3 ha hb
  by_cases h : I64 (a * b)
  · rw [fitv_yes h, fitb_yes h]
    have hq := quo_yes H1.out HA.out
    have hw := wrap_in h
    have hwa := wrap_in HA.out
    clear h
    go_enter Try.func35, Try.ntmps35
    go_wp2_with fail
    go_ret2
    exact ⟨rfl, rfl⟩
  · rw [fitv_no h, fitb_no h]
    have hq := quo_no H1.out H3.out HA.out HB.out h
    clear h
    go_enter Try.func35, Try.ntmps35
    go_wp2_with fail
    go_ret2
    exact ⟨rfl, rfl⟩
theorem eq_self' (x : Int) : (x == x) = true := by simp
theorem NumTells_walk (w : World) (a : Int) (ha : I64 a) (b : Int) (hb : I64 b) : Calls Try.prog 10 #[.int .i64 a, .int .i64 b] w fun e w' => e = .returned (.bool true) ∧ Adds w w' := by
  have HA := Lib.hid ha
  have HB := Lib.hid hb
  clear ha hb
  go_enter Try.func10, Try.ntmps10
  go_wp2_with fail
  refine (alive01 _).mono ?_
  rintro e w1 ⟨rfl, hw⟩
  have HW := Lib.hid hw
  clear hw
  go_wp2_with fail
  refine (Add_any a b _ HA.out HB.out).mono ?_
  rintro e w2 ⟨rfl, rfl⟩
  go_wp2_with fail
  refine (lawadd a b _ HA.out HB.out).mono ?_
  rintro e w2 ⟨rfl, rfl⟩
  go_wp2_with fail
  refine (Sub_any a b _ HA.out HB.out).mono ?_
  rintro e w2 ⟨rfl, rfl⟩
  go_wp2_with fail
  refine (lawsub a b _ HA.out HB.out).mono ?_
  rintro e w2 ⟨rfl, rfl⟩
  go_wp2_with fail
  refine (Mul_any a b _ HA.out HB.out).mono ?_
  rintro e w2 ⟨rfl, rfl⟩
  go_wp2_with fail
  refine (lawmul a b _ HA.out HB.out).mono ?_
  rintro e w2 ⟨rfl, rfl⟩
  go_wp2_with fail
  go_ret
  exact ⟨by simp, HW.out⟩
/-- The law's own loop: what it wants behind k numbers. -/
theorem NumSums_walk (a : Option Addr) (c : Nat) (L : List Int) (w : World) (hs : ∀ w', Adds w w' → IntS w' a L) (hm : L.length ≤ 9223372036854775807) (hw : ∀ x ∈ L, I64 x) :
    Calls Try.prog 8 #[.slice a L.length c] w fun e w' => e = .returned (.bool true) ∧ Adds w w' := by
  have Hs := Lib.hid hs
  have Hw := Lib.hid hw
  clear hs hw
  go_enter Try.func8, Try.ntmps8
  go_wp2_with fail
  refine (alive01 _).mono ?_
  rintro e w1 ⟨rfl, hw⟩
  have HW := Lib.hid hw
  have Hs1 := Lib.hid (Hs.out w1 hw)
  clear hw
  go_wp2_with fail
  refine (Sum_any a c L w1 Hs1.out hm Hw.out).mono ?_
  rintro e w2 ⟨rfl, rfl⟩
  generalize hr : sumR 0 L = r
  have HR := Lib.hid hr
  clear hr
  go_wp2_with fail
  go_loop [5, 6, 7] (fun s i k => ∃ (j : Nat) (z : Int) (b : Bool), j ≤ L.length ∧ k = .int .i64 j ∧ s = .int .i64 z ∧ i = .bool b ∧ I64 z ∧ Hid (if b then r = sumR z (L.drop j) else r = (z, false))) (fun _ _ i => L.length - (intOf i).toNat)
  case atStart => exact ⟨0, 0, true, Nat.zero_le _, rfl, rfl, rfl, by decide, by simp [Hid, HR.out]⟩
  case round =>
    obtain ⟨j, z, b, hj, rfl, rfl, rfl, hz, hsum⟩ := hrel
    have HZ := Lib.hid hz
    clear hz
    cases b with
    | false =>
      obtain rfl : r = (z, false) := hsum.out
      by_cases hlt : j < L.length
      all_goals
        go_wp2_with fail
        go_ret
        exact ⟨by simp, HW.out⟩
    | true =>
      by_cases hlt : j < L.length
      · obtain ⟨bb, off, rfl, hc⟩ := Hs1.out j hlt
        have HX := Lib.hid (Hw.out _ (getD_mem hlt))
        have hst := Lib.hid (sumR_step z L j hlt)
        generalize L.getD j 0 = x at *
        go_wp2_with fail
        refine (lawadd z x _ HZ.out HX.out).mono ?_
        rintro e w1 ⟨rfl, rfl⟩
        go_wp2_with fail
        go_round
        case rel =>
          refine ⟨j + 1, fitv (z + x), fitb (z + x), by omega, by go_num, rfl, rfl, ?_, ?_⟩
          · unfold fitv
            split
            · assumption
            · decide
          · have h2 := hst.out
            have h3 := hsum.out
            unfold fitv fitb Hid
            by_cases hq : I64 (z + x)
            · rw [if_pos hq] at h2
              simp only [hq, decide_true, if_true]
              exact h3.trans h2
            · rw [if_neg hq] at h2
              simp only [hq, decide_false, if_false]
              exact h3.trans h2
        case measure => simp [intOf]; omega
      · have hd : L.drop j = [] := List.drop_eq_nil_of_le (by omega)
        obtain rfl : r = (z, true) := by have := hsum.out; rw [hd] at this; exact this
        clear hd
        go_wp2_with fail
        go_ret
        exact ⟨by simp, HW.out⟩
theorem list_getD (L : List (List Int)) (i : Nat) : (L.map (·.headD 0)).getD i 0 = (el L i).headD 0 := by
  simp only [el, List.getD_eq_getElem?_getD, List.getElem?_map]
  cases L[i]? <;> simp
theorem NumSums_w (W : World) (a : Option Addr) (cap : Nat) (L : List (List Int)) (h1 : L.length ≤ cap) (h2 : cap ≤ maxLen) (h : SlK W.heap.size 1 W a L) :
    Calls Try.prog 8 #[.slice a L.length cap] W fun e w' => e = .returned (.bool true) ∧ Adds W w' := by
  unfold maxLen at h2
  have hl : L.length = (L.map (·.headD 0)).length := by simp
  rw [hl]
  refine NumSums_walk a cap _ W ?_ (by simp; omega) ?_
  · intro w' hw i hi
    obtain ⟨b, off, h3, h4, h5, h6⟩ := (h.below hw.below).2 i (by simpa using hi)
    refine ⟨b, off, h3, ?_⟩
    have hx := (h.1 (el L i) (el_mem (by rw [← hl] at hi; exact hi))).1
    rw [list_getD]
    generalize el L i = l at *
    obtain ⟨x, rfl⟩ := List.length_eq_one_iff.1 hx
    have := congrArg (·[0]?) h6
    simp only [Array.getElem?_extract, get_A] at this
    rw [if_pos (by omega)] at this
    rw [cell?_row]
    simpa using this
  · intro x hx
    simp only [List.mem_map] at hx
    obtain ⟨l, hl', rfl⟩ := hx
    have hx := h.1 l hl'
    obtain ⟨y, rfl⟩ := List.length_eq_one_iff.1 hx.1
    exact hx.2 y (by simp)
end Go.Proofs.Ytikhhmdmmgkakaa
