/-
  What the functions of num return, and those of the law's own arithmetic. Conditions: every contract names its own.
-/
import Derived.Test.YtikhhmdmmgkakaaProg
import Derived.Test.YtikhhmdmmgkakaaCore2
import Derived.Lib.Mul64
import Derived.Laws.Bits64b
import Derived.Lib.Hide
namespace Go.Proofs.Ytikhhmdmmgkakaa
open Go.RowKit

/-- A number that an int64 can hold. -/
def I64 (x : Int) : Prop := -9223372036854775808 ≤ x ∧ x ≤ 9223372036854775807
instance (x : Int) : Decidable (I64 x) := by unfold I64; infer_instance

theorem In_yes (n lo hi : Int) (w : World) (h1 : lo ≤ n) (h2 : n ≤ hi) : Calls Try.prog 30 #[.int .i64 n, .int .i64 lo, .int .i64 hi] w fun e w' => e = .returned (.bool true) ∧ w = w' := by
  go_enter Try.func30, Try.ntmps30
  go_wp2
  go_ret
  exact ⟨rfl, rfl⟩
theorem In_no (n lo hi : Int) (w : World) (h : n < lo ∨ hi < n) : Calls Try.prog 30 #[.int .i64 n, .int .i64 lo, .int .i64 hi] w fun e w' => e = .returned (.bool false) ∧ w = w' := by
  by_cases h1 : lo ≤ n
  · have h2 : ¬ n ≤ hi := by omega
    go_enter Try.func30, Try.ntmps30
    go_wp2
    go_ret
    exact ⟨by simp, rfl⟩
  · go_enter Try.func30, Try.ntmps30
    go_wp2
    go_ret
    exact ⟨by simp, rfl⟩
theorem Add_yes (a b : Int) (w : World) (h : I64 (a + b)) :
    Calls Try.prog 31 #[.int .i64 a, .int .i64 b] w fun e w' => e = .returned (.tuple #[.int .i64 (a + b), .bool true]) ∧ w = w' := by
  obtain ⟨h1, h2⟩ := h
  by_cases ha : a < 0 <;> by_cases hb : b < 0 <;> by_cases hc : a + b < 0
  all_goals first | (exfalso; omega) | skip
  all_goals
    go_enter Try.func31, Try.ntmps31
    go_wp2
    go_ret2
    exact ⟨rfl, rfl⟩
theorem Add_no (a b : Int) (w : World) (ha : I64 a) (hb : I64 b) (h : ¬ I64 (a + b)) :
    Calls Try.prog 31 #[.int .i64 a, .int .i64 b] w fun e w' => e = .returned (.tuple #[.int .i64 0, .bool false]) ∧ w = w' := by
  unfold I64 at *
  by_cases h' : a < 0
  · have hw : ¬ wrap64 (a + b) < 0 := by unfold wrap64; omega
    have hb : b < 0 := by omega
    clear h
    go_enter Try.func31, Try.ntmps31
    go_wp2
    go_ret2
    exact ⟨rfl, rfl⟩
  · have hw : wrap64 (a + b) < 0 := by unfold wrap64; omega
    have hb : ¬ b < 0 := by omega
    clear h
    go_enter Try.func31, Try.ntmps31
    go_wp2
    go_ret2
    exact ⟨rfl, rfl⟩
namespace M64
theorem maskN (a : Nat) (ha : a < 18446744073709551616) : bits .and .u64 (a : Int) 4294967295 = ((a % 4294967296 : Nat) : Int) := by
  have h := bits_and_u64_nat a 4294967295 ha (by omega)
  have e : a &&& 4294967295 = a % 4294967296 := Nat.and_two_pow_sub_one_eq_mod a 32
  rw [e] at h
  exact h
theorem divN (a : Nat) : (a : Int) / 4294967296 = ((a / 4294967296 : Nat) : Int) := by omega
theorem mulN (a b : Nat) : (a : Int) * (b : Int) = ((a * b : Nat) : Int) := (Int.natCast_mul a b).symm
theorem addN (a b : Nat) : (a : Int) + (b : Int) = ((a + b : Nat) : Int) := (Int.natCast_add a b).symm
theorem wrapN (a : Nat) (ha : a < 18446744073709551616) : IntKind.u64.wrap (a : Int) = (a : Int) := by rw [IntKind.wrap_u64]; omega
theorem wrapM (a : Nat) : IntKind.u64.wrap (a : Int) = ((a % 18446744073709551616 : Nat) : Int) := by rw [IntKind.wrap_u64]; omega
end M64
set_option maxHeartbeats 1000000 in
theorem Mul64_any (x y : Nat) (hx : x < 18446744073709551616) (hy : y < 18446744073709551616) (w : World) :
    Calls Try.prog 48 #[.int .u64 x, .int .u64 y] w fun e w' => e = .returned (.tuple #[.int .u64 ((x * y / 18446744073709551616 : Nat) : Int), .int .u64 ((x * y % 18446744073709551616 : Nat) : Int)]) ∧ w = w' := by
  obtain ⟨bd, bt, bw, hhi⟩ := Lib.mul64_hi x y hx hy
  have ba := Lib.half_mul_le (a := x / 4294967296) (b := y / 4294967296) (by omega) (by omega)
  have bb := Lib.half_mul_le (a := x / 4294967296) (b := y % 4294967296) (by omega) (by omega)
  have bc := Lib.half_mul_le (a := x % 4294967296) (b := y / 4294967296) (by omega) (by omega)
  have ba' : x / 4294967296 * (y / 4294967296) < 18446744073709551616 := by omega
  have bb' : x / 4294967296 * (y % 4294967296) < 18446744073709551616 := by omega
  have bc' : x % 4294967296 * (y / 4294967296) < 18446744073709551616 := by omega
  have bh1 : x / 4294967296 * (y / 4294967296) + (x / 4294967296 * (y % 4294967296) + x % 4294967296 * (y % 4294967296) / 4294967296) / 4294967296 < 18446744073709551616 := by omega
  have bh : x / 4294967296 * (y / 4294967296) + (x / 4294967296 * (y % 4294967296) + x % 4294967296 * (y % 4294967296) / 4294967296) / 4294967296 + ((x / 4294967296 * (y % 4294967296) + x % 4294967296 * (y % 4294967296) / 4294967296) % 4294967296 + x % 4294967296 * (y / 4294967296)) / 4294967296 < 18446744073709551616 := by omega
  go_enter Try.func48, Try.ntmps48
  go_wp2
  simp only [M64.maskN x hx, M64.maskN y hy, M64.divN, M64.mulN, M64.addN, M64.wrapN _ bd, M64.wrapN _ bb', M64.wrapN _ bt, M64.maskN _ bt, M64.wrapN _ bc', M64.wrapN _ bw, M64.wrapN _ ba', M64.wrapN _ bh1, M64.wrapN _ bh, M64.wrapM (x * y)]
  rw [hhi]
  go_ret2
  exact ⟨rfl, rfl⟩
theorem int_congr {k : IntKind} {a b : Int} (h : a = b) : Ending.returned (.int k a) = .returned (.int k b) := by rw [h]
theorem size_any (n : Int) (h : I64 n) (w : World) : Calls Try.prog 49 #[.int .i64 n] w fun e w' => e = .returned (.int .u64 (n.natAbs : Int)) ∧ w = w' := by
  obtain ⟨h1, h2⟩ := h
  by_cases hn : n < 0
  · go_enter Try.func49, Try.ntmps49
    go_wp2
    go_ret
    exact ⟨int_congr (by simp only [IntKind.wrap_u64]; omega), rfl⟩
  · go_enter Try.func49, Try.ntmps49
    go_wp2
    go_ret
    exact ⟨int_congr (by omega), rfl⟩
theorem Mul64_small (x y p : Nat) (hx : x < 18446744073709551616) (hy : y < 18446744073709551616) (hp : x * y = p) (h : p < 18446744073709551616) (w : World) :
    Calls Try.prog 48 #[.int .u64 x, .int .u64 y] w fun e w' => e = .returned (.tuple #[.int .u64 0, .int .u64 (p : Int)]) ∧ w = w' := by
  have h0 : x * y / 18446744073709551616 = 0 := by rw [hp]; omega
  have h1 : x * y % 18446744073709551616 = p := by rw [hp]; omega
  have := Mul64_any x y hx hy w
  rw [h0, h1] at this
  exact this
theorem Mul64_big (x y : Nat) (hx : x < 18446744073709551616) (hy : y < 18446744073709551616) (h : 18446744073709551616 ≤ x * y) (w : World) :
    Calls Try.prog 48 #[.int .u64 x, .int .u64 y] w fun e w' => (∃ hi lo : Int, 0 < hi ∧ e = .returned (.tuple #[.int .u64 hi, .int .u64 lo])) ∧ w = w' :=
  (Mul64_any x y hx hy w).mono fun _ _ ⟨he, hw⟩ => ⟨⟨_, _, by omega, he⟩, hw⟩
theorem ret2_congr {k : IntKind} {a b : Int} {v : Value} (h : a = b) : Ending.returned (.tuple #[.int k a, v]) = .returned (.tuple #[.int k b, v]) := by rw [h]
theorem Mul_big (a b : Int) (w : World) (ha : I64 a) (hb : I64 b) (h : 18446744073709551616 ≤ a.natAbs * b.natAbs) :
    Calls Try.prog 34 #[.int .i64 a, .int .i64 b] w fun e w' => e = .returned (.tuple #[.int .i64 0, .bool false]) ∧ w = w' := by
  have hx : a.natAbs < 18446744073709551616 := by unfold I64 at ha; omega
  have hy : b.natAbs < 18446744073709551616 := by unfold I64 at hb; omega
  go_enter Try.func34, Try.ntmps34
  go_wp2_with fail
  refine (size_any a ha _).mono ?_
  rintro e w1 ⟨rfl, rfl⟩
  go_wp2_with fail
  refine (size_any b hb _).mono ?_
  rintro e w1 ⟨rfl, rfl⟩
  go_wp2_with fail
  refine (Mul64_big _ _ hx hy h _).mono ?_
  rintro e w1 ⟨⟨hi, lo, hpos, rfl⟩, rfl⟩
  have hd : decide (0 < hi) = true := by simpa using hpos
  go_wp2_with fail
  go_ret2
  exact ⟨rfl, rfl⟩
/-! The factors' signs unlike, or alike; the product's size in reach, or beyond it. -/
theorem Mul_neg (a b : Int) (p : Nat) (w : World) (ha : I64 a) (hb : I64 b) (h : a < 0 ∧ 0 ≤ b ∨ 0 ≤ a ∧ b < 0) (hp : a.natAbs * b.natAbs = p) (hp0 : 0 ≤ p) (hp1 : p ≤ 9223372036854775808) :
    Calls Try.prog 34 #[.int .i64 a, .int .i64 b] w fun e w' => e = .returned (.tuple #[.int .i64 (-(p : Int)), .bool true]) ∧ w = w' := by
  have hx : a.natAbs < 18446744073709551616 := by unfold I64 at ha; omega
  have hy : b.natAbs < 18446744073709551616 := by unfold I64 at hb; omega
  have hl : ¬ (9223372036854775808 : Int) < (p : Int) := by omega
  have c : ∀ w, _ := Mul64_small a.natAbs b.natAbs p hx hy hp (by omega)
  have H := Lib.hid c
  have Ha := Lib.hid ha
  have Hb := Lib.hid hb
  clear c hp hx hy ha hb
  rcases h with ⟨h1, h2⟩ | ⟨h1, h2⟩
  · have h3 : a < 0 := by omega
    have h4 : ¬ b < 0 := by omega
    clear h1 h2
    go_enter Try.func34, Try.ntmps34
    go_wp2_with fail
    refine (size_any a Ha.out _).mono ?_
    rintro e w1 ⟨rfl, rfl⟩
    go_wp2_with fail
    refine (size_any b Hb.out _).mono ?_
    rintro e w1 ⟨rfl, rfl⟩
    go_wp2_with fail
    refine (H.out _).mono ?_
    rintro e w1 ⟨rfl, rfl⟩
    go_wp2_with fail
    go_ret2
    exact ⟨ret2_congr (by simp only [IntKind.wrap_u64, wrap64]; omega), rfl⟩
  · have h3 : ¬ a < 0 := by omega
    have h4 : b < 0 := by omega
    clear h1 h2
    go_enter Try.func34, Try.ntmps34
    go_wp2_with fail
    refine (size_any a Ha.out _).mono ?_
    rintro e w1 ⟨rfl, rfl⟩
    go_wp2_with fail
    refine (size_any b Hb.out _).mono ?_
    rintro e w1 ⟨rfl, rfl⟩
    go_wp2_with fail
    refine (H.out _).mono ?_
    rintro e w1 ⟨rfl, rfl⟩
    go_wp2_with fail
    go_ret2
    exact ⟨ret2_congr (by simp only [IntKind.wrap_u64, wrap64]; omega), rfl⟩
theorem Mul_negbig (a b : Int) (p : Nat) (w : World) (ha : I64 a) (hb : I64 b) (h : a < 0 ∧ 0 ≤ b ∨ 0 ≤ a ∧ b < 0) (hp : a.natAbs * b.natAbs = p) (hp0 : 9223372036854775809 ≤ p) (hp1 : p ≤ 18446744073709551615) :
    Calls Try.prog 34 #[.int .i64 a, .int .i64 b] w fun e w' => e = .returned (.tuple #[.int .i64 0, .bool false]) ∧ w = w' := by
  have hx : a.natAbs < 18446744073709551616 := by unfold I64 at ha; omega
  have hy : b.natAbs < 18446744073709551616 := by unfold I64 at hb; omega
  have hl : (9223372036854775808 : Int) < (p : Int) := by omega
  have c : ∀ w, _ := Mul64_small a.natAbs b.natAbs p hx hy hp (by omega)
  have H := Lib.hid c
  have Ha := Lib.hid ha
  have Hb := Lib.hid hb
  clear c hp hx hy ha hb
  rcases h with ⟨h1, h2⟩ | ⟨h1, h2⟩
  · have h3 : a < 0 := by omega
    have h4 : ¬ b < 0 := by omega
    clear h1 h2
    go_enter Try.func34, Try.ntmps34
    go_wp2_with fail
    refine (size_any a Ha.out _).mono ?_
    rintro e w1 ⟨rfl, rfl⟩
    go_wp2_with fail
    refine (size_any b Hb.out _).mono ?_
    rintro e w1 ⟨rfl, rfl⟩
    go_wp2_with fail
    refine (H.out _).mono ?_
    rintro e w1 ⟨rfl, rfl⟩
    go_wp2_with fail
    go_ret2
    exact ⟨rfl, rfl⟩
  · have h3 : ¬ a < 0 := by omega
    have h4 : b < 0 := by omega
    clear h1 h2
    go_enter Try.func34, Try.ntmps34
    go_wp2_with fail
    refine (size_any a Ha.out _).mono ?_
    rintro e w1 ⟨rfl, rfl⟩
    go_wp2_with fail
    refine (size_any b Hb.out _).mono ?_
    rintro e w1 ⟨rfl, rfl⟩
    go_wp2_with fail
    refine (H.out _).mono ?_
    rintro e w1 ⟨rfl, rfl⟩
    go_wp2_with fail
    go_ret2
    exact ⟨rfl, rfl⟩
theorem Mul_pos (a b : Int) (p : Nat) (w : World) (ha : I64 a) (hb : I64 b) (h : a < 0 ∧ b < 0 ∨ 0 ≤ a ∧ 0 ≤ b) (hp : a.natAbs * b.natAbs = p) (hp0 : 0 ≤ p) (hp1 : p ≤ 9223372036854775807) :
    Calls Try.prog 34 #[.int .i64 a, .int .i64 b] w fun e w' => e = .returned (.tuple #[.int .i64 (p : Int), .bool true]) ∧ w = w' := by
  have hx : a.natAbs < 18446744073709551616 := by unfold I64 at ha; omega
  have hy : b.natAbs < 18446744073709551616 := by unfold I64 at hb; omega
  have hl : ¬ (9223372036854775807 : Int) < (p : Int) := by omega
  have c : ∀ w, _ := Mul64_small a.natAbs b.natAbs p hx hy hp (by omega)
  have H := Lib.hid c
  have Ha := Lib.hid ha
  have Hb := Lib.hid hb
  clear c hp hx hy ha hb
  rcases h with ⟨h1, h2⟩ | ⟨h1, h2⟩
  · have h3 : a < 0 := by omega
    have h4 : b < 0 := by omega
    clear h1 h2
    go_enter Try.func34, Try.ntmps34
    go_wp2_with fail
    refine (size_any a Ha.out _).mono ?_
    rintro e w1 ⟨rfl, rfl⟩
    go_wp2_with fail
    refine (size_any b Hb.out _).mono ?_
    rintro e w1 ⟨rfl, rfl⟩
    go_wp2_with fail
    refine (H.out _).mono ?_
    rintro e w1 ⟨rfl, rfl⟩
    go_wp2_with fail
    go_ret2
    exact ⟨rfl, rfl⟩
  · have h3 : ¬ a < 0 := by omega
    have h4 : ¬ b < 0 := by omega
    clear h1 h2
    go_enter Try.func34, Try.ntmps34
    go_wp2_with fail
    refine (size_any a Ha.out _).mono ?_
    rintro e w1 ⟨rfl, rfl⟩
    go_wp2_with fail
    refine (size_any b Hb.out _).mono ?_
    rintro e w1 ⟨rfl, rfl⟩
    go_wp2_with fail
    refine (H.out _).mono ?_
    rintro e w1 ⟨rfl, rfl⟩
    go_wp2_with fail
    go_ret2
    exact ⟨rfl, rfl⟩
theorem Mul_posbig (a b : Int) (p : Nat) (w : World) (ha : I64 a) (hb : I64 b) (h : a < 0 ∧ b < 0 ∨ 0 ≤ a ∧ 0 ≤ b) (hp : a.natAbs * b.natAbs = p) (hp0 : 9223372036854775808 ≤ p) (hp1 : p ≤ 18446744073709551615) :
    Calls Try.prog 34 #[.int .i64 a, .int .i64 b] w fun e w' => e = .returned (.tuple #[.int .i64 0, .bool false]) ∧ w = w' := by
  have hx : a.natAbs < 18446744073709551616 := by unfold I64 at ha; omega
  have hy : b.natAbs < 18446744073709551616 := by unfold I64 at hb; omega
  have hl : (9223372036854775807 : Int) < (p : Int) := by omega
  have c : ∀ w, _ := Mul64_small a.natAbs b.natAbs p hx hy hp (by omega)
  have H := Lib.hid c
  have Ha := Lib.hid ha
  have Hb := Lib.hid hb
  clear c hp hx hy ha hb
  rcases h with ⟨h1, h2⟩ | ⟨h1, h2⟩
  · have h3 : a < 0 := by omega
    have h4 : b < 0 := by omega
    clear h1 h2
    go_enter Try.func34, Try.ntmps34
    go_wp2_with fail
    refine (size_any a Ha.out _).mono ?_
    rintro e w1 ⟨rfl, rfl⟩
    go_wp2_with fail
    refine (size_any b Hb.out _).mono ?_
    rintro e w1 ⟨rfl, rfl⟩
    go_wp2_with fail
    refine (H.out _).mono ?_
    rintro e w1 ⟨rfl, rfl⟩
    go_wp2_with fail
    go_ret2
    exact ⟨rfl, rfl⟩
  · have h3 : ¬ a < 0 := by omega
    have h4 : ¬ b < 0 := by omega
    clear h1 h2
    go_enter Try.func34, Try.ntmps34
    go_wp2_with fail
    refine (size_any a Ha.out _).mono ?_
    rintro e w1 ⟨rfl, rfl⟩
    go_wp2_with fail
    refine (size_any b Hb.out _).mono ?_
    rintro e w1 ⟨rfl, rfl⟩
    go_wp2_with fail
    refine (H.out _).mono ?_
    rintro e w1 ⟨rfl, rfl⟩
    go_wp2_with fail
    go_ret2
    exact ⟨rfl, rfl⟩
theorem abs_mul (a b : Int) : (a * b).natAbs = a.natAbs * b.natAbs := Int.natAbs_mul a b
theorem mul_unlike {a b : Int} (h : a < 0 ∧ 0 ≤ b ∨ 0 ≤ a ∧ b < 0) : a * b ≤ 0 := by
  rcases h with ⟨h1, h2⟩ | ⟨h1, h2⟩
  · exact Int.mul_nonpos_of_nonpos_of_nonneg (Int.le_of_lt h1) h2
  · exact Int.mul_nonpos_of_nonneg_of_nonpos h1 (Int.le_of_lt h2)
theorem mul_like {a b : Int} (h : a < 0 ∧ b < 0 ∨ 0 ≤ a ∧ 0 ≤ b) : 0 ≤ a * b := by
  rcases h with ⟨h1, h2⟩ | ⟨h1, h2⟩
  · exact Int.mul_nonneg_of_nonpos_of_nonpos (Int.le_of_lt h1) (Int.le_of_lt h2)
  · exact Int.mul_nonneg h1 h2
theorem Mul_yes (a b : Int) (w : World) (ha : I64 a) (hb : I64 b) (h : I64 (a * b)) :
    Calls Try.prog 34 #[.int .i64 a, .int .i64 b] w fun e w' => e = .returned (.tuple #[.int .i64 (a * b), .bool true]) ∧ w = w' := by
  have hp := abs_mul a b
  unfold I64 at h
  generalize hm : a * b = m at *
  by_cases hs : a < 0 ∧ 0 ≤ b ∨ 0 ≤ a ∧ b < 0
  · have := mul_unlike hs
    rw [hm] at this
    have e : m = -((m.natAbs : Nat) : Int) := by omega
    rw [e]
    exact Mul_neg a b _ w ha hb hs (by omega) (by omega) (by omega)
  · have hs' : a < 0 ∧ b < 0 ∨ 0 ≤ a ∧ 0 ≤ b := by omega
    have := mul_like hs'
    rw [hm] at this
    have e : m = ((m.natAbs : Nat) : Int) := by omega
    rw [e]
    exact Mul_pos a b _ w ha hb hs' (by omega) (by omega) (by omega)
theorem Mul_no (a b : Int) (w : World) (ha : I64 a) (hb : I64 b) (h : ¬ I64 (a * b)) :
    Calls Try.prog 34 #[.int .i64 a, .int .i64 b] w fun e w' => e = .returned (.tuple #[.int .i64 0, .bool false]) ∧ w = w' := by
  by_cases hbig : 18446744073709551616 ≤ a.natAbs * b.natAbs
  · exact Mul_big a b w ha hb hbig
  have hp := abs_mul a b
  unfold I64 at h
  generalize hm : a * b = m at *
  by_cases hs : a < 0 ∧ 0 ≤ b ∨ 0 ≤ a ∧ b < 0
  · have := mul_unlike hs
    rw [hm] at this
    exact Mul_negbig a b _ w ha hb hs rfl (by omega) (by omega)
  · have hs' : a < 0 ∧ b < 0 ∨ 0 ≤ a ∧ 0 ≤ b := by omega
    have := mul_like hs'
    rw [hm] at this
    exact Mul_posbig a b _ w ha hb hs' rfl (by omega) (by omega)
end Go.Proofs.Ytikhhmdmmgkakaa
