/-
  The statements of layer 14 walk: PurseGives, PurseTotals, PurseBack return true. Conditions: the arguments are as told.
-/
import Derived.Test.YtikhhmdmmgkakaaStock
import Derived.Test.YtikhhmdmmgkakaaBook
namespace Go.Proofs.Ytikhhmdmmgkakaa
open Go.RowKit
set_option linter.unusedVariables false

/-- The sum of some numbers, wrapped at each step. -/
def totW : List Int → Int → Int
  | [], s => s
  | x :: l, s => totW l (wrap64 (s + x))
theorem wrap_add (a b : Int) : wrap64 (wrap64 a + b) = wrap64 (a + b) := by unfold wrap64; omega
theorem totW_sum (l : List Int) : ∀ s, wrap64 (totW l s) = wrap64 (s + l.sum) := by
  induction l with
  | nil => intro s; simp [totW]
  | cons x l ih =>
    intro s
    rw [totW, ih, wrap_add, List.sum_cons]
    congr 1
    omega
theorem wrapI (x : Int) : I64 (wrap64 x) := by unfold I64 wrap64; omega
theorem wrap_of {x : Int} (h : I64 x) : wrap64 x = x := by
  unfold I64 at h
  unfold wrap64
  omega
theorem totW_in (l : List Int) : ∀ s, I64 s → I64 (totW l s) := by
  induction l with
  | nil => intro s h; exact h
  | cons x l ih => intro s h; exact ih _ (wrapI _)
theorem totW_eq (l : List Int) : totW l 0 = wrap64 l.sum := by
  have h1 := totW_sum l 0
  rw [wrap_of (totW_in l 0 (by decide)), Int.zero_add] at h1
  exact h1
theorem sum_set (l : List Int) : ∀ (j : Nat) (v : Int), j < l.length → (l.set j v).sum = l.sum + (v - nth l j) := by
  induction l with
  | nil => intro j v h; simp at h
  | cons x l ih =>
    intro j v h
    cases j with
    | zero => simp [nth]; omega
    | succ j =>
      have := ih j v (by simpa using h)
      have e : nth (x :: l) (j + 1) = nth l j := by simp [nth]
      rw [List.set_cons_succ, List.sum_cons, List.sum_cons, this, e]
      omega
theorem nth_p8 (l : List Int) (hl : l.length = 24) (k j : Nat) (hk : k < 3) (hj : j < 8) : nth (p8 l k) j = nth l (8 * k + j) := by
  rw [nth_eq (by rw [len_p8 l k hl hk]; omega), nth_eq (by omega)]
  simp [p8]
theorem p8_set (l : List Int) (k j : Nat) (v : Int) (hj : j < 8) : p8 (l.set (8 * k + j) v) k = (p8 l k).set j v := by
  apply List.ext_getElem?
  intro i
  simp only [p8, List.getElem?_drop, List.getElem?_take, List.getElem?_set, List.length_drop, List.length_take]
  by_cases h1 : i < 8
  · rw [if_pos (by omega)]
    by_cases h2 : j = i
    · subst h2
      simp only [if_true]
      by_cases h3 : 8 * k + j < l.length
      · rw [if_pos h3, if_pos (by omega)]
      · rw [if_neg h3, if_neg (by omega)]
    · rw [if_neg (by omega), if_neg h2, if_pos (by omega)]
  · rw [if_neg (by omega), if_neg (by omega), if_neg (by omega)]
theorem tot_set (l : List Int) (hl : l.length = 24) (j : Nat) (hj : j < 8) (v : Int) : totW (p8 (l.set (16 + j) v) 2) 0 = wrap64 (totW (p8 l 2) 0 + (v - nth l (16 + j))) := by
  have h := p8_set l 2 j v hj
  have h2 := nth_p8 l hl 2 j (by decide) hj
  rw [show 8 * 2 + j = 16 + j from rfl] at h h2
  rw [h, totW_eq, totW_eq, sum_set _ _ _ (by rw [len_p8 l 2 hl (by decide)]; exact hj), h2, wrap_add]
theorem totW_step (l : List Int) (k : Nat) (s : Int) (h : k < l.length) : totW (l.drop k) s = totW (l.drop (k + 1)) (wrap64 (s + nth l k)) := by
  rw [List.drop_eq_getElem_cons h, totW, nth_eq h]
set_option maxHeartbeats 400000 in
theorem Total_any (l : List Int) (hl : l.length = 24) (a : Option Addr) (m c : Nat) (w : World) :
    Calls Try.prog 25 #[.agg (bk l (.slice a m c))] w fun e w' => e = .returned (.int .i64 (totW (p8 l 2) 0)) ∧ Adds w w' := by
  have h8 := len_p8 l 2 hl (by decide)
  go_enter Try.func25, Try.ntmps25
  go_wp2_with fail
  generalize hp : p8 l 2 = p at *
  have HP := Lib.hid hp
  clear hp
  go_loop [3, 8] (fun s i => ∃ (k : Nat) (z : Int), k ≤ 8 ∧ i = .int .i64 k ∧ s = .int .i64 z ∧ Hid (totW p 0 = totW (p.drop k) z)) (fun _ i => 8 - (intOf i).toNat)
  case atStart => exact ⟨0, 0, Nat.zero_le _, rfl, rfl, rfl⟩
  case round =>
    obtain ⟨k, z, hk, rfl, rfl, hs⟩ := hrel
    by_cases hlt : k < 8
    · have ht := Lib.hid (totW_step p k z (by omega))
      go_wp2_with fail
      go_round
      case rel => exact ⟨k + 1, _, by omega, by go_num, rfl, hs.out.trans ht.out⟩
      case measure => simp [intOf]; omega
    · have hd := Lib.hid (show p.drop k = [] from List.drop_eq_nil_of_le (by omega))
      go_wp2_with fail
      go_ret
      exact ⟨int_congr (by rw [HP.out, hs.out, hd.out]; rfl), (Adds.refl _).alloc _⟩
end Go.Proofs.Ytikhhmdmmgkakaa
