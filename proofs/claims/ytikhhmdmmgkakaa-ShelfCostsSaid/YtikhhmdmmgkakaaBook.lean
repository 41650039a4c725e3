/-
  countermandplain.Book on any two bookings. Conditions: their orders lie in memory as told.
-/
import Derived.Test.YtikhhmdmmgkakaaTypes
import Derived.Test.YtikhhmdmmgkakaaOpen
import Derived.Deep.QuietTactic
import Derived.BigQuiet
namespace Go.Proofs.Ytikhhmdmmgkakaa
open Go.RowKit
set_option linter.unusedVariables false

/-- Are two bookings alike? -/
def bookEq (l m : List Int) (L M : List (List Int)) : Bool := decide (l = m ∧ L = M)
theorem bookEq_no {l m : List Int} {L M : List (List Int)} (h : ¬ (l = m ∧ L = M)) : false = bookEq l m L M := by simp [bookEq]; simpa using h
theorem lists_ext {L M : List (List Int)} (h : L.length = M.length) (hk : ∀ j, j < L.length → el L j = el M j) : L = M := by
  apply List.ext_getElem h
  intro i h1 h2
  have := hk i h1
  rw [el_eq h1, el_eq h2] at this
  exact this
theorem bool_congr {a b : Bool} (h : a = b) : Ending.returned (.bool a) = .returned (.bool b) := by rw [h]
set_option maxHeartbeats 1000000 in
theorem Book_any (l m : List Int) (hl : l.length = 24) (hm : m.length = 24) (a a' : Option Addr) (c c' : Nat) (L M : List (List Int)) (w : World) (h : SlK w.heap.size 7 w a L) (h' : SlK w.heap.size 7 w a' M) (hL : L.length ≤ 9223372036854775807) (hM : M.length ≤ 9223372036854775807) :
    Calls Try.prog 24 #[.agg (bk l (.slice a L.length c)), .agg (bk m (.slice a' M.length c'))] w fun e w' => e = .returned (.bool (bookEq l m L M)) ∧ Adds w w' := by
  have H := Lib.hid h
  have H' := Lib.hid h'
  clear h h'
  by_cases h0 : p8 l 0 = p8 m 0
  case neg =>
    have e0 : (p8 l 0 != p8 m 0) = true := by simpa using h0
    have hf := Lib.hid (bookEq_no (l := l) (m := m) (L := L) (M := M) (fun hh => h0 (by rw [hh.1])))
    clear h0
    go_enter Try.func24, Try.ntmps24
    go_wp2_with fail
    go_ret
    exact ⟨bool_congr hf.out, ((Adds.refl _).alloc _).alloc _⟩
  have e0 : (p8 l 0 != p8 m 0) = false := by simpa using h0
  by_cases h1 : p8 l 1 = p8 m 1
  case neg =>
    have e1 : (p8 l 1 != p8 m 1) = true := by simpa using h1
    have hf := Lib.hid (bookEq_no (l := l) (m := m) (L := L) (M := M) (fun hh => h1 (by rw [hh.1])))
    clear h1 h0
    go_enter Try.func24, Try.ntmps24
    go_wp2_with fail
    go_ret
    exact ⟨bool_congr hf.out, ((Adds.refl _).alloc _).alloc _⟩
  have e1 : (p8 l 1 != p8 m 1) = false := by simpa using h1
  by_cases h2 : p8 l 2 = p8 m 2
  case neg =>
    have e2 : (p8 l 2 != p8 m 2) = true := by simpa using h2
    have hf := Lib.hid (bookEq_no (l := l) (m := m) (L := L) (M := M) (fun hh => h2 (by rw [hh.1])))
    clear h1 h0 h2
    go_enter Try.func24, Try.ntmps24
    go_wp2_with fail
    go_ret
    exact ⟨bool_congr hf.out, ((Adds.refl _).alloc _).alloc _⟩
  have e2 : (p8 l 2 != p8 m 2) = false := by simpa using h2
  have hlm := Lib.hid (p8_ext hl hm h0 h1 h2)
  clear h0 h1 h2
  by_cases h3 : L.length = M.length
  case neg =>
    have e3 : ((L.length : Int) != (M.length : Int)) = true := by simp; omega
    have hf := Lib.hid (bookEq_no (l := l) (m := m) (L := L) (M := M) (fun hh => h3 (by rw [hh.2])))
    clear h3
    go_enter Try.func24, Try.ntmps24
    go_wp2_with fail
    go_ret
    exact ⟨bool_congr hf.out, ((Adds.refl _).alloc _).alloc _⟩
  have H3 := Lib.hid h3
  have e3 : ((L.length : Int) != (M.length : Int)) = false := by simp; omega
  clear h3
  go_enter Try.func24, Try.ntmps24
  go_wp2_with fail
  go_loopw [5] (fun i wr => ∃ k : Nat, k ≤ L.length ∧ i = .int .i64 k ∧ (∃ nd os, wr = more ((w.alloc (.cells (bk l (.slice a L.length c)) 39)).alloc (.cells (bk m (.slice a' M.length c')) 39)) nd os) ∧ Hid (∀ j, j < k → el L j = el M j)) (fun i _ => L.length - (intOf i).toNat)
  case atStart => exact ⟨0, Nat.zero_le _, rfl, ⟨0, [], (more_zero _).symm⟩, fun j hj => by omega⟩
  case round =>
    obtain ⟨k, hk, rfl, ⟨nd, os, rfl⟩, hall⟩ := hrel
    by_cases hlt : k < L.length
    · obtain ⟨b, off, rfl, hb, hsz, hx⟩ := H.out.2 k hlt
      obtain ⟨b', off', rfl, hb', hsz', hx'⟩ := H'.out.2 k (by have := H3.out; omega)
      have q1 : b < w.heap.size + 1 := by omega
      have q2 : b < w.heap.size + 1 + 1 := by omega
      have q3 : b < w.heap.size + 2 := by omega
      have q1' : b' < w.heap.size + 1 := by omega
      have q2' : b' < w.heap.size + 1 + 1 := by omega
      have q3' : b' < w.heap.size + 2 := by omega
      have r1 := H.out.len hlt
      have r2 := H'.out.len (i := k) (by have := H3.out; omega)
      have hlt' : k < M.length := by have := H3.out; omega
      by_cases he : el L k = el M k
      · have he' : (el L k != el M k) = false := by simpa using he
        have HE := Lib.hid he
        clear he
        go_wp2_with fail
        go_quiet (fail)
        go_wp2_with fail
        go_roundw
        case rel =>
          refine ⟨k + 1, by omega, by go_num, ⟨_, _, more_drewN _ _ _ _⟩, fun j hj => ?_⟩
          by_cases hjk : j < k
          · exact hall.out j hjk
          · obtain rfl : j = k := by omega
            exact HE.out
        case measure => simp [intOf]; omega
      · have he' : (el L k != el M k) = true := by simpa using he
        have hf := Lib.hid (bookEq_no (l := l) (m := m) (L := L) (M := M) (fun hh => he (by rw [hh.2])))
        clear he
        go_wp2_with fail
        go_quiet (fail)
        go_wp2_with fail
        go_ret
        exact ⟨bool_congr hf.out, ((((Adds.refl _).alloc _).alloc _).more _ _).drewN _⟩
    · go_wp2_with fail
      go_ret
      refine ⟨bool_congr ?_, (((Adds.refl _).alloc _).alloc _).more _ _⟩
      have hLM : L = M := lists_ext H3.out (fun j hj => hall.out j (by omega))
      simp [bookEq, hLM, hlm.out]
theorem SlK.up {k : Nat} {w w' : World} {a : Option Addr} {L : List (List Int)} (h : SlK w.heap.size k w a L) (hA : Adds w w') : SlK w'.heap.size k w' a L :=
  (h.adds (Nat.le_refl _) hA).mono hA.below.size
theorem Book_same (l : List Int) (hl : l.length = 24) (a : Option Addr) (c : Nat) (L : List (List Int)) (w : World) (h : SlK w.heap.size 7 w a L) (hL : L.length ≤ 9223372036854775807) :
    Calls Try.prog 24 #[.agg (bk l (.slice a L.length c)), .agg (bk l (.slice a L.length c))] w fun e w' => e = .returned (.bool true) ∧ Adds w w' := by
  have := Book_any l l hl hl a a c c L L w h h hL hL
  have e : bookEq l l L L = true := by simp [bookEq]
  rw [e] at this
  exact this
theorem SlK.nil {B k : Nat} {w : World} {a : Option Addr} : SlK B k w a [] := ⟨by simp, fun i hi => by simp at hi⟩
theorem Book_zB (w : World) : Calls Try.prog 24 #[.agg zB, .agg zB] w fun e w' => e = .returned (.bool true) ∧ Adds w w' :=
  Book_same z24 len_z24 none 0 [] w SlK.nil (by decide)
end Go.Proofs.Ytikhhmdmmgkakaa
