/-
  The statements of layer 14 walk: PurseGives returns true. Conditions: the arguments are as told.
-/
import Derived.Test.YtikhhmdmmgkakaaLawPurse
namespace Go.Proofs.Ytikhhmdmmgkakaa
open Go.RowKit
set_option linter.unusedVariables false
/-! The law's own example. -/
theorem alive14 (w : World) : Calls Try.prog 20 #[] w fun e w' => e = .returned (.bool true) ∧ Adds w w' := by
  obtain ⟨l1, d1⟩ : ∃ l1, l1 = z24.set 18 5 := ⟨_, rfl⟩
  obtain ⟨l2, d2⟩ : ∃ l2, l2 = l1.set 18 3 := ⟨_, rfl⟩
  have s1 : l1.length = 24 := by rw [d1, List.length_set, len_z24]
  have s2 : l2.length = 24 := by rw [d2, List.length_set, s1]
  have v1 : nth l1 18 = 5 := by rw [d1]; decide
  have C1 : Hid (∀ w, Calls Try.prog 21 #[.agg zB, .int .i64 2, .int .i64 5] w fun e w' => e = .returned (.tuple #[.agg (bk l1 (.slice none 0 0)), .int .i64 0]) ∧ Adds w w') := fun w => by
    have := purseGive_ok z24 len_z24 none 0 0 2 5 w (by decide) (by decide) (by decide) (by decide) (by decide) (by decide)
    rw [d1]
    exact this
  have C2 : Hid (∀ w, Calls Try.prog 22 #[.agg (bk l1 (.slice none 0 0)), .int .i64 2, .int .i64 6] w fun e w' => e = .returned (.tuple #[.agg zB, .int .i64 11]) ∧ Adds w w') := fun w =>
    pursePay_short l1 s1 none 0 0 2 6 w (by decide) (by decide) (by decide) (by decide) (by show nth l1 18 < 6; rw [v1]; decide)
  have C3 : Hid (∀ w, Calls Try.prog 22 #[.agg (bk l1 (.slice none 0 0)), .int .i64 2, .int .i64 2] w fun e w' => e = .returned (.tuple #[.agg (bk l2 (.slice none 0 0)), .int .i64 0]) ∧ Adds w w') := fun w => by
    have := pursePay_ok l1 s1 none 0 0 2 2 w (by decide) (by decide) (by decide) (by decide) (by show I64 (nth l1 18); rw [v1]; decide) (by show ¬ nth l1 18 < 2; rw [v1]; decide)
    have e : nth l1 18 - 2 = 3 := by rw [v1]; decide
    rw [d2, ← e]
    exact this
  have C4 : Hid (∀ w, Calls Try.prog 25 #[.agg (bk l2 (.slice none 0 0))] w fun e w' => e = .returned (.int .i64 3) ∧ Adds w w') := fun w => by
    have := Total_any l2 s2 none 0 0 w
    have e : totW (p8 l2 2) 0 = 3 := by rw [d2, d1]; decide +kernel
    rw [e] at this
    exact this
  clear d1 d2
  go_enter Try.func20, Try.ntmps20
  go_wp2_with fail
  refine (C1.out _).mono ?_
  rintro e w1 ⟨rfl, nd, os, rfl⟩
  go_wp2_with fail
  refine (C2.out _).mono ?_
  rintro e w1 ⟨rfl, nd, os, rfl⟩
  go_wp2_with fail
  refine (C3.out _).mono ?_
  rintro e w1 ⟨rfl, nd, os, rfl⟩
  go_wp2_with fail
  refine (C4.out _).mono ?_
  rintro e w1 ⟨rfl, nd, os, rfl⟩
  go_wp2_with fail
  refine (Buyer_yes 7 _ (by decide) (by decide)).mono ?_
  rintro e w1 ⟨rfl, rfl⟩
  go_wp2_with fail
  refine (Buyer_no 8 _ (by decide) (by decide)).mono ?_
  rintro e w1 ⟨rfl, rfl⟩
  go_wp2_with fail
  go_ret
  exact ⟨rfl, (by repeat (first | exact Adds.refl _ | apply Adds.more | apply Adds.alloc | apply Adds.drewN | apply Adds.drew))⟩
set_option maxRecDepth 100000 in
set_option maxHeartbeats 2000000 in
theorem PurseGives_walk (w : World) (l : List Int) (a : Option Addr) (cap : Nat) (L : List (List Int)) (hl : l.length = 24) (hx : ∀ x ∈ l, I64 x) (hc : L.length ≤ cap) (hcap : cap ≤ maxLen) (hS : SlK w.heap.size 7 w a L) (i : Int) (hi : I64 i) (n : Int) (hn : I64 n) :
    Calls Try.prog 5 #[.agg (bk l (.slice a L.length cap)), .int .i64 i, .int .i64 n] w fun e w' => e = .returned (.bool true) ∧ Adds w w' := by
  have hlen : L.length ≤ 9223372036854775807 := by unfold maxLen at hcap; omega
  have H := Lib.hid hS
  clear hS hc hcap
  by_cases hr : i < 0 ∨ 7 < i ∨ n < 0 ∨ 1099511627776 < n
  · have HR := Lib.hid hr
    by_cases h1 : i < 0
    · have b1 : ¬ 0 ≤ i := by omega
      have Hi := Lib.hid hi
      clear hr hi hx hn
      go_enter Try.func5, Try.ntmps5
      go_wp2_with fail
      refine (alive14 _).mono ?_
      rintro e w1 ⟨rfl, nd, os, rfl⟩
      go_wp2_with fail
      refine (purseGive_range l hl a L.length cap i n _ Hi.out HR.out).mono ?_
      rintro e w1 ⟨rfl, nd, os, rfl⟩
      go_wp2_with fail
      refine (pursePay_range l hl a L.length cap i n _ Hi.out HR.out).mono ?_
      rintro e w1 ⟨rfl, nd, os, rfl⟩
      go_wp2_with fail
      refine (Buyer_no i _ Hi.out (by omega)).mono ?_
      rintro e w1 ⟨rfl, rfl⟩
      go_wp2_with fail
      refine (Book_zB _).mono ?_
      rintro e w1 ⟨rfl, nd, os, rfl⟩
      go_wp2_with fail
      refine (Book_zB _).mono ?_
      rintro e w1 ⟨rfl, nd, os, rfl⟩
      go_wp2_with fail
      go_ret
      exact ⟨rfl, (by repeat (first | exact Adds.refl _ | apply Adds.more | apply Adds.alloc | apply Adds.drewN | apply Adds.drew))⟩
    by_cases h2 : 7 < i
    · have b1 : 0 ≤ i := by omega
      have b2 : ¬ i < 8 := by omega
      have Hi := Lib.hid hi
      clear hr hi hx hn
      go_enter Try.func5, Try.ntmps5
      go_wp2_with fail
      refine (alive14 _).mono ?_
      rintro e w1 ⟨rfl, nd, os, rfl⟩
      go_wp2_with fail
      refine (purseGive_range l hl a L.length cap i n _ Hi.out HR.out).mono ?_
      rintro e w1 ⟨rfl, nd, os, rfl⟩
      go_wp2_with fail
      refine (pursePay_range l hl a L.length cap i n _ Hi.out HR.out).mono ?_
      rintro e w1 ⟨rfl, nd, os, rfl⟩
      go_wp2_with fail
      refine (Buyer_no i _ Hi.out (by omega)).mono ?_
      rintro e w1 ⟨rfl, rfl⟩
      go_wp2_with fail
      refine (Book_zB _).mono ?_
      rintro e w1 ⟨rfl, nd, os, rfl⟩
      go_wp2_with fail
      refine (Book_zB _).mono ?_
      rintro e w1 ⟨rfl, nd, os, rfl⟩
      go_wp2_with fail
      go_ret
      exact ⟨rfl, (by repeat (first | exact Adds.refl _ | apply Adds.more | apply Adds.alloc | apply Adds.drewN | apply Adds.drew))⟩
    have b1 : 0 ≤ i := by omega
    have b2 : i < 8 := by omega
    by_cases h3 : n < 0
    · have b3 := h3
      have Hi := Lib.hid hi
      clear hr hi hx hn
      go_enter Try.func5, Try.ntmps5
      go_wp2_with fail
      refine (alive14 _).mono ?_
      rintro e w1 ⟨rfl, nd, os, rfl⟩
      go_wp2_with fail
      refine (purseGive_range l hl a L.length cap i n _ Hi.out HR.out).mono ?_
      rintro e w1 ⟨rfl, nd, os, rfl⟩
      go_wp2_with fail
      refine (pursePay_range l hl a L.length cap i n _ Hi.out HR.out).mono ?_
      rintro e w1 ⟨rfl, nd, os, rfl⟩
      go_wp2_with fail
      refine (Buyer_yes i _ (by omega) (by omega)).mono ?_
      rintro e w1 ⟨rfl, rfl⟩
      go_wp2_with fail
      refine (Book_zB _).mono ?_
      rintro e w1 ⟨rfl, nd, os, rfl⟩
      go_wp2_with fail
      refine (Book_zB _).mono ?_
      rintro e w1 ⟨rfl, nd, os, rfl⟩
      go_wp2_with fail
      go_ret
      exact ⟨rfl, (by repeat (first | exact Adds.refl _ | apply Adds.more | apply Adds.alloc | apply Adds.drewN | apply Adds.drew))⟩
    have h4 : 1099511627776 < n := by omega
    have Hi := Lib.hid hi
    clear hr hi hx hn
    go_enter Try.func5, Try.ntmps5
    go_wp2_with fail
    refine (alive14 _).mono ?_
    rintro e w1 ⟨rfl, nd, os, rfl⟩
    go_wp2_with fail
    refine (purseGive_range l hl a L.length cap i n _ Hi.out HR.out).mono ?_
    rintro e w1 ⟨rfl, nd, os, rfl⟩
    go_wp2_with fail
    refine (pursePay_range l hl a L.length cap i n _ Hi.out HR.out).mono ?_
    rintro e w1 ⟨rfl, nd, os, rfl⟩
    go_wp2_with fail
    refine (Buyer_yes i _ (by omega) (by omega)).mono ?_
    rintro e w1 ⟨rfl, rfl⟩
    go_wp2_with fail
    refine (Book_zB _).mono ?_
    rintro e w1 ⟨rfl, nd, os, rfl⟩
    go_wp2_with fail
    refine (Book_zB _).mono ?_
    rintro e w1 ⟨rfl, nd, os, rfl⟩
    go_wp2_with fail
    go_ret
    exact ⟨rfl, (by repeat (first | exact Adds.refl _ | apply Adds.more | apply Adds.alloc | apply Adds.drewN | apply Adds.drew))⟩
  have r1 : 0 ≤ i := by omega
  have r2 : i ≤ 7 := by omega
  have r3 : 0 ≤ n := by omega
  have r4 : n ≤ 1099511627776 := by omega
  have r5 : i < 8 := by omega
  have r6 : 16 + i.toNat < 24 := by omega
  have hp := hx _ (nth_mem (l := l) (i := 16 + i.toNat) (by omega))
  have HP := Lib.hid hp
  obtain ⟨p1, p2⟩ := hp
  clear hr hx hn hi
  by_cases ho : 1099511627776 < nth l (16 + i.toNat) + n
  · have HO := Lib.hid ho
    have ho' : 1099511627776 - n < nth l (16 + i.toNat) := by omega
    by_cases hs : nth l (16 + i.toNat) < n
    · have HS := Lib.hid hs
      clear ho
      go_enter Try.func5, Try.ntmps5
      go_wp2_with fail
      refine (alive14 _).mono ?_
      rintro e w1 ⟨rfl, nd, os, rfl⟩
      go_wp2_with fail
      refine (purseGive_over l hl a L.length cap i n _ r1 r2 r3 r4 HP.out HO.out).mono ?_
      rintro e w1 ⟨rfl, nd, os, rfl⟩
      go_wp2_with fail
      refine (pursePay_short l hl a L.length cap i n _ r1 r2 r3 r4 HS.out).mono ?_
      rintro e w1 ⟨rfl, nd, os, rfl⟩
      go_wp2_with fail
      refine (Buyer_yes i _ r1 r2).mono ?_
      rintro e w1 ⟨rfl, rfl⟩
      go_wp2_with fail
      refine (Book_zB _).mono ?_
      rintro e w1 ⟨rfl, nd, os, rfl⟩
      go_wp2_with fail
      refine (Book_zB _).mono ?_
      rintro e w1 ⟨rfl, nd, os, rfl⟩
      go_wp2_with fail
      go_ret
      exact ⟨rfl, (by repeat (first | exact Adds.refl _ | apply Adds.more | apply Adds.alloc | apply Adds.drewN | apply Adds.drew))⟩
    · have HS := Lib.hid hs
      clear ho
      go_enter Try.func5, Try.ntmps5
      go_wp2_with fail
      refine (alive14 _).mono ?_
      rintro e w1 ⟨rfl, nd, os, rfl⟩
      go_wp2_with fail
      refine (purseGive_over l hl a L.length cap i n _ r1 r2 r3 r4 HP.out HO.out).mono ?_
      rintro e w1 ⟨rfl, nd, os, rfl⟩
      go_wp2_with fail
      refine (pursePay_ok l hl a L.length cap i n _ r1 r2 r3 r4 HP.out (by have := HS.out; omega)).mono ?_
      rintro e w1 ⟨rfl, nd, os, rfl⟩
      go_wp2_with fail
      refine (Buyer_yes i _ r1 r2).mono ?_
      rintro e w1 ⟨rfl, rfl⟩
      go_wp2_with fail
      refine (Book_zB _).mono ?_
      rintro e w1 ⟨rfl, nd, os, rfl⟩
      go_wp2_with fail
      refine (Book_same _ (by rw [List.length_set]; exact hl) a cap L _ ?_ hlen).mono ?_
      · exact SlK.up H.out (by repeat (first | exact Adds.refl _ | apply Adds.more | apply Adds.alloc | apply Adds.drewN | apply Adds.drew))
      rintro e w1 ⟨rfl, nd, os, rfl⟩
      go_wp2_with fail
      go_ret
      exact ⟨rfl, (by repeat (first | exact Adds.refl _ | apply Adds.more | apply Adds.alloc | apply Adds.drewN | apply Adds.drew))⟩
  · have HO := Lib.hid ho
    have ho' : ¬ 1099511627776 - n < nth l (16 + i.toNat) := by omega
    by_cases hs : nth l (16 + i.toNat) < n
    · have HS := Lib.hid hs
      clear ho
      go_enter Try.func5, Try.ntmps5
      go_wp2_with fail
      refine (alive14 _).mono ?_
      rintro e w1 ⟨rfl, nd, os, rfl⟩
      go_wp2_with fail
      refine (purseGive_ok l hl a L.length cap i n _ r1 r2 r3 r4 HP.out (by have := HO.out; omega)).mono ?_
      rintro e w1 ⟨rfl, nd, os, rfl⟩
      go_wp2_with fail
      refine (pursePay_short l hl a L.length cap i n _ r1 r2 r3 r4 HS.out).mono ?_
      rintro e w1 ⟨rfl, nd, os, rfl⟩
      go_wp2_with fail
      refine (Buyer_yes i _ r1 r2).mono ?_
      rintro e w1 ⟨rfl, rfl⟩
      go_wp2_with fail
      refine (Book_same _ (by rw [List.length_set]; exact hl) a cap L _ ?_ hlen).mono ?_
      · exact SlK.up H.out (by repeat (first | exact Adds.refl _ | apply Adds.more | apply Adds.alloc | apply Adds.drewN | apply Adds.drew))
      rintro e w1 ⟨rfl, nd, os, rfl⟩
      go_wp2_with fail
      refine (Book_zB _).mono ?_
      rintro e w1 ⟨rfl, nd, os, rfl⟩
      go_wp2_with fail
      go_ret
      exact ⟨rfl, (by repeat (first | exact Adds.refl _ | apply Adds.more | apply Adds.alloc | apply Adds.drewN | apply Adds.drew))⟩
    · have HS := Lib.hid hs
      clear ho
      go_enter Try.func5, Try.ntmps5
      go_wp2_with fail
      refine (alive14 _).mono ?_
      rintro e w1 ⟨rfl, nd, os, rfl⟩
      go_wp2_with fail
      refine (purseGive_ok l hl a L.length cap i n _ r1 r2 r3 r4 HP.out (by have := HO.out; omega)).mono ?_
      rintro e w1 ⟨rfl, nd, os, rfl⟩
      go_wp2_with fail
      refine (pursePay_ok l hl a L.length cap i n _ r1 r2 r3 r4 HP.out (by have := HS.out; omega)).mono ?_
      rintro e w1 ⟨rfl, nd, os, rfl⟩
      go_wp2_with fail
      refine (Buyer_yes i _ r1 r2).mono ?_
      rintro e w1 ⟨rfl, rfl⟩
      go_wp2_with fail
      refine (Book_same _ (by rw [List.length_set]; exact hl) a cap L _ ?_ hlen).mono ?_
      · exact SlK.up H.out (by repeat (first | exact Adds.refl _ | apply Adds.more | apply Adds.alloc | apply Adds.drewN | apply Adds.drew))
      rintro e w1 ⟨rfl, nd, os, rfl⟩
      go_wp2_with fail
      refine (Book_same _ (by rw [List.length_set]; exact hl) a cap L _ ?_ hlen).mono ?_
      · exact SlK.up H.out (by repeat (first | exact Adds.refl _ | apply Adds.more | apply Adds.alloc | apply Adds.drewN | apply Adds.drew))
      rintro e w1 ⟨rfl, nd, os, rfl⟩
      go_wp2_with fail
      go_ret
      exact ⟨rfl, (by repeat (first | exact Adds.refl _ | apply Adds.more | apply Adds.alloc | apply Adds.drewN | apply Adds.drew))⟩
set_option maxRecDepth 100000 in
set_option maxHeartbeats 2000000 in
theorem PurseBack_walk (w : World) (l : List Int) (a : Option Addr) (cap : Nat) (L : List (List Int)) (hl : l.length = 24) (hx : ∀ x ∈ l, I64 x) (hc : L.length ≤ cap) (hcap : cap ≤ maxLen) (hS : SlK w.heap.size 7 w a L) (i : Int) (hi : I64 i) (n : Int) (hn : I64 n) :
    Calls Try.prog 7 #[.agg (bk l (.slice a L.length cap)), .int .i64 i, .int .i64 n] w fun e w' => e = .returned (.bool true) ∧ Adds w w' := by
  have hlen : L.length ≤ 9223372036854775807 := by unfold maxLen at hcap; omega
  have H := Lib.hid hS
  clear hS hc hcap
  by_cases hr : i < 0 ∨ 7 < i ∨ n < 0 ∨ 1099511627776 < n
  · have HR := Lib.hid hr
    have Hi := Lib.hid hi
    clear hr hi hx hn
    go_enter Try.func7, Try.ntmps7
    go_wp2_with fail
    refine (alive14 _).mono ?_
    rintro e w1 ⟨rfl, nd, os, rfl⟩
    go_wp2_with fail
    refine (purseGive_range l hl a L.length cap i n _ Hi.out HR.out).mono ?_
    rintro e w1 ⟨rfl, nd, os, rfl⟩
    go_wp2_with fail
    go_ret
    exact ⟨rfl, (by repeat (first | exact Adds.refl _ | apply Adds.more | apply Adds.alloc | apply Adds.drewN | apply Adds.drew))⟩
  have r1 : 0 ≤ i := by omega
  have r2 : i ≤ 7 := by omega
  have r3 : 0 ≤ n := by omega
  have r4 : n ≤ 1099511627776 := by omega
  have r5 : i < 8 := by omega
  have r6 : 16 + i.toNat < 24 := by omega
  have hp := hx _ (nth_mem (l := l) (i := 16 + i.toNat) (by omega))
  have HP := Lib.hid hp
  obtain ⟨p1, p2⟩ := hp
  clear hr hx hn hi
  by_cases ho : 1099511627776 < nth l (16 + i.toNat) + n
  · have HO := Lib.hid ho
    clear ho
    go_enter Try.func7, Try.ntmps7
    go_wp2_with fail
    refine (alive14 _).mono ?_
    rintro e w1 ⟨rfl, nd, os, rfl⟩
    go_wp2_with fail
    refine (purseGive_over l hl a L.length cap i n _ r1 r2 r3 r4 HP.out HO.out).mono ?_
    rintro e w1 ⟨rfl, nd, os, rfl⟩
    go_wp2_with fail
    go_ret
    exact ⟨rfl, (by repeat (first | exact Adds.refl _ | apply Adds.more | apply Adds.alloc | apply Adds.drewN | apply Adds.drew))⟩
  obtain ⟨l1, d1⟩ : ∃ l1, l1 = l.set (16 + i.toNat) (nth l (16 + i.toNat) + n) := ⟨_, rfl⟩
  have s1 : l1.length = 24 := by rw [d1, List.length_set, hl]
  have v1 : nth l1 (16 + i.toNat) = nth l (16 + i.toNat) + n := by rw [d1, nth_set (by omega), if_pos rfl]
  have V1 : Hid (I64 (nth l1 (16 + i.toNat))) := by rw [v1]; exact ⟨by omega, by omega⟩
  have C1 : Hid (∀ w, Calls Try.prog 21 #[.agg (bk l (.slice a L.length cap)), .int .i64 i, .int .i64 n] w fun e w' => e = .returned (.tuple #[.agg (bk l1 (.slice a L.length cap)), .int .i64 0]) ∧ Adds w w') := fun w => by rw [d1]; exact purseGive_ok l hl a L.length cap i n w r1 r2 r3 r4 HP.out (by omega)
  by_cases hneg : nth l (16 + i.toNat) < 0
  · have C2 : Hid (∀ w, Calls Try.prog 22 #[.agg (bk l1 (.slice a L.length cap)), .int .i64 i, .int .i64 n] w fun e w' => e = .returned (.tuple #[.agg zB, .int .i64 11]) ∧ Adds w w') := fun w => pursePay_short l1 s1 a L.length cap i n w r1 r2 r3 r4 (by rw [v1]; omega)
    clear d1 v1 ho
    go_enter Try.func7, Try.ntmps7
    go_wp2_with fail
    refine (alive14 _).mono ?_
    rintro e w1 ⟨rfl, nd, os, rfl⟩
    go_wp2_with fail
    refine (C1.out _).mono ?_
    rintro e w1 ⟨rfl, nd, os, rfl⟩
    go_wp2_with fail
    refine (C2.out _).mono ?_
    rintro e w1 ⟨rfl, nd, os, rfl⟩
    go_wp2_with fail
    go_ret
    exact ⟨rfl, (by repeat (first | exact Adds.refl _ | apply Adds.more | apply Adds.alloc | apply Adds.drewN | apply Adds.drew))⟩
  have e2 : l1.set (16 + i.toNat) (nth l1 (16 + i.toNat) - n) = l := by
    rw [v1, d1, List.set_set, show nth l (16 + i.toNat) + n - n = nth l (16 + i.toNat) from by omega, nth_eq (by omega)]
    exact List.set_getElem_self _
  have C2 : Hid (∀ w, Calls Try.prog 22 #[.agg (bk l1 (.slice a L.length cap)), .int .i64 i, .int .i64 n] w fun e w' => e = .returned (.tuple #[.agg (bk l (.slice a L.length cap)), .int .i64 0]) ∧ Adds w w') := fun w => by
    have := pursePay_ok l1 s1 a L.length cap i n w r1 r2 r3 r4 V1.out (by rw [v1]; omega)
    rw [e2] at this
    exact this
  clear d1 v1 e2 ho hneg
  go_enter Try.func7, Try.ntmps7
  go_wp2_with fail
  refine (alive14 _).mono ?_
  rintro e w1 ⟨rfl, nd, os, rfl⟩
  go_wp2_with fail
  refine (C1.out _).mono ?_
  rintro e w1 ⟨rfl, nd, os, rfl⟩
  go_wp2_with fail
  refine (C2.out _).mono ?_
  rintro e w1 ⟨rfl, nd, os, rfl⟩
  go_wp2_with fail
  refine (Book_same _ hl a cap L _ ?_ hlen).mono ?_
  · exact SlK.up H.out (by repeat (first | exact Adds.refl _ | apply Adds.more | apply Adds.alloc | apply Adds.drewN | apply Adds.drew))
  rintro e w1 ⟨rfl, nd, os, rfl⟩
  go_wp2_with fail
  go_ret
  exact ⟨rfl, (by repeat (first | exact Adds.refl _ | apply Adds.more | apply Adds.alloc | apply Adds.drewN | apply Adds.drew))⟩
set_option maxRecDepth 100000 in
set_option maxHeartbeats 2000000 in
theorem PurseTotals_walk (w : World) (l : List Int) (a : Option Addr) (cap : Nat) (L : List (List Int)) (hl : l.length = 24) (hx : ∀ x ∈ l, I64 x) (hc : L.length ≤ cap) (hcap : cap ≤ maxLen) (hS : SlK w.heap.size 7 w a L) (i : Int) (hi : I64 i) (n : Int) (hn : I64 n) :
    Calls Try.prog 6 #[.agg (bk l (.slice a L.length cap)), .int .i64 i, .int .i64 n] w fun e w' => e = .returned (.bool true) ∧ Adds w w' := by
  have hlen : L.length ≤ 9223372036854775807 := by unfold maxLen at hcap; omega
  have H := Lib.hid hS
  clear hS hc hcap
  have h8 := len_p8 l 2 hl (by decide)
  have hn8 : ∀ k : Nat, k < 8 → nth l (16 + k) = nth (p8 l 2) k := fun k hk => (nth_p8 l hl 2 k (by decide) hk).symm
  have HN8 := Lib.hid hn8
  clear hn8
  obtain ⟨p, dp⟩ : ∃ p, p = p8 l 2 := ⟨_, rfl⟩
  obtain ⟨T, dT⟩ : ∃ T, T = totW p 0 := ⟨_, rfl⟩
  have HT := Lib.hid dT
  rw [← dp] at h8 HN8
  have D : (∃ e v x, Hid (∀ w, Calls Try.prog 21 #[.agg (bk l (.slice a L.length cap)), .int .i64 i, .int .i64 n] w fun o w' => o = .returned (.tuple #[.agg x, .int .i64 e]) ∧ Adds w w') ∧ Plain x ∧ x.size = 25 ∧ (e = 0 ∧ v = wrap64 (T + n) ∧ Hid (∀ w, Calls Try.prog 25 #[.agg x] w fun o w' => o = .returned (.int .i64 v) ∧ Adds w w') ∨ (e == 0) = false)) ∧
      (∃ e v x, Hid (∀ w, Calls Try.prog 22 #[.agg (bk l (.slice a L.length cap)), .int .i64 i, .int .i64 n] w fun o w' => o = .returned (.tuple #[.agg x, .int .i64 e]) ∧ Adds w w') ∧ Plain x ∧ x.size = 25 ∧ (e = 0 ∧ v = wrap64 (T - n) ∧ Hid (∀ w, Calls Try.prog 25 #[.agg x] w fun o w' => o = .returned (.int .i64 v) ∧ Adds w w') ∨ (e == 0) = false)) := by
    by_cases hr : i < 0 ∨ 7 < i ∨ n < 0 ∨ 1099511627776 < n
    · exact ⟨⟨4, 0, zB, fun w => purseGive_range l hl a L.length cap i n w hi hr, plain_zB, size_zB, .inr (by decide)⟩, ⟨4, 0, zB, fun w => pursePay_range l hl a L.length cap i n w hi hr, plain_zB, size_zB, .inr (by decide)⟩⟩
    have r1 : 0 ≤ i := by omega
    have r2 : i ≤ 7 := by omega
    have r3 : 0 ≤ n := by omega
    have r4 : n ≤ 1099511627776 := by omega
    have r5 : i < 8 := by omega
    have r6 : 16 + i.toNat < 24 := by omega
    have hp := hx _ (nth_mem (l := l) (i := 16 + i.toNat) (by omega))
    have HP := Lib.hid hp
    obtain ⟨p1, p2⟩ := hp
    have ft : ∀ v, totW (p8 (l.set (16 + i.toNat) v) 2) 0 = wrap64 (T + (v - nth l (16 + i.toNat))) := fun v => by rw [tot_set l hl i.toNat (by omega) v, dT, dp]
    refine ⟨?_, ?_⟩
    · by_cases ho : 1099511627776 < nth l (16 + i.toNat) + n
      · exact ⟨7, 0, zB, fun w => purseGive_over l hl a L.length cap i n w r1 r2 r3 r4 HP.out ho, plain_zB, size_zB, .inr (by decide)⟩
      · refine ⟨0, _, _, fun w => purseGive_ok l hl a L.length cap i n w r1 r2 r3 r4 HP.out (by omega), plain_bk_slice _ _ _ _, by rw [size_bk, List.length_set, hl], .inl ⟨rfl, rfl, fun w => ?_⟩⟩
        have := Total_any (l.set (16 + i.toNat) (nth l (16 + i.toNat) + n)) (by rw [List.length_set]; exact hl) a L.length cap w
        rw [ft, show nth l (16 + i.toNat) + n - nth l (16 + i.toNat) = n from by omega] at this
        exact this
    · by_cases ho : nth l (16 + i.toNat) < n
      · exact ⟨11, 0, zB, fun w => pursePay_short l hl a L.length cap i n w r1 r2 r3 r4 ho, plain_zB, size_zB, .inr (by decide)⟩
      · refine ⟨0, _, _, fun w => pursePay_ok l hl a L.length cap i n w r1 r2 r3 r4 HP.out ho, plain_bk_slice _ _ _ _, by rw [size_bk, List.length_set, hl], .inl ⟨rfl, rfl, fun w => ?_⟩⟩
        have := Total_any (l.set (16 + i.toNat) (nth l (16 + i.toNat) - n)) (by rw [List.length_set]; exact hl) a L.length cap w
        rw [ft, show T + (nth l (16 + i.toNat) - n - nth l (16 + i.toNat)) = T - n from by omega] at this
        exact this
  obtain ⟨⟨e1, v1, x1, G1, P1, S1, Q1⟩, ⟨e2, v2, x2, G2, P2, S2, Q2⟩⟩ := D
  have G3 : Hid (∀ w, Calls Try.prog 25 #[.agg (bk l (.slice a L.length cap))] w fun o w' => o = .returned (.int .i64 T) ∧ Adds w w') := fun w => by rw [dT, dp]; exact Total_any l hl a L.length cap w
  clear dT dp hx hn hi
  go_enter Try.func6, Try.ntmps6
  go_wp2_with fail
  refine (alive14 _).mono ?_
  rintro e w1 ⟨rfl, nd, os, rfl⟩
  go_wp2_with fail
  go_loop [7, 8] (fun s k => ∃ (j : Nat) (z : Int), j ≤ 8 ∧ k = .int .i64 j ∧ s = .int .i64 z ∧ Hid (totW p 0 = totW (p.drop j) z)) (fun _ k => 8 - (intOf k).toNat)
  case atStart => exact ⟨0, 0, Nat.zero_le _, rfl, rfl, rfl⟩
  case round =>
    obtain ⟨j, z, hj, rfl, rfl, hs⟩ := hrel
    by_cases hlt : j < 8
    · have ht := Lib.hid (totW_step p j z (by omega))
      have hN := Lib.hid (HN8.out j hlt)
      have hj2 : 16 + j < 24 := by omega
      go_wp2_with fail
      go_round
      case rel => exact ⟨j + 1, _, by omega, by go_num, rfl, by rw [hN.out]; exact hs.out.trans ht.out⟩
      case measure => simp [intOf]; omega
    · have hd : p.drop j = [] := List.drop_eq_nil_of_le (by omega)
      have hz : z = T := by have := hs.out; rw [hd] at this; rw [HT.out, this]; rfl
      subst hz
      clear hd
      rcases Q1 with ⟨rfl, rfl, Q1⟩ | Q1 <;> rcases Q2 with ⟨rfl, rfl, Q2⟩ | Q2
      · go_wp2_with fail
        refine (G1.out _).mono ?_
        rintro e w1 ⟨rfl, nd, os, rfl⟩
        go_wp2_with fail
        refine (G2.out _).mono ?_
        rintro e w1 ⟨rfl, nd, os, rfl⟩
        go_wp2_with fail
        refine (G3.out _).mono ?_
        rintro e w1 ⟨rfl, nd, os, rfl⟩
        go_wp2_with fail
        refine (Q1.out _).mono ?_
        rintro e w1 ⟨rfl, nd, os, rfl⟩
        go_wp2_with fail
        refine (Q2.out _).mono ?_
        rintro e w1 ⟨rfl, nd, os, rfl⟩
        go_wp2_with fail
        go_ret
        exact ⟨by simp, (by repeat (first | exact Adds.refl _ | apply Adds.more | apply Adds.alloc | apply Adds.drewN | apply Adds.drew))⟩
      · go_wp2_with fail
        have k2 : (e2 != 0) = true := by simp [bne, Q2]
        refine (G1.out _).mono ?_
        rintro e w1 ⟨rfl, nd, os, rfl⟩
        go_wp2_with fail
        refine (G2.out _).mono ?_
        rintro e w1 ⟨rfl, nd, os, rfl⟩
        go_wp2_with fail
        refine (G3.out _).mono ?_
        rintro e w1 ⟨rfl, nd, os, rfl⟩
        go_wp2_with fail
        refine (Q1.out _).mono ?_
        rintro e w1 ⟨rfl, nd, os, rfl⟩
        go_wp2_with fail
        go_ret
        exact ⟨by simp, (by repeat (first | exact Adds.refl _ | apply Adds.more | apply Adds.alloc | apply Adds.drewN | apply Adds.drew))⟩
      · go_wp2_with fail
        have k1 : (e1 != 0) = true := by simp [bne, Q1]
        refine (G1.out _).mono ?_
        rintro e w1 ⟨rfl, nd, os, rfl⟩
        go_wp2_with fail
        refine (G2.out _).mono ?_
        rintro e w1 ⟨rfl, nd, os, rfl⟩
        go_wp2_with fail
        refine (G3.out _).mono ?_
        rintro e w1 ⟨rfl, nd, os, rfl⟩
        go_wp2_with fail
        refine (Q2.out _).mono ?_
        rintro e w1 ⟨rfl, nd, os, rfl⟩
        go_wp2_with fail
        go_ret
        exact ⟨by simp, (by repeat (first | exact Adds.refl _ | apply Adds.more | apply Adds.alloc | apply Adds.drewN | apply Adds.drew))⟩
      · go_wp2_with fail
        have k1 : (e1 != 0) = true := by simp [bne, Q1]
        have k2 : (e2 != 0) = true := by simp [bne, Q2]
        refine (G1.out _).mono ?_
        rintro e w1 ⟨rfl, nd, os, rfl⟩
        go_wp2_with fail
        refine (G2.out _).mono ?_
        rintro e w1 ⟨rfl, nd, os, rfl⟩
        go_wp2_with fail
        refine (G3.out _).mono ?_
        rintro e w1 ⟨rfl, nd, os, rfl⟩
        go_wp2_with fail
        go_ret
        exact ⟨by simp, (by repeat (first | exact Adds.refl _ | apply Adds.more | apply Adds.alloc | apply Adds.drewN | apply Adds.drew))⟩
end Go.Proofs.Ytikhhmdmmgkakaa
