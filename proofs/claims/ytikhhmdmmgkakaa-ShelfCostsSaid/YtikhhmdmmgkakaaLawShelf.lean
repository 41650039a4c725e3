/-
  The statements of layer 13 walk: ShelfAdds, ShelfBack return true. Conditions: the arguments are as told.
-/
import Derived.Test.YtikhhmdmmgkakaaStock
import Derived.Test.YtikhhmdmmgkakaaBook
namespace Go.Proofs.Ytikhhmdmmgkakaa
open Go.RowKit
set_option linter.unusedVariables false
theorem lawfine_yes (i n : Int) (w : World) (h1 : 0 ≤ i) (h2 : i ≤ 7) (h3 : 0 ≤ n) (h4 : n ≤ 1099511627776) : Calls Try.prog 39 #[.int .i64 i, .int .i64 n] w fun e w' => e = .returned (.bool true) ∧ w = w' := by
  have h5 : i < 8 := by omega
  go_enter Try.func39, Try.ntmps39
  go_wp2
  go_ret
  exact ⟨rfl, rfl⟩
theorem lawfine_no (i n : Int) (w : World) (h : i < 0 ∨ 7 < i ∨ n < 0 ∨ 1099511627776 < n) : Calls Try.prog 39 #[.int .i64 i, .int .i64 n] w fun e w' => e = .returned (.bool false) ∧ w = w' := by
  by_cases h1 : 0 ≤ i
  · by_cases h2 : i < 8
    · by_cases h3 : 0 ≤ n
      · have h4 : ¬ n ≤ 1099511627776 := by omega
        clear h
        go_enter Try.func39, Try.ntmps39
        go_wp2
        go_ret
        exact ⟨by simp, rfl⟩
      · clear h
        go_enter Try.func39, Try.ntmps39
        go_wp2
        go_ret
        exact ⟨by simp, rfl⟩
    · clear h
      go_enter Try.func39, Try.ntmps39
      go_wp2
      go_ret
      exact ⟨by simp, rfl⟩
  · clear h
    go_enter Try.func39, Try.ntmps39
    go_wp2
    go_ret
    exact ⟨by simp, rfl⟩
/-! The law's own example. -/
theorem alive13 (w : World) : Calls Try.prog 36 #[] w fun e w' => e = .returned (.bool true) ∧ Adds w w' := by
  obtain ⟨l1, d1⟩ : ∃ l1, l1 = z24.set 2 5 := ⟨_, rfl⟩
  obtain ⟨l2, d2⟩ : ∃ l2, l2 = l1.set 10 3 := ⟨_, rfl⟩
  have s1 : l1.length = 24 := by rw [d1, List.length_set, len_z24]
  have s2 : l2.length = 24 := by rw [d2, List.length_set, s1]
  have v1 : nth l1 2 = 5 := by rw [d1]; decide
  have v2 : nth l2 10 = 3 := by rw [d2, d1]; decide
  have C1 : Hid (∀ w, Calls Try.prog 41 #[.agg zB, .int .i64 2, .int .i64 5] w fun e w' => e = .returned (.tuple #[.agg (bk l1 (.slice none 0 0)), .int .i64 0]) ∧ Adds w w') := fun w => by
    have := shelfAdd_ok z24 len_z24 none 0 0 2 5 w (by decide) (by decide) (by decide) (by decide) (by decide) (by decide)
    rw [d1]
    exact this
  have C2 : Hid (∀ w, Calls Try.prog 40 #[.agg (bk l1 (.slice none 0 0)), .int .i64 2, .int .i64 6] w fun e w' => e = .returned (.tuple #[.agg zB, .int .i64 11]) ∧ Adds w w') := fun w =>
    shelfTake_short l1 s1 none 0 0 2 6 w (by decide) (by decide) (by decide) (by decide) (by show nth l1 2 < 6; rw [v1]; decide)
  have C3 : Hid (∀ w, Calls Try.prog 37 #[.agg (bk l1 (.slice none 0 0)), .int .i64 2, .int .i64 3] w fun e w' => e = .returned (.tuple #[.agg (bk l2 (.slice none 0 0)), .int .i64 0]) ∧ Adds w w') := fun w => by
    have := shelfPrice_ok l1 s1 none 0 0 2 3 w (by decide) (by decide) (by decide) (by decide)
    rw [d2]
    exact this
  have C4 : Hid (∀ w, Calls Try.prog 38 #[.agg (bk l2 (.slice none 0 0)), .int .i64 2, .int .i64 4] w fun e w' => e = .returned (.tuple #[.int .i64 12, .int .i64 0]) ∧ Adds w w') := fun w => by
    have := shelfCost_ok l2 s2 none 0 0 2 4 w (by decide) (by decide) (by decide) (by decide) (by show I64 (nth l2 10); rw [v2]; decide) (by show I64 (4 * nth l2 10); rw [v2]; decide) (by show ¬ 1099511627776 < 4 * nth l2 10; rw [v2]; decide)
    have e : 4 * nth l2 10 = 12 := by rw [v2]; decide
    have e' : 4 * nth l2 (8 + (2 : Int).toNat) = 12 := e
    rw [e'] at this
    exact this
  clear d1 d2
  go_enter Try.func36, Try.ntmps36
  go_wp2_with fail
  refine (C1.out _).mono ?_
  rintro e w1 ⟨rfl, nd, os, rfl⟩
  go_wp2_with fail
  refine (C2.out _).mono ?_
  rintro e w1 ⟨rfl, nd, os, rfl⟩
  go_wp2_with fail
  refine (C3.out _).mono ?_
  rintro e w1 ⟨rfl, nd, os, rfl⟩
  go_wp2_with fail
  refine (C4.out _).mono ?_
  rintro e w1 ⟨rfl, nd, os, rfl⟩
  go_wp2_with fail
  refine (Item_yes 7 _ (by decide) (by decide)).mono ?_
  rintro e w1 ⟨rfl, rfl⟩
  go_wp2_with fail
  refine (Item_no 8 _ (by decide) (by decide)).mono ?_
  rintro e w1 ⟨rfl, rfl⟩
  go_wp2_with fail
  go_ret
  exact ⟨rfl, (by repeat (first | exact Adds.refl _ | apply Adds.more | apply Adds.alloc | apply Adds.drewN | apply Adds.drew))⟩
set_option maxRecDepth 100000 in
set_option maxHeartbeats 2000000 in
theorem ShelfAdds_walk (w : World) (l : List Int) (a : Option Addr) (cap : Nat) (L : List (List Int)) (hl : l.length = 24) (hx : ∀ x ∈ l, I64 x) (hc : L.length ≤ cap) (hcap : cap ≤ maxLen) (hS : SlK w.heap.size 7 w a L) (i : Int) (hi : I64 i) (n : Int) (hn : I64 n) :
    Calls Try.prog 13 #[.agg (bk l (.slice a L.length cap)), .int .i64 i, .int .i64 n] w fun e w' => e = .returned (.bool true) ∧ Adds w w' := by
  have hlen : L.length ≤ 9223372036854775807 := by unfold maxLen at hcap; omega
  have H := Lib.hid hS
  clear hS hc hcap
  by_cases hr : i < 0 ∨ 7 < i ∨ n < 0 ∨ 1099511627776 < n
  · have HR := Lib.hid hr
    by_cases h1 : i < 0
    · have b1 : ¬ 0 ≤ i := by omega
      have Hi := Lib.hid hi
      clear hr hi hx hn
      go_enter Try.func13, Try.ntmps13
      go_wp2_with fail
      refine (alive13 _).mono ?_
      rintro e w1 ⟨rfl, nd, os, rfl⟩
      go_wp2_with fail
      refine (shelfAdd_range l hl a L.length cap i n _ Hi.out HR.out).mono ?_
      rintro e w1 ⟨rfl, nd, os, rfl⟩
      go_wp2_with fail
      refine (shelfTake_range l hl a L.length cap i n _ Hi.out HR.out).mono ?_
      rintro e w1 ⟨rfl, nd, os, rfl⟩
      go_wp2_with fail
      refine (lawfine_no i n _ HR.out).mono ?_
      rintro e w1 ⟨rfl, rfl⟩
      go_wp2_with fail
      refine (Book_zB _).mono ?_
      rintro e w1 ⟨rfl, nd, os, rfl⟩
      go_wp2_with fail
      refine (Book_zB _).mono ?_
      rintro e w1 ⟨rfl, nd, os, rfl⟩
      go_wp2_with fail
      refine (shelfHas_range l hl a L.length cap i n _ Hi.out HR.out).mono ?_
      rintro e w1 ⟨rfl, nd, os, rfl⟩
      go_wp2_with fail
      refine (Item_no i _ Hi.out (by omega)).mono ?_
      rintro e w1 ⟨rfl, rfl⟩
      go_wp2_with fail
      go_ret
      exact ⟨rfl, (by repeat (first | exact Adds.refl _ | apply Adds.more | apply Adds.alloc | apply Adds.drewN | apply Adds.drew))⟩
    by_cases h2 : 7 < i
    · have b1 : 0 ≤ i := by omega
      have b2 : decide (i < 8) = false := by simp; omega
      have Hi := Lib.hid hi
      clear hr hi hx hn
      go_enter Try.func13, Try.ntmps13
      go_wp2_with fail
      refine (alive13 _).mono ?_
      rintro e w1 ⟨rfl, nd, os, rfl⟩
      go_wp2_with fail
      refine (shelfAdd_range l hl a L.length cap i n _ Hi.out HR.out).mono ?_
      rintro e w1 ⟨rfl, nd, os, rfl⟩
      go_wp2_with fail
      refine (shelfTake_range l hl a L.length cap i n _ Hi.out HR.out).mono ?_
      rintro e w1 ⟨rfl, nd, os, rfl⟩
      go_wp2_with fail
      refine (lawfine_no i n _ HR.out).mono ?_
      rintro e w1 ⟨rfl, rfl⟩
      go_wp2_with fail
      refine (Book_zB _).mono ?_
      rintro e w1 ⟨rfl, nd, os, rfl⟩
      go_wp2_with fail
      refine (Book_zB _).mono ?_
      rintro e w1 ⟨rfl, nd, os, rfl⟩
      go_wp2_with fail
      refine (shelfHas_range l hl a L.length cap i n _ Hi.out HR.out).mono ?_
      rintro e w1 ⟨rfl, nd, os, rfl⟩
      go_wp2_with fail
      refine (Item_no i _ Hi.out (by omega)).mono ?_
      rintro e w1 ⟨rfl, rfl⟩
      go_wp2_with fail
      go_ret
      exact ⟨rfl, (by repeat (first | exact Adds.refl _ | apply Adds.more | apply Adds.alloc | apply Adds.drewN | apply Adds.drew))⟩
    have b1 : 0 ≤ i := by omega
    have b2 : i < 8 := by omega
    have Hi := Lib.hid hi
    clear hr hi hx hn
    go_enter Try.func13, Try.ntmps13
    go_wp2_with fail
    refine (alive13 _).mono ?_
    rintro e w1 ⟨rfl, nd, os, rfl⟩
    go_wp2_with fail
    refine (shelfAdd_range l hl a L.length cap i n _ Hi.out HR.out).mono ?_
    rintro e w1 ⟨rfl, nd, os, rfl⟩
    go_wp2_with fail
    refine (shelfTake_range l hl a L.length cap i n _ Hi.out HR.out).mono ?_
    rintro e w1 ⟨rfl, nd, os, rfl⟩
    go_wp2_with fail
    refine (lawfine_no i n _ HR.out).mono ?_
    rintro e w1 ⟨rfl, rfl⟩
    go_wp2_with fail
    refine (Book_zB _).mono ?_
    rintro e w1 ⟨rfl, nd, os, rfl⟩
    go_wp2_with fail
    refine (Book_zB _).mono ?_
    rintro e w1 ⟨rfl, nd, os, rfl⟩
    go_wp2_with fail
    refine (shelfHas_range l hl a L.length cap i n _ Hi.out HR.out).mono ?_
    rintro e w1 ⟨rfl, nd, os, rfl⟩
    go_wp2_with fail
    refine (Item_yes i _ (by omega) (by omega)).mono ?_
    rintro e w1 ⟨rfl, rfl⟩
    go_wp2_with fail
    go_ret
    exact ⟨rfl, (by repeat (first | exact Adds.refl _ | apply Adds.more | apply Adds.alloc | apply Adds.drewN | apply Adds.drew))⟩
  have r1 : 0 ≤ i := by omega
  have r2 : i ≤ 7 := by omega
  have r3 : 0 ≤ n := by omega
  have r4 : n ≤ 1099511627776 := by omega
  have r5 : i < 8 := by omega
  have r6 : i.toNat < 24 := by omega
  have hp := hx _ (nth_mem (l := l) (i := i.toNat) (by omega))
  have HP := Lib.hid hp
  obtain ⟨p1, p2⟩ := hp
  clear hr hx hn hi
  by_cases ho : 1099511627776 < nth l i.toNat + n
  · have HO := Lib.hid ho
    have ho' : 1099511627776 - n < nth l i.toNat := by omega
    by_cases hs : nth l i.toNat < n
    · have HS := Lib.hid hs
      clear ho
      go_enter Try.func13, Try.ntmps13
      go_wp2_with fail
      refine (alive13 _).mono ?_
      rintro e w1 ⟨rfl, nd, os, rfl⟩
      go_wp2_with fail
      refine (shelfAdd_over l hl a L.length cap i n _ r1 r2 r3 r4 HP.out (by have := HO.out; omega)).mono ?_
      rintro e w1 ⟨rfl, nd, os, rfl⟩
      go_wp2_with fail
      refine (shelfTake_short l hl a L.length cap i n _ r1 r2 r3 r4 (by have := HS.out; omega)).mono ?_
      rintro e w1 ⟨rfl, nd, os, rfl⟩
      go_wp2_with fail
      refine (lawfine_yes i n _ r1 r2 r3 r4).mono ?_
      rintro e w1 ⟨rfl, rfl⟩
      go_wp2_with fail
      refine (Book_zB _).mono ?_
      rintro e w1 ⟨rfl, nd, os, rfl⟩
      go_wp2_with fail
      refine (Book_zB _).mono ?_
      rintro e w1 ⟨rfl, nd, os, rfl⟩
      go_wp2_with fail
      refine (shelfHas_short l hl a L.length cap i n _ r1 r2 r3 r4 (by have := HS.out; omega)).mono ?_
      rintro e w1 ⟨rfl, nd, os, rfl⟩
      go_wp2_with fail
      go_ret
      exact ⟨rfl, (by repeat (first | exact Adds.refl _ | apply Adds.more | apply Adds.alloc | apply Adds.drewN | apply Adds.drew))⟩
    · have HS := Lib.hid hs
      clear ho
      go_enter Try.func13, Try.ntmps13
      go_wp2_with fail
      refine (alive13 _).mono ?_
      rintro e w1 ⟨rfl, nd, os, rfl⟩
      go_wp2_with fail
      refine (shelfAdd_over l hl a L.length cap i n _ r1 r2 r3 r4 HP.out (by have := HO.out; omega)).mono ?_
      rintro e w1 ⟨rfl, nd, os, rfl⟩
      go_wp2_with fail
      refine (shelfTake_ok l hl a L.length cap i n _ r1 r2 r3 r4 HP.out (by have := HS.out; omega)).mono ?_
      rintro e w1 ⟨rfl, nd, os, rfl⟩
      go_wp2_with fail
      refine (lawfine_yes i n _ r1 r2 r3 r4).mono ?_
      rintro e w1 ⟨rfl, rfl⟩
      go_wp2_with fail
      refine (Book_zB _).mono ?_
      rintro e w1 ⟨rfl, nd, os, rfl⟩
      go_wp2_with fail
      refine (Book_same _ (by rw [List.length_set]; exact hl) a cap L _ ?_ hlen).mono ?_
      · exact SlK.up H.out (by repeat (first | exact Adds.refl _ | apply Adds.more | apply Adds.alloc | apply Adds.drewN | apply Adds.drew))
      rintro e w1 ⟨rfl, nd, os, rfl⟩
      go_wp2_with fail
      refine (shelfHas_yes l hl a L.length cap i n _ r1 r2 r3 r4 HP.out (by have := HS.out; omega)).mono ?_
      rintro e w1 ⟨rfl, nd, os, rfl⟩
      go_wp2_with fail
      go_ret
      exact ⟨rfl, (by repeat (first | exact Adds.refl _ | apply Adds.more | apply Adds.alloc | apply Adds.drewN | apply Adds.drew))⟩
  · have HO := Lib.hid ho
    have ho' : ¬ 1099511627776 - n < nth l i.toNat := by omega
    by_cases hs : nth l i.toNat < n
    · have HS := Lib.hid hs
      clear ho
      go_enter Try.func13, Try.ntmps13
      go_wp2_with fail
      refine (alive13 _).mono ?_
      rintro e w1 ⟨rfl, nd, os, rfl⟩
      go_wp2_with fail
      refine (shelfAdd_ok l hl a L.length cap i n _ r1 r2 r3 r4 HP.out (by have := HO.out; omega)).mono ?_
      rintro e w1 ⟨rfl, nd, os, rfl⟩
      go_wp2_with fail
      refine (shelfTake_short l hl a L.length cap i n _ r1 r2 r3 r4 (by have := HS.out; omega)).mono ?_
      rintro e w1 ⟨rfl, nd, os, rfl⟩
      go_wp2_with fail
      refine (lawfine_yes i n _ r1 r2 r3 r4).mono ?_
      rintro e w1 ⟨rfl, rfl⟩
      go_wp2_with fail
      refine (Book_same _ (by rw [List.length_set]; exact hl) a cap L _ ?_ hlen).mono ?_
      · exact SlK.up H.out (by repeat (first | exact Adds.refl _ | apply Adds.more | apply Adds.alloc | apply Adds.drewN | apply Adds.drew))
      rintro e w1 ⟨rfl, nd, os, rfl⟩
      go_wp2_with fail
      refine (Book_zB _).mono ?_
      rintro e w1 ⟨rfl, nd, os, rfl⟩
      go_wp2_with fail
      refine (shelfHas_short l hl a L.length cap i n _ r1 r2 r3 r4 (by have := HS.out; omega)).mono ?_
      rintro e w1 ⟨rfl, nd, os, rfl⟩
      go_wp2_with fail
      go_ret
      exact ⟨rfl, (by repeat (first | exact Adds.refl _ | apply Adds.more | apply Adds.alloc | apply Adds.drewN | apply Adds.drew))⟩
    · have HS := Lib.hid hs
      clear ho
      go_enter Try.func13, Try.ntmps13
      go_wp2_with fail
      refine (alive13 _).mono ?_
      rintro e w1 ⟨rfl, nd, os, rfl⟩
      go_wp2_with fail
      refine (shelfAdd_ok l hl a L.length cap i n _ r1 r2 r3 r4 HP.out (by have := HO.out; omega)).mono ?_
      rintro e w1 ⟨rfl, nd, os, rfl⟩
      go_wp2_with fail
      refine (shelfTake_ok l hl a L.length cap i n _ r1 r2 r3 r4 HP.out (by have := HS.out; omega)).mono ?_
      rintro e w1 ⟨rfl, nd, os, rfl⟩
      go_wp2_with fail
      refine (lawfine_yes i n _ r1 r2 r3 r4).mono ?_
      rintro e w1 ⟨rfl, rfl⟩
      go_wp2_with fail
      refine (Book_same _ (by rw [List.length_set]; exact hl) a cap L _ ?_ hlen).mono ?_
      · exact SlK.up H.out (by repeat (first | exact Adds.refl _ | apply Adds.more | apply Adds.alloc | apply Adds.drewN | apply Adds.drew))
      rintro e w1 ⟨rfl, nd, os, rfl⟩
      go_wp2_with fail
      refine (Book_same _ (by rw [List.length_set]; exact hl) a cap L _ ?_ hlen).mono ?_
      · exact SlK.up H.out (by repeat (first | exact Adds.refl _ | apply Adds.more | apply Adds.alloc | apply Adds.drewN | apply Adds.drew))
      rintro e w1 ⟨rfl, nd, os, rfl⟩
      go_wp2_with fail
      refine (shelfHas_yes l hl a L.length cap i n _ r1 r2 r3 r4 HP.out (by have := HS.out; omega)).mono ?_
      rintro e w1 ⟨rfl, nd, os, rfl⟩
      go_wp2_with fail
      go_ret
      exact ⟨rfl, (by repeat (first | exact Adds.refl _ | apply Adds.more | apply Adds.alloc | apply Adds.drewN | apply Adds.drew))⟩
set_option maxRecDepth 100000 in
set_option maxHeartbeats 2000000 in
theorem ShelfBack_walk (w : World) (l : List Int) (a : Option Addr) (cap : Nat) (L : List (List Int)) (hl : l.length = 24) (hx : ∀ x ∈ l, I64 x) (hc : L.length ≤ cap) (hcap : cap ≤ maxLen) (hS : SlK w.heap.size 7 w a L) (i : Int) (hi : I64 i) (n : Int) (hn : I64 n) :
    Calls Try.prog 12 #[.agg (bk l (.slice a L.length cap)), .int .i64 i, .int .i64 n] w fun e w' => e = .returned (.bool true) ∧ Adds w w' := by
  have hlen : L.length ≤ 9223372036854775807 := by unfold maxLen at hcap; omega
  have H := Lib.hid hS
  clear hS hc hcap
  by_cases hr : i < 0 ∨ 7 < i ∨ n < 0 ∨ 1099511627776 < n
  · have HR := Lib.hid hr
    have Hi := Lib.hid hi
    clear hr hi hx hn
    go_enter Try.func12, Try.ntmps12
    go_wp2_with fail
    refine (alive13 _).mono ?_
    rintro e w1 ⟨rfl, nd, os, rfl⟩
    go_wp2_with fail
    refine (shelfTake_range l hl a L.length cap i n _ Hi.out HR.out).mono ?_
    rintro e w1 ⟨rfl, nd, os, rfl⟩
    go_wp2_with fail
    go_ret
    exact ⟨rfl, (by repeat (first | exact Adds.refl _ | apply Adds.more | apply Adds.alloc | apply Adds.drewN | apply Adds.drew))⟩
  have r1 : 0 ≤ i := by omega
  have r2 : i ≤ 7 := by omega
  have r3 : 0 ≤ n := by omega
  have r4 : n ≤ 1099511627776 := by omega
  have r5 : i < 8 := by omega
  have r6 : i.toNat < 24 := by omega
  have hp := hx _ (nth_mem (l := l) (i := i.toNat) (by omega))
  have HP := Lib.hid hp
  obtain ⟨p1, p2⟩ := hp
  clear hr hx hn hi
  by_cases ho : nth l i.toNat < n
  · have HO := Lib.hid ho
    clear ho
    go_enter Try.func12, Try.ntmps12
    go_wp2_with fail
    refine (alive13 _).mono ?_
    rintro e w1 ⟨rfl, nd, os, rfl⟩
    go_wp2_with fail
    refine (shelfTake_short l hl a L.length cap i n _ r1 r2 r3 r4 (by have := HO.out; omega)).mono ?_
    rintro e w1 ⟨rfl, nd, os, rfl⟩
    go_wp2_with fail
    go_ret
    exact ⟨rfl, (by repeat (first | exact Adds.refl _ | apply Adds.more | apply Adds.alloc | apply Adds.drewN | apply Adds.drew))⟩
  obtain ⟨l1, d1⟩ : ∃ l1, l1 = l.set (i.toNat) (nth l (i.toNat) - n) := ⟨_, rfl⟩
  have s1 : l1.length = 24 := by rw [d1, List.length_set, hl]
  have v1 : nth l1 (i.toNat) = nth l (i.toNat) - n := by rw [d1, nth_set (by omega), if_pos rfl]
  have V1 : Hid (I64 (nth l1 (i.toNat))) := by rw [v1]; exact ⟨by omega, by omega⟩
  have C1 : Hid (∀ w, Calls Try.prog 40 #[.agg (bk l (.slice a L.length cap)), .int .i64 i, .int .i64 n] w fun e w' => e = .returned (.tuple #[.agg (bk l1 (.slice a L.length cap)), .int .i64 0]) ∧ Adds w w') := fun w => by rw [d1]; exact shelfTake_ok l hl a L.length cap i n w r1 r2 r3 r4 HP.out (by omega)
  by_cases hbig : 1099511627776 < nth l i.toNat
  · have C2 : Hid (∀ w, Calls Try.prog 41 #[.agg (bk l1 (.slice a L.length cap)), .int .i64 i, .int .i64 n] w fun e w' => e = .returned (.tuple #[.agg zB, .int .i64 7]) ∧ Adds w w') := fun w => shelfAdd_over l1 s1 a L.length cap i n w r1 r2 r3 r4 V1.out (by rw [v1]; omega)
    clear d1 v1 ho
    go_enter Try.func12, Try.ntmps12
    go_wp2_with fail
    refine (alive13 _).mono ?_
    rintro e w1 ⟨rfl, nd, os, rfl⟩
    go_wp2_with fail
    refine (C1.out _).mono ?_
    rintro e w1 ⟨rfl, nd, os, rfl⟩
    go_wp2_with fail
    refine (C2.out _).mono ?_
    rintro e w1 ⟨rfl, nd, os, rfl⟩
    go_wp2_with fail
    go_ret
    exact ⟨rfl, (by repeat (first | exact Adds.refl _ | apply Adds.more | apply Adds.alloc | apply Adds.drewN | apply Adds.drew))⟩
  have e2 : l1.set (i.toNat) (nth l1 (i.toNat) + n) = l := by
    rw [v1, d1, List.set_set, show nth l (i.toNat) - n + n = nth l (i.toNat) from by omega, nth_eq (by omega)]
    exact List.set_getElem_self _
  have C2 : Hid (∀ w, Calls Try.prog 41 #[.agg (bk l1 (.slice a L.length cap)), .int .i64 i, .int .i64 n] w fun e w' => e = .returned (.tuple #[.agg (bk l (.slice a L.length cap)), .int .i64 0]) ∧ Adds w w') := fun w => by
    have := shelfAdd_ok l1 s1 a L.length cap i n w r1 r2 r3 r4 V1.out (by rw [v1]; omega)
    rw [e2] at this
    exact this
  clear d1 v1 e2 ho hbig
  go_enter Try.func12, Try.ntmps12
  go_wp2_with fail
  refine (alive13 _).mono ?_
  rintro e w1 ⟨rfl, nd, os, rfl⟩
  go_wp2_with fail
  refine (C1.out _).mono ?_
  rintro e w1 ⟨rfl, nd, os, rfl⟩
  go_wp2_with fail
  refine (C2.out _).mono ?_
  rintro e w1 ⟨rfl, nd, os, rfl⟩
  go_wp2_with fail
  refine (Book_same _ hl a cap L _ ?_ hlen).mono ?_
  · exact SlK.up H.out (by repeat (first | exact Adds.refl _ | apply Adds.more | apply Adds.alloc | apply Adds.drewN | apply Adds.drew))
  rintro e w1 ⟨rfl, nd, os, rfl⟩
  go_wp2_with fail
  go_ret
  exact ⟨rfl, (by repeat (first | exact Adds.refl _ | apply Adds.more | apply Adds.alloc | apply Adds.drewN | apply Adds.drew))⟩
end Go.Proofs.Ytikhhmdmmgkakaa
