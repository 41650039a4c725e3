/-
  The statement ShelfCosts walks, part C: it returns true. Conditions: the arguments are as told.
-/
import Derived.Test.YtikhhmdmmgkakaaLawShelf
import Derived.Test.YtikhhmdmmgkakaaLawNum
namespace Go.Proofs.Ytikhhmdmmgkakaa
open Go.RowKit
set_option linter.unusedVariables false
set_option maxRecDepth 100000 in
set_option maxHeartbeats 2000000 in
theorem Costs_bok_no_min (w : World) (l : List Int) (a : Option Addr) (cap : Nat) (L : List (List Int)) (hl : l.length = 24) (hlen : L.length ≤ 9223372036854775807) (H : Hid (SlK w.heap.size 7 w a L)) (i : Int) (Hi : Hid (I64 i)) (n : Int) (Hn : Hid (I64 n)) (r1 : 0 ≤ i) (r2 : i ≤ 7) (r3 : 0 ≤ n) (r4 : n ≤ 1099511627776) (h1 : ¬ i < 0) (h2 : ¬ 7 < i) (h3 : ¬ n < 0) (HP : Hid (I64 (nth l (8 + i.toNat)))) (h4 : ¬ 1073741824 < n) (HF : Hid (¬ I64 (n * nth l (8 + i.toNat)))) (k1 : (nth l (8 + i.toNat) == -9223372036854775808) = true) (k2 : 1 < n) :
    Calls Try.prog 11 #[.agg (bk l (.slice a L.length cap)), .int .i64 i, .int .i64 n] w fun e w' => e = .returned (.bool true) ∧ Adds w w' := by
  have r5 : i < 8 := by omega
  have r6 : 8 + i.toNat < 24 := by omega
  have q4 : n ≤ 1073741824 := by omega
  obtain ⟨p, dp⟩ : ∃ p, p = wrap64 (n * nth l (8 + i.toNat)) := ⟨_, rfl⟩
  have e1 : wrap64 (n * nth l (8 + i.toNat)) = p := dp.symm
  clear dp
  go_enter Try.func11, Try.ntmps11
  go_wp2_with fail
  refine (alive13 _).mono ?_
  rintro e w1 ⟨rfl, nd, os, rfl⟩
  go_wp2_with fail
  refine (shelfPrice_ok l hl a L.length cap i n _ r1 r2 r3 q4).mono ?_
  rintro e w1 ⟨rfl, nd, os, rfl⟩
  go_wp2_with fail
  refine (Book_same _ (by rw [List.length_set]; exact hl) a cap L _ ?_ hlen).mono ?_
  · exact SlK.up H.out (by repeat (first | exact Adds.refl _ | apply Adds.more | apply Adds.alloc | apply Adds.drewN | apply Adds.drew))
  rintro e w1 ⟨rfl, nd, os, rfl⟩
  go_wp2_with fail
  refine (shelfCost_no l hl a L.length cap i n _ r1 r2 r3 r4 HP.out HF.out).mono ?_
  rintro e w1 ⟨rfl, nd, os, rfl⟩
  go_wp2_with fail
  refine (lawfine_yes i n _ r1 r2 r3 r4).mono ?_
  rintro e w1 ⟨rfl, rfl⟩
  go_wp2_with fail
  go_quiet (fail)
  go_wp2_with fail
  go_ret
  exact ⟨rfl, (by repeat (first | exact Adds.refl _ | apply Adds.more | apply Adds.alloc | apply Adds.drewN | apply Adds.drew))⟩
set_option maxRecDepth 100000 in
set_option maxHeartbeats 2000000 in
theorem Costs_bok_no_div (w : World) (l : List Int) (a : Option Addr) (cap : Nat) (L : List (List Int)) (hl : l.length = 24) (hlen : L.length ≤ 9223372036854775807) (H : Hid (SlK w.heap.size 7 w a L)) (i : Int) (Hi : Hid (I64 i)) (n : Int) (Hn : Hid (I64 n)) (r1 : 0 ≤ i) (r2 : i ≤ 7) (r3 : 0 ≤ n) (r4 : n ≤ 1099511627776) (h1 : ¬ i < 0) (h2 : ¬ 7 < i) (h3 : ¬ n < 0) (HP : Hid (I64 (nth l (8 + i.toNat)))) (h4 : ¬ 1073741824 < n) (HF : Hid (¬ I64 (n * nth l (8 + i.toNat)))) (k1 : (nth l (8 + i.toNat) == -9223372036854775808) = false) (k2 : 0 < n) :
    Calls Try.prog 11 #[.agg (bk l (.slice a L.length cap)), .int .i64 i, .int .i64 n] w fun e w' => e = .returned (.bool true) ∧ Adds w w' := by
  have r5 : i < 8 := by omega
  have r6 : 8 + i.toNat < 24 := by omega
  have q4 : n ≤ 1073741824 := by omega
  obtain ⟨p, dp⟩ : ∃ p, p = wrap64 (n * nth l (8 + i.toNat)) := ⟨_, rfl⟩
  have hq : (wrap64 (p.tdiv n) != nth l (8 + i.toNat)) = true := by rw [dp, Int.mul_comm]; exact quo_no (by omega) (by omega) HP.out Hn.out (by rw [Int.mul_comm]; exact HF.out)
  have e1 : wrap64 (n * nth l (8 + i.toNat)) = p := dp.symm
  clear dp
  go_enter Try.func11, Try.ntmps11
  go_wp2_with fail
  refine (alive13 _).mono ?_
  rintro e w1 ⟨rfl, nd, os, rfl⟩
  go_wp2_with fail
  refine (shelfPrice_ok l hl a L.length cap i n _ r1 r2 r3 q4).mono ?_
  rintro e w1 ⟨rfl, nd, os, rfl⟩
  go_wp2_with fail
  refine (Book_same _ (by rw [List.length_set]; exact hl) a cap L _ ?_ hlen).mono ?_
  · exact SlK.up H.out (by repeat (first | exact Adds.refl _ | apply Adds.more | apply Adds.alloc | apply Adds.drewN | apply Adds.drew))
  rintro e w1 ⟨rfl, nd, os, rfl⟩
  go_wp2_with fail
  refine (shelfCost_no l hl a L.length cap i n _ r1 r2 r3 r4 HP.out HF.out).mono ?_
  rintro e w1 ⟨rfl, nd, os, rfl⟩
  go_wp2_with fail
  refine (lawfine_yes i n _ r1 r2 r3 r4).mono ?_
  rintro e w1 ⟨rfl, rfl⟩
  go_wp2_with fail
  go_quiet (fail)
  go_wp2_with fail
  go_ret
  exact ⟨rfl, (by repeat (first | exact Adds.refl _ | apply Adds.more | apply Adds.alloc | apply Adds.drewN | apply Adds.drew))⟩
set_option maxRecDepth 100000 in
set_option maxHeartbeats 2000000 in
theorem Costs_bok_over_big (w : World) (l : List Int) (a : Option Addr) (cap : Nat) (L : List (List Int)) (hl : l.length = 24) (hlen : L.length ≤ 9223372036854775807) (H : Hid (SlK w.heap.size 7 w a L)) (i : Int) (Hi : Hid (I64 i)) (n : Int) (Hn : Hid (I64 n)) (r1 : 0 ≤ i) (r2 : i ≤ 7) (r3 : 0 ≤ n) (r4 : n ≤ 1099511627776) (h1 : ¬ i < 0) (h2 : ¬ 7 < i) (h3 : ¬ n < 0) (HP : Hid (I64 (nth l (8 + i.toNat)))) (h4 : ¬ 1073741824 < n) (HF : Hid (I64 (n * nth l (8 + i.toNat)))) (HO : Hid (1099511627776 < n * nth l (8 + i.toNat))) (k1 : (nth l (8 + i.toNat) == -9223372036854775808) = false) (k2 : 0 < n) :
    Calls Try.prog 11 #[.agg (bk l (.slice a L.length cap)), .int .i64 i, .int .i64 n] w fun e w' => e = .returned (.bool true) ∧ Adds w w' := by
  have r5 : i < 8 := by omega
  have r6 : 8 + i.toNat < 24 := by omega
  have q4 : n ≤ 1073741824 := by omega
  obtain ⟨p, dp⟩ : ∃ p, p = n * nth l (8 + i.toNat) := ⟨_, rfl⟩
  have e2 : n * nth l (8 + i.toNat) = p := dp.symm
  have e3 : wrap64 p = p := by rw [dp]; exact wrap_in HF.out
  have hq : (wrap64 (p.tdiv n) != nth l (8 + i.toNat)) = false := by rw [dp, Int.mul_comm]; exact quo_yes (by omega) HP.out
  have hd : decide (1099511627776 < p) = true := by rw [dp]; simpa using HO.out
  clear dp
  go_enter Try.func11, Try.ntmps11
  go_wp2_with fail
  refine (alive13 _).mono ?_
  rintro e w1 ⟨rfl, nd, os, rfl⟩
  go_wp2_with fail
  refine (shelfPrice_ok l hl a L.length cap i n _ r1 r2 r3 q4).mono ?_
  rintro e w1 ⟨rfl, nd, os, rfl⟩
  go_wp2_with fail
  refine (Book_same _ (by rw [List.length_set]; exact hl) a cap L _ ?_ hlen).mono ?_
  · exact SlK.up H.out (by repeat (first | exact Adds.refl _ | apply Adds.more | apply Adds.alloc | apply Adds.drewN | apply Adds.drew))
  rintro e w1 ⟨rfl, nd, os, rfl⟩
  go_wp2_with fail
  refine (shelfCost_over l hl a L.length cap i n _ r1 r2 r3 r4 HP.out HF.out HO.out).mono ?_
  rintro e w1 ⟨rfl, nd, os, rfl⟩
  go_wp2_with fail
  refine (lawfine_yes i n _ r1 r2 r3 r4).mono ?_
  rintro e w1 ⟨rfl, rfl⟩
  go_wp2_with fail
  go_quiet (fail)
  go_wp2_with fail
  go_ret
  exact ⟨rfl, (by repeat (first | exact Adds.refl _ | apply Adds.more | apply Adds.alloc | apply Adds.drewN | apply Adds.drew))⟩
set_option maxRecDepth 100000 in
set_option maxHeartbeats 2000000 in
theorem Costs_bok_ok_zero (w : World) (l : List Int) (a : Option Addr) (cap : Nat) (L : List (List Int)) (hl : l.length = 24) (hlen : L.length ≤ 9223372036854775807) (H : Hid (SlK w.heap.size 7 w a L)) (i : Int) (Hi : Hid (I64 i))  (r1 : 0 ≤ i) (r2 : i ≤ 7) (h1 : ¬ i < 0) (h2 : ¬ 7 < i) (HP : Hid (I64 (nth l (8 + i.toNat)))) (HF : Hid (I64 (0 * nth l (8 + i.toNat)))) (HO : Hid (¬ 1099511627776 < 0 * nth l (8 + i.toNat))) (k1 : (nth l (8 + i.toNat) == -9223372036854775808) = false) :
    Calls Try.prog 11 #[.agg (bk l (.slice a L.length cap)), .int .i64 i, .int .i64 0] w fun e w' => e = .returned (.bool true) ∧ Adds w w' := by
  have r3 : (0 : Int) ≤ 0 := by decide
  have r4 : (0 : Int) ≤ 1099511627776 := by decide
  have q4 : (0 : Int) ≤ 1073741824 := by decide
  have r5 : i < 8 := by omega
  have r6 : 8 + i.toNat < 24 := by omega
  go_enter Try.func11, Try.ntmps11
  go_wp2_with fail
  refine (alive13 _).mono ?_
  rintro e w1 ⟨rfl, nd, os, rfl⟩
  go_wp2_with fail
  refine (shelfPrice_ok l hl a L.length cap i 0 _ r1 r2 r3 q4).mono ?_
  rintro e w1 ⟨rfl, nd, os, rfl⟩
  go_wp2_with fail
  refine (Book_same _ (by rw [List.length_set]; exact hl) a cap L _ ?_ hlen).mono ?_
  · exact SlK.up H.out (by repeat (first | exact Adds.refl _ | apply Adds.more | apply Adds.alloc | apply Adds.drewN | apply Adds.drew))
  rintro e w1 ⟨rfl, nd, os, rfl⟩
  go_wp2_with fail
  refine (shelfCost_ok l hl a L.length cap i 0 _ r1 r2 r3 r4 HP.out HF.out (Int.not_lt.2 (by have := HO.out; rw [Int.zero_mul]; decide))).mono ?_
  rintro e w1 ⟨rfl, nd, os, rfl⟩
  go_wp2_with fail
  refine (lawfine_yes i 0 _ r1 r2 r3 r4).mono ?_
  rintro e w1 ⟨rfl, rfl⟩
  go_wp2_with fail
  go_quiet (fail)
  go_wp2_with fail
  go_ret
  exact ⟨by simp, (by repeat (first | exact Adds.refl _ | apply Adds.more | apply Adds.alloc | apply Adds.drewN | apply Adds.drew))⟩
set_option maxRecDepth 100000 in
set_option maxHeartbeats 2000000 in
theorem Costs_bok_ok_zmin (w : World) (l : List Int) (a : Option Addr) (cap : Nat) (L : List (List Int)) (hl : l.length = 24) (hlen : L.length ≤ 9223372036854775807) (H : Hid (SlK w.heap.size 7 w a L)) (i : Int) (Hi : Hid (I64 i))  (r1 : 0 ≤ i) (r2 : i ≤ 7) (h1 : ¬ i < 0) (h2 : ¬ 7 < i) (HP : Hid (I64 (nth l (8 + i.toNat)))) (HF : Hid (I64 (0 * nth l (8 + i.toNat)))) (HO : Hid (¬ 1099511627776 < 0 * nth l (8 + i.toNat))) (k1 : (nth l (8 + i.toNat) == -9223372036854775808) = true) :
    Calls Try.prog 11 #[.agg (bk l (.slice a L.length cap)), .int .i64 i, .int .i64 0] w fun e w' => e = .returned (.bool true) ∧ Adds w w' := by
  have r3 : (0 : Int) ≤ 0 := by decide
  have r4 : (0 : Int) ≤ 1099511627776 := by decide
  have q4 : (0 : Int) ≤ 1073741824 := by decide
  have r5 : i < 8 := by omega
  have r6 : 8 + i.toNat < 24 := by omega
  go_enter Try.func11, Try.ntmps11
  go_wp2_with fail
  refine (alive13 _).mono ?_
  rintro e w1 ⟨rfl, nd, os, rfl⟩
  go_wp2_with fail
  refine (shelfPrice_ok l hl a L.length cap i 0 _ r1 r2 r3 q4).mono ?_
  rintro e w1 ⟨rfl, nd, os, rfl⟩
  go_wp2_with fail
  refine (Book_same _ (by rw [List.length_set]; exact hl) a cap L _ ?_ hlen).mono ?_
  · exact SlK.up H.out (by repeat (first | exact Adds.refl _ | apply Adds.more | apply Adds.alloc | apply Adds.drewN | apply Adds.drew))
  rintro e w1 ⟨rfl, nd, os, rfl⟩
  go_wp2_with fail
  refine (shelfCost_ok l hl a L.length cap i 0 _ r1 r2 r3 r4 HP.out HF.out (Int.not_lt.2 (by have := HO.out; rw [Int.zero_mul]; decide))).mono ?_
  rintro e w1 ⟨rfl, nd, os, rfl⟩
  go_wp2_with fail
  refine (lawfine_yes i 0 _ r1 r2 r3 r4).mono ?_
  rintro e w1 ⟨rfl, rfl⟩
  go_wp2_with fail
  go_quiet (fail)
  go_wp2_with fail
  go_ret
  exact ⟨by simp, (by repeat (first | exact Adds.refl _ | apply Adds.more | apply Adds.alloc | apply Adds.drewN | apply Adds.drew))⟩
set_option maxRecDepth 100000 in
set_option maxHeartbeats 2000000 in
theorem Costs_bok_ok_one (w : World) (l : List Int) (a : Option Addr) (cap : Nat) (L : List (List Int)) (hl : l.length = 24) (hlen : L.length ≤ 9223372036854775807) (H : Hid (SlK w.heap.size 7 w a L)) (i : Int) (Hi : Hid (I64 i))  (r1 : 0 ≤ i) (r2 : i ≤ 7) (h1 : ¬ i < 0) (h2 : ¬ 7 < i) (HP : Hid (I64 (nth l (8 + i.toNat)))) (HF : Hid (I64 (1 * nth l (8 + i.toNat)))) (HO : Hid (¬ 1099511627776 < 1 * nth l (8 + i.toNat))) (k1 : (nth l (8 + i.toNat) == -9223372036854775808) = true) :
    Calls Try.prog 11 #[.agg (bk l (.slice a L.length cap)), .int .i64 i, .int .i64 1] w fun e w' => e = .returned (.bool true) ∧ Adds w w' := by
  have r3 : (0 : Int) ≤ 1 := by decide
  have r4 : (1 : Int) ≤ 1099511627776 := by decide
  have q4 : (1 : Int) ≤ 1073741824 := by decide
  have r5 : i < 8 := by omega
  have r6 : 8 + i.toNat < 24 := by omega
  have e3 : wrap64 (nth l (8 + i.toNat)) = nth l (8 + i.toNat) := wrap_in HP.out
  have hd : decide (1099511627776 < nth l (8 + i.toNat)) = false := by have := HO.out; rw [Int.one_mul] at this; simpa using this
  go_enter Try.func11, Try.ntmps11
  go_wp2_with fail
  refine (alive13 _).mono ?_
  rintro e w1 ⟨rfl, nd, os, rfl⟩
  go_wp2_with fail
  refine (shelfPrice_ok l hl a L.length cap i 1 _ r1 r2 r3 q4).mono ?_
  rintro e w1 ⟨rfl, nd, os, rfl⟩
  go_wp2_with fail
  refine (Book_same _ (by rw [List.length_set]; exact hl) a cap L _ ?_ hlen).mono ?_
  · exact SlK.up H.out (by repeat (first | exact Adds.refl _ | apply Adds.more | apply Adds.alloc | apply Adds.drewN | apply Adds.drew))
  rintro e w1 ⟨rfl, nd, os, rfl⟩
  go_wp2_with fail
  refine (shelfCost_ok l hl a L.length cap i 1 _ r1 r2 r3 r4 HP.out HF.out (by have := HO.out; omega)).mono ?_
  rintro e w1 ⟨rfl, nd, os, rfl⟩
  go_wp2_with fail
  refine (lawfine_yes i 1 _ r1 r2 r3 r4).mono ?_
  rintro e w1 ⟨rfl, rfl⟩
  go_wp2_with fail
  go_quiet (fail)
  go_wp2_with fail
  go_ret
  exact ⟨by simp, (by repeat (first | exact Adds.refl _ | apply Adds.more | apply Adds.alloc | apply Adds.drewN | apply Adds.drew))⟩
set_option maxRecDepth 100000 in
set_option maxHeartbeats 2000000 in
theorem Costs_bok_ok_big (w : World) (l : List Int) (a : Option Addr) (cap : Nat) (L : List (List Int)) (hl : l.length = 24) (hlen : L.length ≤ 9223372036854775807) (H : Hid (SlK w.heap.size 7 w a L)) (i : Int) (Hi : Hid (I64 i)) (n : Int) (Hn : Hid (I64 n)) (r1 : 0 ≤ i) (r2 : i ≤ 7) (r3 : 0 ≤ n) (r4 : n ≤ 1099511627776) (h1 : ¬ i < 0) (h2 : ¬ 7 < i) (h3 : ¬ n < 0) (HP : Hid (I64 (nth l (8 + i.toNat)))) (h4 : ¬ 1073741824 < n) (HF : Hid (I64 (n * nth l (8 + i.toNat)))) (HO : Hid (¬ 1099511627776 < n * nth l (8 + i.toNat))) (k1 : (nth l (8 + i.toNat) == -9223372036854775808) = false) (k2 : 0 < n) :
    Calls Try.prog 11 #[.agg (bk l (.slice a L.length cap)), .int .i64 i, .int .i64 n] w fun e w' => e = .returned (.bool true) ∧ Adds w w' := by
  have r5 : i < 8 := by omega
  have r6 : 8 + i.toNat < 24 := by omega
  have q4 : n ≤ 1073741824 := by omega
  obtain ⟨p, dp⟩ : ∃ p, p = n * nth l (8 + i.toNat) := ⟨_, rfl⟩
  have e2 : n * nth l (8 + i.toNat) = p := dp.symm
  have e3 : wrap64 p = p := by rw [dp]; exact wrap_in HF.out
  have hq : (wrap64 (p.tdiv n) != nth l (8 + i.toNat)) = false := by rw [dp, Int.mul_comm]; exact quo_yes (by omega) HP.out
  have hd : decide (1099511627776 < p) = false := by rw [dp]; simpa using HO.out
  clear dp
  go_enter Try.func11, Try.ntmps11
  go_wp2_with fail
  refine (alive13 _).mono ?_
  rintro e w1 ⟨rfl, nd, os, rfl⟩
  go_wp2_with fail
  refine (shelfPrice_ok l hl a L.length cap i n _ r1 r2 r3 q4).mono ?_
  rintro e w1 ⟨rfl, nd, os, rfl⟩
  go_wp2_with fail
  refine (Book_same _ (by rw [List.length_set]; exact hl) a cap L _ ?_ hlen).mono ?_
  · exact SlK.up H.out (by repeat (first | exact Adds.refl _ | apply Adds.more | apply Adds.alloc | apply Adds.drewN | apply Adds.drew))
  rintro e w1 ⟨rfl, nd, os, rfl⟩
  go_wp2_with fail
  refine (shelfCost_ok l hl a L.length cap i n _ r1 r2 r3 r4 HP.out HF.out (Int.not_lt.2 HO.out)).mono ?_
  rintro e w1 ⟨rfl, nd, os, rfl⟩
  go_wp2_with fail
  refine (lawfine_yes i n _ r1 r2 r3 r4).mono ?_
  rintro e w1 ⟨rfl, rfl⟩
  go_wp2_with fail
  go_quiet (fail)
  go_wp2_with fail
  go_ret
  exact ⟨by simp, (by repeat (first | exact Adds.refl _ | apply Adds.more | apply Adds.alloc | apply Adds.drewN | apply Adds.drew))⟩
end Go.Proofs.Ytikhhmdmmgkakaa
