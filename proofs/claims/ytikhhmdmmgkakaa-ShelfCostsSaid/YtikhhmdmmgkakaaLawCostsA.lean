/-
  The statement ShelfCosts walks, part A: it returns true. Conditions: the arguments are as told.
-/
import Derived.Test.YtikhhmdmmgkakaaLawShelf
import Derived.Test.YtikhhmdmmgkakaaLawNum
namespace Go.Proofs.Ytikhhmdmmgkakaa
open Go.RowKit
set_option linter.unusedVariables false
set_option maxRecDepth 100000 in
set_option maxHeartbeats 2000000 in
theorem Costs_a1 (w : World) (l : List Int) (a : Option Addr) (cap : Nat) (L : List (List Int)) (hl : l.length = 24) (hlen : L.length ≤ 9223372036854775807) (H : Hid (SlK w.heap.size 7 w a L)) (i : Int) (Hi : Hid (I64 i)) (n : Int) (Hn : Hid (I64 n)) (h1 : i < 0) (HR : Hid (i < 0 ∨ 7 < i ∨ n < 0 ∨ 1073741824 < n)) (HC : Hid (i < 0 ∨ 7 < i ∨ n < 0 ∨ 1099511627776 < n)) :
    Calls Try.prog 11 #[.agg (bk l (.slice a L.length cap)), .int .i64 i, .int .i64 n] w fun e w' => e = .returned (.bool true) ∧ Adds w w' := by
  go_enter Try.func11, Try.ntmps11
  go_wp2_with fail
  refine (alive13 _).mono ?_
  rintro e w1 ⟨rfl, nd, os, rfl⟩
  go_wp2_with fail
  refine (shelfPrice_range l hl a L.length cap i n _ Hi.out HR.out).mono ?_
  rintro e w1 ⟨rfl, nd, os, rfl⟩
  go_wp2_with fail
  refine (Book_zB _).mono ?_
  rintro e w1 ⟨rfl, nd, os, rfl⟩
  go_wp2_with fail
  refine (shelfCost_range l hl a L.length cap i n _ Hi.out HC.out).mono ?_
  rintro e w1 ⟨rfl, nd, os, rfl⟩
  go_wp2_with fail
  refine (lawfine_no i n _ HC.out).mono ?_
  rintro e w1 ⟨rfl, rfl⟩
  go_wp2_with fail
  go_ret
  exact ⟨rfl, (by repeat (first | exact Adds.refl _ | apply Adds.more | apply Adds.alloc | apply Adds.drewN | apply Adds.drew))⟩
set_option maxRecDepth 100000 in
set_option maxHeartbeats 2000000 in
theorem Costs_a2 (w : World) (l : List Int) (a : Option Addr) (cap : Nat) (L : List (List Int)) (hl : l.length = 24) (hlen : L.length ≤ 9223372036854775807) (H : Hid (SlK w.heap.size 7 w a L)) (i : Int) (Hi : Hid (I64 i)) (n : Int) (Hn : Hid (I64 n)) (h1 : ¬ i < 0) (h2 : 7 < i) (HR : Hid (i < 0 ∨ 7 < i ∨ n < 0 ∨ 1073741824 < n)) (HC : Hid (i < 0 ∨ 7 < i ∨ n < 0 ∨ 1099511627776 < n)) :
    Calls Try.prog 11 #[.agg (bk l (.slice a L.length cap)), .int .i64 i, .int .i64 n] w fun e w' => e = .returned (.bool true) ∧ Adds w w' := by
  go_enter Try.func11, Try.ntmps11
  go_wp2_with fail
  refine (alive13 _).mono ?_
  rintro e w1 ⟨rfl, nd, os, rfl⟩
  go_wp2_with fail
  refine (shelfPrice_range l hl a L.length cap i n _ Hi.out HR.out).mono ?_
  rintro e w1 ⟨rfl, nd, os, rfl⟩
  go_wp2_with fail
  refine (Book_zB _).mono ?_
  rintro e w1 ⟨rfl, nd, os, rfl⟩
  go_wp2_with fail
  refine (shelfCost_range l hl a L.length cap i n _ Hi.out HC.out).mono ?_
  rintro e w1 ⟨rfl, nd, os, rfl⟩
  go_wp2_with fail
  refine (lawfine_no i n _ HC.out).mono ?_
  rintro e w1 ⟨rfl, rfl⟩
  go_wp2_with fail
  go_ret
  exact ⟨rfl, (by repeat (first | exact Adds.refl _ | apply Adds.more | apply Adds.alloc | apply Adds.drewN | apply Adds.drew))⟩
set_option maxRecDepth 100000 in
set_option maxHeartbeats 2000000 in
theorem Costs_a3 (w : World) (l : List Int) (a : Option Addr) (cap : Nat) (L : List (List Int)) (hl : l.length = 24) (hlen : L.length ≤ 9223372036854775807) (H : Hid (SlK w.heap.size 7 w a L)) (i : Int) (Hi : Hid (I64 i)) (n : Int) (Hn : Hid (I64 n)) (h1 : ¬ i < 0) (h2 : ¬ 7 < i) (h3 : n < 0) (HR : Hid (i < 0 ∨ 7 < i ∨ n < 0 ∨ 1073741824 < n)) (HC : Hid (i < 0 ∨ 7 < i ∨ n < 0 ∨ 1099511627776 < n)) :
    Calls Try.prog 11 #[.agg (bk l (.slice a L.length cap)), .int .i64 i, .int .i64 n] w fun e w' => e = .returned (.bool true) ∧ Adds w w' := by
  go_enter Try.func11, Try.ntmps11
  go_wp2_with fail
  refine (alive13 _).mono ?_
  rintro e w1 ⟨rfl, nd, os, rfl⟩
  go_wp2_with fail
  refine (shelfPrice_range l hl a L.length cap i n _ Hi.out HR.out).mono ?_
  rintro e w1 ⟨rfl, nd, os, rfl⟩
  go_wp2_with fail
  refine (Book_zB _).mono ?_
  rintro e w1 ⟨rfl, nd, os, rfl⟩
  go_wp2_with fail
  refine (shelfCost_range l hl a L.length cap i n _ Hi.out HC.out).mono ?_
  rintro e w1 ⟨rfl, nd, os, rfl⟩
  go_wp2_with fail
  refine (lawfine_no i n _ HC.out).mono ?_
  rintro e w1 ⟨rfl, rfl⟩
  go_wp2_with fail
  go_ret
  exact ⟨rfl, (by repeat (first | exact Adds.refl _ | apply Adds.more | apply Adds.alloc | apply Adds.drewN | apply Adds.drew))⟩
set_option maxRecDepth 100000 in
set_option maxHeartbeats 2000000 in
theorem Costs_a4 (w : World) (l : List Int) (a : Option Addr) (cap : Nat) (L : List (List Int)) (hl : l.length = 24) (hlen : L.length ≤ 9223372036854775807) (H : Hid (SlK w.heap.size 7 w a L)) (i : Int) (Hi : Hid (I64 i)) (n : Int) (Hn : Hid (I64 n)) (h1 : ¬ i < 0) (h2 : ¬ 7 < i) (h3 : ¬ n < 0) (h4 : 1073741824 < n) (HR : Hid (i < 0 ∨ 7 < i ∨ n < 0 ∨ 1073741824 < n)) (HC : Hid (i < 0 ∨ 7 < i ∨ n < 0 ∨ 1099511627776 < n)) :
    Calls Try.prog 11 #[.agg (bk l (.slice a L.length cap)), .int .i64 i, .int .i64 n] w fun e w' => e = .returned (.bool true) ∧ Adds w w' := by
  go_enter Try.func11, Try.ntmps11
  go_wp2_with fail
  refine (alive13 _).mono ?_
  rintro e w1 ⟨rfl, nd, os, rfl⟩
  go_wp2_with fail
  refine (shelfPrice_range l hl a L.length cap i n _ Hi.out HR.out).mono ?_
  rintro e w1 ⟨rfl, nd, os, rfl⟩
  go_wp2_with fail
  refine (Book_zB _).mono ?_
  rintro e w1 ⟨rfl, nd, os, rfl⟩
  go_wp2_with fail
  refine (shelfCost_range l hl a L.length cap i n _ Hi.out HC.out).mono ?_
  rintro e w1 ⟨rfl, nd, os, rfl⟩
  go_wp2_with fail
  refine (lawfine_no i n _ HC.out).mono ?_
  rintro e w1 ⟨rfl, rfl⟩
  go_wp2_with fail
  go_ret
  exact ⟨rfl, (by repeat (first | exact Adds.refl _ | apply Adds.more | apply Adds.alloc | apply Adds.drewN | apply Adds.drew))⟩
set_option maxRecDepth 100000 in
set_option maxHeartbeats 2000000 in
theorem Costs_bno_no_min (w : World) (l : List Int) (a : Option Addr) (cap : Nat) (L : List (List Int)) (hl : l.length = 24) (hlen : L.length ≤ 9223372036854775807) (H : Hid (SlK w.heap.size 7 w a L)) (i : Int) (Hi : Hid (I64 i)) (n : Int) (Hn : Hid (I64 n)) (r1 : 0 ≤ i) (r2 : i ≤ 7) (r3 : 0 ≤ n) (r4 : n ≤ 1099511627776) (h1 : ¬ i < 0) (h2 : ¬ 7 < i) (h3 : ¬ n < 0) (HP : Hid (I64 (nth l (8 + i.toNat)))) (h4 : 1073741824 < n) (HR : Hid (i < 0 ∨ 7 < i ∨ n < 0 ∨ 1073741824 < n)) (HF : Hid (¬ I64 (n * nth l (8 + i.toNat)))) (k1 : (nth l (8 + i.toNat) == -9223372036854775808) = true) (k2 : 1 < n) :
    Calls Try.prog 11 #[.agg (bk l (.slice a L.length cap)), .int .i64 i, .int .i64 n] w fun e w' => e = .returned (.bool true) ∧ Adds w w' := by
  have r5 : i < 8 := by omega
  have r6 : 8 + i.toNat < 24 := by omega
  obtain ⟨p, dp⟩ : ∃ p, p = wrap64 (n * nth l (8 + i.toNat)) := ⟨_, rfl⟩
  have e1 : wrap64 (n * nth l (8 + i.toNat)) = p := dp.symm
  clear dp
  go_enter Try.func11, Try.ntmps11
  go_wp2_with fail
  refine (alive13 _).mono ?_
  rintro e w1 ⟨rfl, nd, os, rfl⟩
  go_wp2_with fail
  refine (shelfPrice_range l hl a L.length cap i n _ Hi.out HR.out).mono ?_
  rintro e w1 ⟨rfl, nd, os, rfl⟩
  go_wp2_with fail
  refine (Book_zB _).mono ?_
  rintro e w1 ⟨rfl, nd, os, rfl⟩
  go_wp2_with fail
  refine (shelfCost_no l hl a L.length cap i n _ r1 r2 r3 r4 HP.out HF.out).mono ?_
  rintro e w1 ⟨rfl, nd, os, rfl⟩
  go_wp2_with fail
  refine (lawfine_yes i n _ r1 r2 r3 r4).mono ?_
  rintro e w1 ⟨rfl, rfl⟩
  go_wp2_with fail
  go_quiet (fail)
  go_wp2_with fail
  go_ret
  exact ⟨rfl, (by repeat (first | exact Adds.refl _ | apply Adds.more | apply Adds.alloc | apply Adds.drewN | apply Adds.drew))⟩
set_option maxRecDepth 100000 in
set_option maxHeartbeats 2000000 in
theorem Costs_bno_no_div (w : World) (l : List Int) (a : Option Addr) (cap : Nat) (L : List (List Int)) (hl : l.length = 24) (hlen : L.length ≤ 9223372036854775807) (H : Hid (SlK w.heap.size 7 w a L)) (i : Int) (Hi : Hid (I64 i)) (n : Int) (Hn : Hid (I64 n)) (r1 : 0 ≤ i) (r2 : i ≤ 7) (r3 : 0 ≤ n) (r4 : n ≤ 1099511627776) (h1 : ¬ i < 0) (h2 : ¬ 7 < i) (h3 : ¬ n < 0) (HP : Hid (I64 (nth l (8 + i.toNat)))) (h4 : 1073741824 < n) (HR : Hid (i < 0 ∨ 7 < i ∨ n < 0 ∨ 1073741824 < n)) (HF : Hid (¬ I64 (n * nth l (8 + i.toNat)))) (k1 : (nth l (8 + i.toNat) == -9223372036854775808) = false) (k2 : 0 < n) :
    Calls Try.prog 11 #[.agg (bk l (.slice a L.length cap)), .int .i64 i, .int .i64 n] w fun e w' => e = .returned (.bool true) ∧ Adds w w' := by
  have r5 : i < 8 := by omega
  have r6 : 8 + i.toNat < 24 := by omega
  obtain ⟨p, dp⟩ : ∃ p, p = wrap64 (n * nth l (8 + i.toNat)) := ⟨_, rfl⟩
  have hq : (wrap64 (p.tdiv n) != nth l (8 + i.toNat)) = true := by rw [dp, Int.mul_comm]; exact quo_no (by omega) (by omega) HP.out Hn.out (by rw [Int.mul_comm]; exact HF.out)
  have e1 : wrap64 (n * nth l (8 + i.toNat)) = p := dp.symm
  clear dp
  go_enter Try.func11, Try.ntmps11
  go_wp2_with fail
  refine (alive13 _).mono ?_
  rintro e w1 ⟨rfl, nd, os, rfl⟩
  go_wp2_with fail
  refine (shelfPrice_range l hl a L.length cap i n _ Hi.out HR.out).mono ?_
  rintro e w1 ⟨rfl, nd, os, rfl⟩
  go_wp2_with fail
  refine (Book_zB _).mono ?_
  rintro e w1 ⟨rfl, nd, os, rfl⟩
  go_wp2_with fail
  refine (shelfCost_no l hl a L.length cap i n _ r1 r2 r3 r4 HP.out HF.out).mono ?_
  rintro e w1 ⟨rfl, nd, os, rfl⟩
  go_wp2_with fail
  refine (lawfine_yes i n _ r1 r2 r3 r4).mono ?_
  rintro e w1 ⟨rfl, rfl⟩
  go_wp2_with fail
  go_quiet (fail)
  go_wp2_with fail
  go_ret
  exact ⟨rfl, (by repeat (first | exact Adds.refl _ | apply Adds.more | apply Adds.alloc | apply Adds.drewN | apply Adds.drew))⟩
end Go.Proofs.Ytikhhmdmmgkakaa
