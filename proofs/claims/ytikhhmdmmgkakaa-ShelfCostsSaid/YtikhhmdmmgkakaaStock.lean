/-
  What purse and shelf do to a booking: its numbers are a list of 24, its orders any slice. Conditions: every contract names its own.
-/
import Derived.Test.YtikhhmdmmgkakaaTypes
import Derived.Test.YtikhhmdmmgkakaaOpen
namespace Go.Proofs.Ytikhhmdmmgkakaa
open Go.RowKit
set_option linter.unusedVariables false
theorem Buyer_yes (i : Int) (w : World) (h1 : 0 ≤ i) (h2 : i ≤ 7) : Calls Try.prog 23 #[.int .i64 i] w fun e w' => e = .returned (.bool true) ∧ w = w' := by
  go_enter Try.func23, Try.ntmps23
  go_wp2
  go_ret
  exact ⟨rfl, rfl⟩
theorem Buyer_no (i : Int) (w : World) (_hi : I64 i) (h : i < 0 ∨ 7 < i) : Calls Try.prog 23 #[.int .i64 i] w fun e w' => e = .returned (.bool false) ∧ w = w' := by
  unfold I64 at _hi
  go_enter Try.func23, Try.ntmps23
  go_wp2_with fail
  refine (In_no i 0 7 _ h).mono ?_
  rintro e w1 ⟨rfl, rfl⟩
  go_wp2_with fail
  go_ret
  exact ⟨rfl, rfl⟩
theorem pursefine_yes (i n : Int) (w : World) (h1 : 0 ≤ i) (h2 : i ≤ 7) (h3 : 0 ≤ n) (h4 : n ≤ 1099511627776) : Calls Try.prog 47 #[.int .i64 i, .int .i64 n] w fun e w' => e = .returned (.bool true) ∧ w = w' := by
  go_enter Try.func47, Try.ntmps47
  go_wp2
  go_ret
  exact ⟨rfl, rfl⟩
theorem pursefine_no (i n : Int) (w : World) (hi : I64 i) (h : i < 0 ∨ 7 < i ∨ n < 0 ∨ 1099511627776 < n) : Calls Try.prog 47 #[.int .i64 i, .int .i64 n] w fun e w' => e = .returned (.bool false) ∧ w = w' := by
  by_cases h' : i < 0 ∨ 7 < i
  · go_enter Try.func47, Try.ntmps47
    go_wp2_with fail
    refine (Buyer_no i _ hi h').mono ?_
    rintro e w1 ⟨rfl, rfl⟩
    go_wp2_with fail
    go_ret
    exact ⟨rfl, rfl⟩
  · go_enter Try.func47, Try.ntmps47
    go_wp2_with fail
    refine (Buyer_yes i _ (by omega) (by omega)).mono ?_
    rintro e w1 ⟨rfl, rfl⟩
    go_wp2_with fail
    refine (In_no n 0 1099511627776 _ (by omega)).mono ?_
    rintro e w1 ⟨rfl, rfl⟩
    go_wp2_with fail
    go_ret
    exact ⟨rfl, rfl⟩
theorem Item_yes (i : Int) (w : World) (h1 : 0 ≤ i) (h2 : i ≤ 7) : Calls Try.prog 43 #[.int .i64 i] w fun e w' => e = .returned (.bool true) ∧ w = w' := by
  go_enter Try.func43, Try.ntmps43
  go_wp2
  go_ret
  exact ⟨rfl, rfl⟩
theorem Item_no (i : Int) (w : World) (_hi : I64 i) (h : i < 0 ∨ 7 < i) : Calls Try.prog 43 #[.int .i64 i] w fun e w' => e = .returned (.bool false) ∧ w = w' := by
  unfold I64 at _hi
  go_enter Try.func43, Try.ntmps43
  go_wp2_with fail
  refine (In_no i 0 7 _ h).mono ?_
  rintro e w1 ⟨rfl, rfl⟩
  go_wp2_with fail
  go_ret
  exact ⟨rfl, rfl⟩
theorem shelffine_yes (i n : Int) (w : World) (h1 : 0 ≤ i) (h2 : i ≤ 7) (h3 : 0 ≤ n) (h4 : n ≤ 1099511627776) : Calls Try.prog 50 #[.int .i64 i, .int .i64 n] w fun e w' => e = .returned (.bool true) ∧ w = w' := by
  go_enter Try.func50, Try.ntmps50
  go_wp2
  go_ret
  exact ⟨rfl, rfl⟩
theorem shelffine_no (i n : Int) (w : World) (hi : I64 i) (h : i < 0 ∨ 7 < i ∨ n < 0 ∨ 1099511627776 < n) : Calls Try.prog 50 #[.int .i64 i, .int .i64 n] w fun e w' => e = .returned (.bool false) ∧ w = w' := by
  by_cases h' : i < 0 ∨ 7 < i
  · go_enter Try.func50, Try.ntmps50
    go_wp2_with fail
    refine (Item_no i _ hi h').mono ?_
    rintro e w1 ⟨rfl, rfl⟩
    go_wp2_with fail
    go_ret
    exact ⟨rfl, rfl⟩
  · go_enter Try.func50, Try.ntmps50
    go_wp2_with fail
    refine (Item_yes i _ (by omega) (by omega)).mono ?_
    rintro e w1 ⟨rfl, rfl⟩
    go_wp2_with fail
    refine (In_no n 0 1099511627776 _ (by omega)).mono ?_
    rintro e w1 ⟨rfl, rfl⟩
    go_wp2_with fail
    go_ret
    exact ⟨rfl, rfl⟩
theorem purseGive_range (l : List Int) (hl : l.length = 24) (a : Option Addr) (m c : Nat) (i n : Int) (w : World) (hi : I64 i) (h : i < 0 ∨ 7 < i ∨ n < 0 ∨ 1099511627776 < n) : Calls Try.prog 21 #[.agg (bk l (.slice a m c)), .int .i64 i, .int .i64 n] w fun e w' => e = .returned (.tuple #[.agg (zB), .int .i64 4]) ∧ Adds w w' := by
  go_enter Try.func21, Try.ntmps21
  go_wp2_with fail
  refine (pursefine_no i n _ hi h).mono ?_
  rintro e w1 ⟨rfl, rfl⟩
  go_wp2_with fail
  refine ret_agg_tmp (ty := 39) (p := 6) (u := 7) (n := 25) (g := w.heap.size + 1) rfl Try.isAgg39 Try.sizeOf39 rfl ?_ (by go_simp) rfl ⟨rfl, ?_⟩
  · go_simp
  · exact ((Adds.refl _).alloc _).alloc _
theorem purseGive_over (l : List Int) (hl : l.length = 24) (a : Option Addr) (m c : Nat) (i n : Int) (w : World) (h1 : 0 ≤ i) (h2 : i ≤ 7) (h3 : 0 ≤ n) (h4 : n ≤ 1099511627776) (hp : I64 (nth l (16 + i.toNat))) (h : 1099511627776 < nth l (16 + i.toNat) + n) : Calls Try.prog 21 #[.agg (bk l (.slice a m c)), .int .i64 i, .int .i64 n] w fun e w' => e = .returned (.tuple #[.agg (zB), .int .i64 7]) ∧ Adds w w' := by
  have h5 : 16 + i.toNat < 24 := by omega
  by_cases hf : I64 (nth l (16 + i.toNat) + n)
  · have hd : decide (1099511627776 < nth l (16 + i.toNat) + n) = true := by simpa using h
    have HF := Lib.hid hf
    have HP := Lib.hid hp
    clear hf hp h
    go_enter Try.func21, Try.ntmps21
    go_wp2_with fail
    refine (pursefine_yes i n _ h1 h2 h3 h4).mono ?_
    rintro e w1 ⟨rfl, rfl⟩
    go_wp2_with fail
    refine (Add_yes _ _ _ HF.out).mono ?_
    rintro e w1 ⟨rfl, rfl⟩
    go_wp2_with fail
    refine ret_agg_tmp (ty := 39) (p := 6) (u := 7) (n := 25) (g := w.heap.size + 1) rfl Try.isAgg39 Try.sizeOf39 rfl ?_ (by go_simp) rfl ⟨rfl, ?_⟩
    · go_simp
    · exact ((Adds.refl _).alloc _).alloc _
  · have HF := Lib.hid hf
    have HP := Lib.hid hp
    have HN : Hid (I64 n) := ⟨by omega, by omega⟩
    clear hf hp h
    go_enter Try.func21, Try.ntmps21
    go_wp2_with fail
    refine (pursefine_yes i n _ h1 h2 h3 h4).mono ?_
    rintro e w1 ⟨rfl, rfl⟩
    go_wp2_with fail
    refine (Add_no _ _ _ HP.out HN.out HF.out).mono ?_
    rintro e w1 ⟨rfl, rfl⟩
    go_wp2_with fail
    refine ret_agg_tmp (ty := 39) (p := 6) (u := 7) (n := 25) (g := w.heap.size + 1) rfl Try.isAgg39 Try.sizeOf39 rfl ?_ (by go_simp) rfl ⟨rfl, ?_⟩
    · go_simp
    · exact ((Adds.refl _).alloc _).alloc _
theorem purseGive_ok (l : List Int) (hl : l.length = 24) (a : Option Addr) (m c : Nat) (i n : Int) (w : World) (h1 : 0 ≤ i) (h2 : i ≤ 7) (h3 : 0 ≤ n) (h4 : n ≤ 1099511627776) (hp : I64 (nth l (16 + i.toNat))) (h : nth l (16 + i.toNat) + n ≤ 1099511627776) : Calls Try.prog 21 #[.agg (bk l (.slice a m c)), .int .i64 i, .int .i64 n] w fun e w' => e = .returned (.tuple #[.agg (bk (l.set (16 + i.toNat) (nth l (16 + i.toNat) + n)) (.slice a m c)), .int .i64 0]) ∧ Adds w w' := by
  have h5 : 16 + i.toNat < 24 := by omega
  have hd : decide (1099511627776 < nth l (16 + i.toNat) + n) = false := by simp; omega
  have HF : Hid (I64 (nth l (16 + i.toNat) + n)) := ⟨by have := hp.1; omega, by omega⟩
  clear hp h
  go_enter Try.func21, Try.ntmps21
  go_wp2_with fail
  refine (pursefine_yes i n _ h1 h2 h3 h4).mono ?_
  rintro e w1 ⟨rfl, rfl⟩
  go_wp2_with fail
  refine (Add_yes _ _ _ HF.out).mono ?_
  rintro e w1 ⟨rfl, rfl⟩
  go_wp2_with fail
  refine ret_agg_tmp (ty := 39) (p := 6) (u := 7) (n := 25) (g := w.heap.size + 1) rfl Try.isAgg39 Try.sizeOf39 rfl ?_ (by go_simp) rfl ⟨rfl, ?_⟩
  · go_simp
  · exact ((Adds.refl _).alloc _).alloc _
theorem pursePay_range (l : List Int) (hl : l.length = 24) (a : Option Addr) (m c : Nat) (i n : Int) (w : World) (hi : I64 i) (h : i < 0 ∨ 7 < i ∨ n < 0 ∨ 1099511627776 < n) : Calls Try.prog 22 #[.agg (bk l (.slice a m c)), .int .i64 i, .int .i64 n] w fun e w' => e = .returned (.tuple #[.agg (zB), .int .i64 4]) ∧ Adds w w' := by
  go_enter Try.func22, Try.ntmps22
  go_wp2_with fail
  refine (pursefine_no i n _ hi h).mono ?_
  rintro e w1 ⟨rfl, rfl⟩
  go_wp2_with fail
  refine ret_agg_tmp (ty := 39) (p := 6) (u := 7) (n := 25) (g := w.heap.size + 1) rfl Try.isAgg39 Try.sizeOf39 rfl ?_ (by go_simp) rfl ⟨rfl, ?_⟩
  · go_simp
  · exact ((Adds.refl _).alloc _).alloc _
theorem pursePay_short (l : List Int) (hl : l.length = 24) (a : Option Addr) (m c : Nat) (i n : Int) (w : World) (h1 : 0 ≤ i) (h2 : i ≤ 7) (h3 : 0 ≤ n) (h4 : n ≤ 1099511627776) (h : nth l (16 + i.toNat) < n) : Calls Try.prog 22 #[.agg (bk l (.slice a m c)), .int .i64 i, .int .i64 n] w fun e w' => e = .returned (.tuple #[.agg (zB), .int .i64 11]) ∧ Adds w w' := by
  have h5 : 16 + i.toNat < 24 := by omega
  go_enter Try.func22, Try.ntmps22
  go_wp2_with fail
  refine (pursefine_yes i n _ h1 h2 h3 h4).mono ?_
  rintro e w1 ⟨rfl, rfl⟩
  go_wp2_with fail
  refine ret_agg_tmp (ty := 39) (p := 6) (u := 7) (n := 25) (g := w.heap.size + 1) rfl Try.isAgg39 Try.sizeOf39 rfl ?_ (by go_simp) rfl ⟨rfl, ?_⟩
  · go_simp
  · exact ((Adds.refl _).alloc _).alloc _
theorem pursePay_ok (l : List Int) (hl : l.length = 24) (a : Option Addr) (m c : Nat) (i n : Int) (w : World) (h1 : 0 ≤ i) (h2 : i ≤ 7) (h3 : 0 ≤ n) (h4 : n ≤ 1099511627776) (hp : I64 (nth l (16 + i.toNat))) (h : ¬ nth l (16 + i.toNat) < n) : Calls Try.prog 22 #[.agg (bk l (.slice a m c)), .int .i64 i, .int .i64 n] w fun e w' => e = .returned (.tuple #[.agg (bk (l.set (16 + i.toNat) (nth l (16 + i.toNat) - n)) (.slice a m c)), .int .i64 0]) ∧ Adds w w' := by
  have h5 : 16 + i.toNat < 24 := by omega
  obtain ⟨h6, h7⟩ := hp
  go_enter Try.func22, Try.ntmps22
  go_wp2_with fail
  refine (pursefine_yes i n _ h1 h2 h3 h4).mono ?_
  rintro e w1 ⟨rfl, rfl⟩
  go_wp2_with fail
  refine ret_agg_tmp (ty := 39) (p := 6) (u := 7) (n := 25) (g := w.heap.size + 1) rfl Try.isAgg39 Try.sizeOf39 rfl ?_ (by go_simp) rfl ⟨rfl, ?_⟩
  · go_simp
  · exact ((Adds.refl _).alloc _).alloc _
theorem shelfAdd_range (l : List Int) (hl : l.length = 24) (a : Option Addr) (m c : Nat) (i n : Int) (w : World) (hi : I64 i) (h : i < 0 ∨ 7 < i ∨ n < 0 ∨ 1099511627776 < n) : Calls Try.prog 41 #[.agg (bk l (.slice a m c)), .int .i64 i, .int .i64 n] w fun e w' => e = .returned (.tuple #[.agg (zB), .int .i64 4]) ∧ Adds w w' := by
  go_enter Try.func41, Try.ntmps41
  go_wp2_with fail
  refine (shelffine_no i n _ hi h).mono ?_
  rintro e w1 ⟨rfl, rfl⟩
  go_wp2_with fail
  refine ret_agg_tmp (ty := 39) (p := 6) (u := 7) (n := 25) (g := w.heap.size + 1) rfl Try.isAgg39 Try.sizeOf39 rfl ?_ (by go_simp) rfl ⟨rfl, ?_⟩
  · go_simp
  · exact ((Adds.refl _).alloc _).alloc _
theorem shelfAdd_over (l : List Int) (hl : l.length = 24) (a : Option Addr) (m c : Nat) (i n : Int) (w : World) (h1 : 0 ≤ i) (h2 : i ≤ 7) (h3 : 0 ≤ n) (h4 : n ≤ 1099511627776) (hp : I64 (nth l (i.toNat))) (h : 1099511627776 < nth l (i.toNat) + n) : Calls Try.prog 41 #[.agg (bk l (.slice a m c)), .int .i64 i, .int .i64 n] w fun e w' => e = .returned (.tuple #[.agg (zB), .int .i64 7]) ∧ Adds w w' := by
  have h5 : i.toNat < 24 := by omega
  by_cases hf : I64 (nth l (i.toNat) + n)
  · have hd : decide (1099511627776 < nth l (i.toNat) + n) = true := by simpa using h
    have HF := Lib.hid hf
    have HP := Lib.hid hp
    clear hf hp h
    go_enter Try.func41, Try.ntmps41
    go_wp2_with fail
    refine (shelffine_yes i n _ h1 h2 h3 h4).mono ?_
    rintro e w1 ⟨rfl, rfl⟩
    go_wp2_with fail
    refine (Add_yes _ _ _ HF.out).mono ?_
    rintro e w1 ⟨rfl, rfl⟩
    go_wp2_with fail
    refine ret_agg_tmp (ty := 39) (p := 6) (u := 7) (n := 25) (g := w.heap.size + 1) rfl Try.isAgg39 Try.sizeOf39 rfl ?_ (by go_simp) rfl ⟨rfl, ?_⟩
    · go_simp
    · exact ((Adds.refl _).alloc _).alloc _
  · have HF := Lib.hid hf
    have HP := Lib.hid hp
    have HN : Hid (I64 n) := ⟨by omega, by omega⟩
    clear hf hp h
    go_enter Try.func41, Try.ntmps41
    go_wp2_with fail
    refine (shelffine_yes i n _ h1 h2 h3 h4).mono ?_
    rintro e w1 ⟨rfl, rfl⟩
    go_wp2_with fail
    refine (Add_no _ _ _ HP.out HN.out HF.out).mono ?_
    rintro e w1 ⟨rfl, rfl⟩
    go_wp2_with fail
    refine ret_agg_tmp (ty := 39) (p := 6) (u := 7) (n := 25) (g := w.heap.size + 1) rfl Try.isAgg39 Try.sizeOf39 rfl ?_ (by go_simp) rfl ⟨rfl, ?_⟩
    · go_simp
    · exact ((Adds.refl _).alloc _).alloc _
theorem shelfAdd_ok (l : List Int) (hl : l.length = 24) (a : Option Addr) (m c : Nat) (i n : Int) (w : World) (h1 : 0 ≤ i) (h2 : i ≤ 7) (h3 : 0 ≤ n) (h4 : n ≤ 1099511627776) (hp : I64 (nth l (i.toNat))) (h : nth l (i.toNat) + n ≤ 1099511627776) : Calls Try.prog 41 #[.agg (bk l (.slice a m c)), .int .i64 i, .int .i64 n] w fun e w' => e = .returned (.tuple #[.agg (bk (l.set (i.toNat) (nth l (i.toNat) + n)) (.slice a m c)), .int .i64 0]) ∧ Adds w w' := by
  have h5 : i.toNat < 24 := by omega
  have hd : decide (1099511627776 < nth l (i.toNat) + n) = false := by simp; omega
  have HF : Hid (I64 (nth l (i.toNat) + n)) := ⟨by have := hp.1; omega, by omega⟩
  clear hp h
  go_enter Try.func41, Try.ntmps41
  go_wp2_with fail
  refine (shelffine_yes i n _ h1 h2 h3 h4).mono ?_
  rintro e w1 ⟨rfl, rfl⟩
  go_wp2_with fail
  refine (Add_yes _ _ _ HF.out).mono ?_
  rintro e w1 ⟨rfl, rfl⟩
  go_wp2_with fail
  refine ret_agg_tmp (ty := 39) (p := 6) (u := 7) (n := 25) (g := w.heap.size + 1) rfl Try.isAgg39 Try.sizeOf39 rfl ?_ (by go_simp) rfl ⟨rfl, ?_⟩
  · go_simp
  · exact ((Adds.refl _).alloc _).alloc _
theorem shelfTake_range (l : List Int) (hl : l.length = 24) (a : Option Addr) (m c : Nat) (i n : Int) (w : World) (hi : I64 i) (h : i < 0 ∨ 7 < i ∨ n < 0 ∨ 1099511627776 < n) : Calls Try.prog 40 #[.agg (bk l (.slice a m c)), .int .i64 i, .int .i64 n] w fun e w' => e = .returned (.tuple #[.agg (zB), .int .i64 4]) ∧ Adds w w' := by
  go_enter Try.func40, Try.ntmps40
  go_wp2_with fail
  refine (shelffine_no i n _ hi h).mono ?_
  rintro e w1 ⟨rfl, rfl⟩
  go_wp2_with fail
  refine ret_agg_tmp (ty := 39) (p := 6) (u := 7) (n := 25) (g := w.heap.size + 1) rfl Try.isAgg39 Try.sizeOf39 rfl ?_ (by go_simp) rfl ⟨rfl, ?_⟩
  · go_simp
  · exact ((Adds.refl _).alloc _).alloc _
theorem shelfTake_short (l : List Int) (hl : l.length = 24) (a : Option Addr) (m c : Nat) (i n : Int) (w : World) (h1 : 0 ≤ i) (h2 : i ≤ 7) (h3 : 0 ≤ n) (h4 : n ≤ 1099511627776) (h : nth l (i.toNat) < n) : Calls Try.prog 40 #[.agg (bk l (.slice a m c)), .int .i64 i, .int .i64 n] w fun e w' => e = .returned (.tuple #[.agg (zB), .int .i64 11]) ∧ Adds w w' := by
  have h5 : i.toNat < 24 := by omega
  go_enter Try.func40, Try.ntmps40
  go_wp2_with fail
  refine (shelffine_yes i n _ h1 h2 h3 h4).mono ?_
  rintro e w1 ⟨rfl, rfl⟩
  go_wp2_with fail
  refine ret_agg_tmp (ty := 39) (p := 6) (u := 7) (n := 25) (g := w.heap.size + 1) rfl Try.isAgg39 Try.sizeOf39 rfl ?_ (by go_simp) rfl ⟨rfl, ?_⟩
  · go_simp
  · exact ((Adds.refl _).alloc _).alloc _
theorem shelfTake_ok (l : List Int) (hl : l.length = 24) (a : Option Addr) (m c : Nat) (i n : Int) (w : World) (h1 : 0 ≤ i) (h2 : i ≤ 7) (h3 : 0 ≤ n) (h4 : n ≤ 1099511627776) (hp : I64 (nth l (i.toNat))) (h : ¬ nth l (i.toNat) < n) : Calls Try.prog 40 #[.agg (bk l (.slice a m c)), .int .i64 i, .int .i64 n] w fun e w' => e = .returned (.tuple #[.agg (bk (l.set (i.toNat) (nth l (i.toNat) - n)) (.slice a m c)), .int .i64 0]) ∧ Adds w w' := by
  have h5 : i.toNat < 24 := by omega
  obtain ⟨h6, h7⟩ := hp
  go_enter Try.func40, Try.ntmps40
  go_wp2_with fail
  refine (shelffine_yes i n _ h1 h2 h3 h4).mono ?_
  rintro e w1 ⟨rfl, rfl⟩
  go_wp2_with fail
  refine ret_agg_tmp (ty := 39) (p := 6) (u := 7) (n := 25) (g := w.heap.size + 1) rfl Try.isAgg39 Try.sizeOf39 rfl ?_ (by go_simp) rfl ⟨rfl, ?_⟩
  · go_simp
  · exact ((Adds.refl _).alloc _).alloc _
theorem shelfPrice_range (l : List Int) (hl : l.length = 24) (a : Option Addr) (m c : Nat) (i n : Int) (w : World) (hi : I64 i) (h : i < 0 ∨ 7 < i ∨ n < 0 ∨ 1073741824 < n) : Calls Try.prog 37 #[.agg (bk l (.slice a m c)), .int .i64 i, .int .i64 n] w fun e w' => e = .returned (.tuple #[.agg zB, .int .i64 4]) ∧ Adds w w' := by
  by_cases h' : i < 0 ∨ 7 < i
  · go_enter Try.func37, Try.ntmps37
    go_wp2_with fail
    refine (Item_no i _ hi h').mono ?_
    rintro e w1 ⟨rfl, rfl⟩
    go_wp2_with fail
    refine ret_agg_tmp (ty := 39) (p := 6) (u := 7) (n := 25) (g := w.heap.size + 1) rfl Try.isAgg39 Try.sizeOf39 rfl ?_ (by go_simp) rfl ⟨rfl, ?_⟩
    · go_simp
    · exact ((Adds.refl _).alloc _).alloc _
  · go_enter Try.func37, Try.ntmps37
    go_wp2_with fail
    refine (Item_yes i _ (by omega) (by omega)).mono ?_
    rintro e w1 ⟨rfl, rfl⟩
    go_wp2_with fail
    refine (In_no n 0 1073741824 _ (by omega)).mono ?_
    rintro e w1 ⟨rfl, rfl⟩
    go_wp2_with fail
    refine ret_agg_tmp (ty := 39) (p := 6) (u := 7) (n := 25) (g := w.heap.size + 1) rfl Try.isAgg39 Try.sizeOf39 rfl ?_ (by go_simp) rfl ⟨rfl, ?_⟩
    · go_simp
    · exact ((Adds.refl _).alloc _).alloc _
theorem shelfPrice_ok (l : List Int) (hl : l.length = 24) (a : Option Addr) (m c : Nat) (i n : Int) (w : World) (h1 : 0 ≤ i) (h2 : i ≤ 7) (h3 : 0 ≤ n) (h4 : n ≤ 1073741824) : Calls Try.prog 37 #[.agg (bk l (.slice a m c)), .int .i64 i, .int .i64 n] w fun e w' => e = .returned (.tuple #[.agg (bk (l.set (8 + i.toNat) n) (.slice a m c)), .int .i64 0]) ∧ Adds w w' := by
  have h5 : 8 + i.toNat < 24 := by omega
  go_enter Try.func37, Try.ntmps37
  go_wp2_with fail
  refine (Item_yes i _ h1 h2).mono ?_
  rintro e w1 ⟨rfl, rfl⟩
  go_wp2_with fail
  refine (In_yes n 0 1073741824 _ h3 h4).mono ?_
  rintro e w1 ⟨rfl, rfl⟩
  go_wp2_with fail
  refine ret_agg_tmp (ty := 39) (p := 6) (u := 7) (n := 25) (g := w.heap.size + 1) rfl Try.isAgg39 Try.sizeOf39 rfl ?_ (by go_simp) rfl ⟨rfl, ?_⟩
  · go_simp
  · exact ((Adds.refl _).alloc _).alloc _
theorem shelfCost_range (l : List Int) (hl : l.length = 24) (a : Option Addr) (m c : Nat) (i n : Int) (w : World) (hi : I64 i) (h : i < 0 ∨ 7 < i ∨ n < 0 ∨ 1099511627776 < n) : Calls Try.prog 38 #[.agg (bk l (.slice a m c)), .int .i64 i, .int .i64 n] w fun e w' => e = .returned (.tuple #[.int .i64 0, .int .i64 4]) ∧ Adds w w' := by
  go_enter Try.func38, Try.ntmps38
  go_wp2_with fail
  refine (shelffine_no i n _ hi h).mono ?_
  rintro e w1 ⟨rfl, rfl⟩
  go_wp2_with fail
  go_ret2
  exact ⟨rfl, (Adds.refl _).alloc _⟩
theorem shelfCost_no (l : List Int) (hl : l.length = 24) (a : Option Addr) (m c : Nat) (i n : Int) (w : World) (h1 : 0 ≤ i) (h2 : i ≤ 7) (h3 : 0 ≤ n) (h4 : n ≤ 1099511627776) (hp : I64 (nth l (8 + i.toNat))) (h : ¬ I64 (n * nth l (8 + i.toNat))) : Calls Try.prog 38 #[.agg (bk l (.slice a m c)), .int .i64 i, .int .i64 n] w fun e w' => e = .returned (.tuple #[.int .i64 0, .int .i64 7]) ∧ Adds w w' := by
  have h5 : 8 + i.toNat < 24 := by omega
  have HN : Hid (I64 n) := ⟨by omega, by omega⟩
  have HP := Lib.hid hp
  have HF := Lib.hid h
  clear hp h
  go_enter Try.func38, Try.ntmps38
  go_wp2_with fail
  refine (shelffine_yes i n _ h1 h2 h3 h4).mono ?_
  rintro e w1 ⟨rfl, rfl⟩
  go_wp2_with fail
  refine (Mul_no _ _ _ HN.out HP.out HF.out).mono ?_
  rintro e w1 ⟨rfl, rfl⟩
  go_wp2_with fail
  go_ret2
  exact ⟨rfl, (Adds.refl _).alloc _⟩
theorem shelfCost_over (l : List Int) (hl : l.length = 24) (a : Option Addr) (m c : Nat) (i n : Int) (w : World) (h1 : 0 ≤ i) (h2 : i ≤ 7) (h3 : 0 ≤ n) (h4 : n ≤ 1099511627776) (hp : I64 (nth l (8 + i.toNat))) (h : I64 (n * nth l (8 + i.toNat))) (ho : 1099511627776 < n * nth l (8 + i.toNat)) : Calls Try.prog 38 #[.agg (bk l (.slice a m c)), .int .i64 i, .int .i64 n] w fun e w' => e = .returned (.tuple #[.int .i64 0, .int .i64 7]) ∧ Adds w w' := by
  have h5 : 8 + i.toNat < 24 := by omega
  have HN : Hid (I64 n) := ⟨by omega, by omega⟩
  have HP := Lib.hid hp
  have HF := Lib.hid h
  have hd : decide (1099511627776 < n * nth l (8 + i.toNat)) = true := by simpa using ho
  clear hp h ho
  go_enter Try.func38, Try.ntmps38
  go_wp2_with fail
  refine (shelffine_yes i n _ h1 h2 h3 h4).mono ?_
  rintro e w1 ⟨rfl, rfl⟩
  go_wp2_with fail
  refine (Mul_yes _ _ _ HN.out HP.out HF.out).mono ?_
  rintro e w1 ⟨rfl, rfl⟩
  go_wp2_with fail
  go_ret2
  exact ⟨rfl, (Adds.refl _).alloc _⟩
theorem shelfCost_ok (l : List Int) (hl : l.length = 24) (a : Option Addr) (m c : Nat) (i n : Int) (w : World) (h1 : 0 ≤ i) (h2 : i ≤ 7) (h3 : 0 ≤ n) (h4 : n ≤ 1099511627776) (hp : I64 (nth l (8 + i.toNat))) (h : I64 (n * nth l (8 + i.toNat))) (ho : ¬ 1099511627776 < n * nth l (8 + i.toNat)) : Calls Try.prog 38 #[.agg (bk l (.slice a m c)), .int .i64 i, .int .i64 n] w fun e w' => e = .returned (.tuple #[.int .i64 (n * nth l (8 + i.toNat)), .int .i64 0]) ∧ Adds w w' := by
  have h5 : 8 + i.toNat < 24 := by omega
  have HN : Hid (I64 n) := ⟨by omega, by omega⟩
  have HP := Lib.hid hp
  have HF := Lib.hid h
  have hd : decide (1099511627776 < n * nth l (8 + i.toNat)) = false := by simpa using ho
  clear hp h ho
  go_enter Try.func38, Try.ntmps38
  go_wp2_with fail
  refine (shelffine_yes i n _ h1 h2 h3 h4).mono ?_
  rintro e w1 ⟨rfl, rfl⟩
  go_wp2_with fail
  refine (Mul_yes _ _ _ HN.out HP.out HF.out).mono ?_
  rintro e w1 ⟨rfl, rfl⟩
  go_wp2_with fail
  go_ret2
  exact ⟨rfl, (Adds.refl _).alloc _⟩
theorem shelfHas_range (l : List Int) (hl : l.length = 24) (a : Option Addr) (m c : Nat) (i n : Int) (w : World) (hi : I64 i) (h : i < 0 ∨ 7 < i ∨ n < 0 ∨ 1099511627776 < n) : Calls Try.prog 42 #[.agg (bk l (.slice a m c)), .int .i64 i, .int .i64 n] w fun e w' => e = .returned (.bool false) ∧ Adds w w' := by
  go_enter Try.func42, Try.ntmps42
  go_wp2_with fail
  refine (shelfTake_range l hl a m c i n _ hi h).mono ?_
  rintro e w1 ⟨rfl, nd, os, rfl⟩
  go_wp2_with fail
  go_ret
  exact ⟨rfl, (((Adds.refl _).alloc _).more _ _).alloc _⟩
theorem shelfHas_short (l : List Int) (hl : l.length = 24) (a : Option Addr) (m c : Nat) (i n : Int) (w : World) (h1 : 0 ≤ i) (h2 : i ≤ 7) (h3 : 0 ≤ n) (h4 : n ≤ 1099511627776) (h : nth l (i.toNat) < n) : Calls Try.prog 42 #[.agg (bk l (.slice a m c)), .int .i64 i, .int .i64 n] w fun e w' => e = .returned (.bool false) ∧ Adds w w' := by
  go_enter Try.func42, Try.ntmps42
  go_wp2_with fail
  refine (shelfTake_short l hl a m c i n _ h1 h2 h3 h4 h).mono ?_
  rintro e w1 ⟨rfl, nd, os, rfl⟩
  go_wp2_with fail
  go_ret
  exact ⟨rfl, (((Adds.refl _).alloc _).more _ _).alloc _⟩
theorem shelfHas_yes (l : List Int) (hl : l.length = 24) (a : Option Addr) (m c : Nat) (i n : Int) (w : World) (h1 : 0 ≤ i) (h2 : i ≤ 7) (h3 : 0 ≤ n) (h4 : n ≤ 1099511627776) (hp : I64 (nth l (i.toNat))) (h : ¬ nth l (i.toNat) < n) : Calls Try.prog 42 #[.agg (bk l (.slice a m c)), .int .i64 i, .int .i64 n] w fun e w' => e = .returned (.bool true) ∧ Adds w w' := by
  go_enter Try.func42, Try.ntmps42
  go_wp2_with fail
  refine (shelfTake_ok l hl a m c i n _ h1 h2 h3 h4 hp (by omega)).mono ?_
  rintro e w1 ⟨rfl, nd, os, rfl⟩
  go_wp2_with fail
  go_ret
  exact ⟨rfl, (((Adds.refl _).alloc _).more _ _).alloc _⟩
end Go.Proofs.Ytikhhmdmmgkakaa
