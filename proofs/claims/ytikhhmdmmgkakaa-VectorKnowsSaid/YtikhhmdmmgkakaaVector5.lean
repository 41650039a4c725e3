/-
  vector.Lacking. Conditions: every contract names its own.
-/
import Derived.Test.YtikhhmdmmgkakaaVector4
import Derived.OwnWalk
namespace Go.Proofs.Ytikhhmdmmgkakaa
open Go.RowKit
set_option linter.unusedVariables false

theorem info_chg : (Try.prog.info? 34).map (fun i => (i.zero, i.size, i.bytes)) = some (some (.agg #[.int .i64 0, .int .i64 0, .int .i64 0, .int .i64 0, .int .i64 0, .int .i64 0, .int .i64 0, .int .i64 0, .int .i64 0]), 9, 72) := by kernel_rfl
theorem ownsRow_adds {w w' : World} {base : Nat} {e : TypeId} {size : Nat} {v : Value} {n : Nat} {xs : List Value} (h : w.ownsRow base e size v n xs) (k : Adds w w') : w'.ownsRow base e size v n xs := by
  obtain ⟨h1, h2⟩ := h
  refine ⟨h1, ?_⟩
  rcases h2 with h2 | ⟨g, cap, cur, a1, a2, a3, a4⟩
  · exact Or.inl h2
  · have hg : g < w.heap.size := by
      rcases Nat.lt_or_ge g w.heap.size with h' | h'
      · exact h'
      · rw [Array.getElem?_eq_none h'] at a3; cases a3
    exact Or.inr ⟨g, cap, cur, a1, a2, by rw [k.below.block g hg]; exact a3, a4⟩
theorem Below.adds {B : Nat} {a w w' : World} (h : Below B a w) (k : Adds w w') (hB : B ≤ w.heap.size) : Below B a w' := h.trans (k.below.mono hB)
theorem ownsRow_low {w : World} {base base' : Nat} {e : TypeId} {size : Nat} {v : Value} {n : Nat} {xs : List Value} (h : w.ownsRow base e size v n xs) (hb : base' ≤ base) : w.ownsRow base' e size v n xs :=
  ⟨h.1, h.2.imp id fun ⟨g, cap, cur, a1, a2, a3⟩ => ⟨g, cap, cur, a1, Nat.le_trans hb a2, a3⟩⟩
theorem foldl_full (l : List Int) (hl : l.length = 9) (z : Array Value) (hz : z.size = 9) : Array.foldl (fun cs x => cs.setIfInBounds x.snd x.fst) z ((A l).zipIdx 0) 0 9 = A l := by
  match l, hl with
  | [a, b, c, d, e, f, g, h, i], _ =>
    obtain ⟨z⟩ := z
    match z, hz with
    | [z0, z1, z2, z3, z4, z5, z6, z7, z8], _ => simp [A]
/-- Those that are not known. -/
def lackL (v : List Int) (L : List (List Int)) : List (List Int) := L.filter (fun q => !hasB v (q.take 2))
theorem lack_snoc (v : List Int) (L : List (List Int)) (k : Nat) (h : k < L.length) : lackL v (L.take (k + 1)) = if hasB v ((el L k).take 2) then lackL v (L.take k) else lackL v (L.take k) ++ [el L k] := by
  have : L.take (k + 1) = L.take k ++ [el L k] := by
    rw [List.take_add_one, List.getElem?_eq_getElem h]
    simp [el, List.getD, List.getElem?_eq_getElem h]
  rw [lackL, this, List.filter_append]
  by_cases hb : hasB v ((el L k).take 2) = true <;> simp [hb, lackL]
theorem lack_le (v : List Int) (L : List (List Int)) : (lackL v L).length ≤ L.length := List.length_filter_le _ _
def cellsL (L : List (List Int)) : List Value := L.flatMap (fun l => l.map (Value.int .i64))
theorem A_list (l : List Int) : (A l).toList = l.map (Value.int .i64) := by simp [A]
set_option maxHeartbeats 2000000 in
theorem Lacking_any (v : List Int) (hv : v.length = 4) (a : Option Addr) (c : Nat) (L : List (List Int)) (w : World) (h : SlK w.heap.size 9 w a L) (hL : L.length * 72 ≤ 140737488351232) :
    Calls Try.prog 19 #[.agg (A v), .slice a L.length c] w fun e w' => ∃ out, e = .returned out ∧ w'.ownsRow w.heap.size 34 9 out (lackL v L).length (cellsL (lackL v L)) ∧ Below w.heap.size w w' := by
  obtain ⟨i0, hi, hz0, hz1, hz2⟩ := info_parts info_chg
  have H := Lib.hid h
  clear h
  go_enter Try.func19, Try.ntmps19
  go_wp2_with fail
  go_loopw [5, 10] (fun u i wr => ∃ k : Nat, k ≤ L.length ∧ i = .int .i64 k ∧ wr.ownsRow (w.heap.size + 1) 34 9 u (lackL v (L.take k)).length (cellsL (lackL v (L.take k))) ∧ row wr w.heap.size = A v ∧ w.heap.size + 1 ≤ wr.heap.size ∧ Below w.heap.size w wr) (fun _ i _ => L.length - (intOf i).toNat)
  case atStart => exact ⟨0, Nat.zero_le _, rfl, World.ownsRow_nil _ _ _ _, by go_simp, by simp, (Below.refl _ _).alloc (Nat.le_refl _) _⟩
  case round =>
    obtain ⟨k, hk, rfl, hown, hrow, hsize, hbel⟩ := hrel
    by_cases hlt : k < L.length
    · obtain ⟨b, off, rfl, hb, hsz, hx⟩ := H.out.2 k hlt
      have hlen := H.out.len hlt
      have q1 : b < wr.heap.size := by omega
      have q4 : w.heap.size < wr.heap.size := by omega
      have hrb : row wr b = row w b := row_below hbel hb
      rw [← hrb] at hsz hx
      clear hrb
      have hs := Lib.hid (lack_snoc v L k hlt)
      by_cases hin : hasB v ((el L k).take 2) = true
      · have C : Hid (∀ W, Calls Try.prog 44 #[.agg (A v), .agg ((A (el L k)).extract 0 2)] W fun e w' => e = .returned (.bool true) ∧ Adds W w') := fun W => by
          have := Has_any v ((el L k).take 2) hv (by simp [hlen]) W
          rw [show A ((el L k).take 2) = (A (el L k)).extract 0 2 by rw [extract_A]; rfl] at this
          rw [hin] at this
          exact this
        go_wp2_with fail
        refine (C.out _).mono ?_
        rintro e w1 ⟨rfl, nd, os, rfl⟩
        go_wp2_with fail
        go_roundw
        case rel => exact ⟨k + 1, by omega, by go_num, by rw [hs.out, if_pos hin]; exact ownsRow_adds hown (by repeat (first | exact Adds.refl _ | apply Adds.more | apply Adds.alloc | apply Adds.drewN | apply Adds.drew)), (row_below (B := wr.heap.size) (Adds.below (by repeat (first | exact Adds.refl _ | apply Adds.more | apply Adds.alloc | apply Adds.drewN | apply Adds.drew))) (by omega)).trans hrow, Nat.le_trans hsize (Adds.below (by repeat (first | exact Adds.refl _ | apply Adds.more | apply Adds.alloc | apply Adds.drewN | apply Adds.drew))).size, Ytikhhmdmmgkakaa.Below.adds hbel (by repeat (first | exact Adds.refl _ | apply Adds.more | apply Adds.alloc | apply Adds.drewN | apply Adds.drew)) (by omega)⟩
        case measure => simp [intOf]; omega
      · have C : Hid (∀ W, Calls Try.prog 44 #[.agg (A v), .agg ((A (el L k)).extract 0 2)] W fun e w' => e = .returned (.bool false) ∧ Adds W w') := fun W => by
          have := Has_any v ((el L k).take 2) hv (by simp [hlen]) W
          rw [show A ((el L k).take 2) = (A (el L k)).extract 0 2 by rw [extract_A]; rfl] at this
          rw [show hasB v ((el L k).take 2) = false by simpa using hin] at this
          exact this
        have HI := Lib.hid hin
        clear hin
        go_wp2_with fail
        refine (C.out _).mono ?_
        rintro e w1 ⟨rfl, nd, os, rfl⟩
        have hown2 := Lib.hid (ownsRow_adds hown (show Adds wr (more (wr.alloc (.cells (A (el L k)) 34)) nd os) from (by repeat (first | exact Adds.refl _ | apply Adds.more | apply Adds.alloc | apply Adds.drewN | apply Adds.drew))))
        go_wp2_with (first
          | (at_builtin; refine wpList_append_own _ rfl _ _ 27 rfl (w.heap.size + 1) 34 i0 _ 9 72 Try.underlying27 hi hz0 hz1 hz2 rfl (by decide) _ _ _ rfl (ownsRow_adds hown (by repeat (first | exact Adds.refl _ | apply Adds.more | apply Adds.alloc | apply Adds.drewN | apply Adds.drew))) ⟨wr.heap.size + 1 + os.length, 0, none⟩ 1 1 ((el L k).map (Value.int .i64)) rfl (by simp [hlen]) ?c1 ?c2 ?c3 ?c4 ?c5 ?_)
          | fail)
        case c1 =>
          intro j u hj
          rw [foldl_full _ hlen _ rfl]
          rw [show (⟨wr.heap.size + 1 + os.length, 0, none⟩ : Addr).add j = ⟨wr.heap.size + 1 + os.length, 0 + j, none⟩ from by simp [Addr.add]; omega]
          rw [cell?_row, row_alloc_at _ _ _ _ (by simp [size_more]), Nat.zero_add, ← Array.getElem?_toList, A_list]
          exact hj
        case c2 => intro u hu; obtain ⟨z, _, rfl⟩ := List.mem_map.1 hu; rfl
        case c3 => have := lack_le v (L.take k); simp at this; unfold maxLen; omega
        case c4 => have := lack_le v (L.take k); simp at this; omega
        case c5 => simp [size_more]; omega
        · intro v' w1 hown' hgrow _
          have hlow := fun j hj => (hown.lt j hj).1
          have B1 : Below (w.heap.size + 1) wr w1 := Below.grown (Ytikhhmdmmgkakaa.Below.adds (Below.refl _ wr) (by repeat (first | exact Adds.refl _ | apply Adds.more | apply Adds.alloc | apply Adds.drewN | apply Adds.drew)) (by omega)) hgrow (by simp [size_more]; omega) hlow
          have e1 : lackL v (L.take (k + 1)) = lackL v (L.take k) ++ [el L k] := by rw [hs.out, if_neg HI.out]
          have r1 : w1.ownsRow (w.heap.size + 1) 34 9 v' (lackL v (L.take (k + 1))).length (cellsL (lackL v (L.take (k + 1)))) := by rw [e1]; simpa [cellsL] using hown'
          have r2 : row w1 w.heap.size = A v := (row_below B1 (by omega)).trans hrow
          have r3 : w.heap.size + 1 ≤ w1.heap.size := Nat.le_trans hsize B1.size
          have r4 : Below w.heap.size w w1 := hbel.trans (B1.mono (by omega))
          clear hown' hgrow hown hrow hsize hbel hlow B1 e1
          go_wp2_with fail
          go_roundw
          case rel => exact ⟨k + 1, by omega, by go_num, r1, r2, r3, r4⟩
          case measure => simp [intOf]; omega
    · have HL := Lib.hid (show L.take k = L from List.take_of_length_le (by omega))
      go_wp2_with fail
      go_ret
      exact ⟨_, rfl, by rw [HL.out] at hown; exact ownsRow_low hown (by omega), hbel⟩
end Go.Proofs.Ytikhhmdmmgkakaa
