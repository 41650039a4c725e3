/-
  vector.Of, Has, Next. Conditions: every contract names its own.
-/
import Derived.Test.YtikhhmdmmgkakaaVector
namespace Go.Proofs.Ytikhhmdmmgkakaa
open Go.RowKit
set_option linter.unusedVariables false

/-! Numbers of blocks. -/
section
variable (a x1 x2 x3 x4 x5 x6 : Nat)
@[go_sem] theorem lt_lit1_2_1 : a + 1 < a + 2 + x1 := by omega
@[go_sem] theorem lt_lit1_2_2 : a + 1 < a + 2 + x1 + x2 := by omega
@[go_sem] theorem lt_lit1_2_3 : a + 1 < a + 2 + x1 + x2 + x3 := by omega
@[go_sem] theorem lt_lit1_2_4 : a + 1 < a + 2 + x1 + x2 + x3 + x4 := by omega
@[go_sem] theorem lt_lit1_2_5 : a + 1 < a + 2 + x1 + x2 + x3 + x4 + x5 := by omega
@[go_sem] theorem lt_lit1_2_6 : a + 1 < a + 2 + x1 + x2 + x3 + x4 + x5 + x6 := by omega
@[go_sem] theorem lt_lit1_3_1 : a + 1 < a + 3 + x1 := by omega
@[go_sem] theorem lt_lit1_3_2 : a + 1 < a + 3 + x1 + x2 := by omega
@[go_sem] theorem lt_lit1_3_3 : a + 1 < a + 3 + x1 + x2 + x3 := by omega
@[go_sem] theorem lt_lit1_3_4 : a + 1 < a + 3 + x1 + x2 + x3 + x4 := by omega
@[go_sem] theorem lt_lit1_3_5 : a + 1 < a + 3 + x1 + x2 + x3 + x4 + x5 := by omega
@[go_sem] theorem lt_lit1_3_6 : a + 1 < a + 3 + x1 + x2 + x3 + x4 + x5 + x6 := by omega
@[go_sem] theorem lt_lit2_3_1 : a + 2 < a + 3 + x1 := by omega
@[go_sem] theorem lt_lit2_3_2 : a + 2 < a + 3 + x1 + x2 := by omega
@[go_sem] theorem lt_lit2_3_3 : a + 2 < a + 3 + x1 + x2 + x3 := by omega
@[go_sem] theorem lt_lit2_3_4 : a + 2 < a + 3 + x1 + x2 + x3 + x4 := by omega
@[go_sem] theorem lt_lit2_3_5 : a + 2 < a + 3 + x1 + x2 + x3 + x4 + x5 := by omega
@[go_sem] theorem lt_lit2_3_6 : a + 2 < a + 3 + x1 + x2 + x3 + x4 + x5 + x6 := by omega
@[go_sem] theorem lt_lit1_4_1 : a + 1 < a + 4 + x1 := by omega
@[go_sem] theorem lt_lit1_4_2 : a + 1 < a + 4 + x1 + x2 := by omega
@[go_sem] theorem lt_lit1_4_3 : a + 1 < a + 4 + x1 + x2 + x3 := by omega
@[go_sem] theorem lt_lit1_4_4 : a + 1 < a + 4 + x1 + x2 + x3 + x4 := by omega
@[go_sem] theorem lt_lit1_4_5 : a + 1 < a + 4 + x1 + x2 + x3 + x4 + x5 := by omega
@[go_sem] theorem lt_lit1_4_6 : a + 1 < a + 4 + x1 + x2 + x3 + x4 + x5 + x6 := by omega
@[go_sem] theorem lt_lit2_4_1 : a + 2 < a + 4 + x1 := by omega
@[go_sem] theorem lt_lit2_4_2 : a + 2 < a + 4 + x1 + x2 := by omega
@[go_sem] theorem lt_lit2_4_3 : a + 2 < a + 4 + x1 + x2 + x3 := by omega
@[go_sem] theorem lt_lit2_4_4 : a + 2 < a + 4 + x1 + x2 + x3 + x4 := by omega
@[go_sem] theorem lt_lit2_4_5 : a + 2 < a + 4 + x1 + x2 + x3 + x4 + x5 := by omega
@[go_sem] theorem lt_lit2_4_6 : a + 2 < a + 4 + x1 + x2 + x3 + x4 + x5 + x6 := by omega
@[go_sem] theorem lt_lit3_4_1 : a + 3 < a + 4 + x1 := by omega
@[go_sem] theorem lt_lit3_4_2 : a + 3 < a + 4 + x1 + x2 := by omega
@[go_sem] theorem lt_lit3_4_3 : a + 3 < a + 4 + x1 + x2 + x3 := by omega
@[go_sem] theorem lt_lit3_4_4 : a + 3 < a + 4 + x1 + x2 + x3 + x4 := by omega
@[go_sem] theorem lt_lit3_4_5 : a + 3 < a + 4 + x1 + x2 + x3 + x4 + x5 := by omega
@[go_sem] theorem lt_lit3_4_6 : a + 3 < a + 4 + x1 + x2 + x3 + x4 + x5 + x6 := by omega
end
/-- What is known behind one more change. -/
def ofStep (v c : List Int) : List Int := if 0 ≤ nth c 0 ∧ nth c 0 < 4 then v.set (nth c 0).toNat (mx (nth v (nth c 0).toNat) (nth c 1)) else v
def ofL (L : List (List Int)) : List Int := L.foldl ofStep z4
theorem len_ofStep (v c : List Int) : (ofStep v c).length = v.length := by unfold ofStep; split <;> simp
theorem len_fold (L : List (List Int)) : ∀ v, (L.foldl ofStep v).length = v.length := by
  induction L with
  | nil => intro v; rfl
  | cons c L ih => intro v; rw [List.foldl_cons, ih, len_ofStep]
theorem fold_snoc (L : List (List Int)) (k : Nat) (hk : k < L.length) : (L.take (k + 1)).foldl ofStep z4 = ofStep ((L.take k).foldl ofStep z4) (el L k) := by
  rw [List.take_succ_eq_append_getElem hk, List.foldl_append, el_eq hk]
  rfl
set_option maxHeartbeats 1000000 in
theorem Of_any (a : Option Addr) (c : Nat) (L : List (List Int)) (w : World) (h : SlK w.heap.size 9 w a L) (hL : L.length ≤ 9223372036854775807) : Calls Try.prog 18 #[.slice a L.length c] w fun e w' => e = .returned (.agg (A (ofL L))) ∧ Adds w w' := by
  have hz : z4.length = 4 := rfl
  have H := Lib.hid h
  clear h
  go_enter Try.func18, Try.ntmps18
  go_wp2_with fail
  go_loopw [9] (fun i wr => ∃ k : Nat, k ≤ L.length ∧ i = .int .i64 k ∧ ∃ nd os v, Hid (v = (L.take k).foldl ofStep z4) ∧ wr = more ((w.alloc (.cells (A z4) 22)).alloc (.cells (A v) 22)) nd os) (fun i _ => L.length - (intOf i).toNat)
  case atStart => exact ⟨0, Nat.zero_le _, rfl, 0, [], z4, rfl, by rw [more_zero]⟩
  case round =>
    obtain ⟨k, hk, rfl, nd, os, v, hv, rfl⟩ := hrel
    have hvl : v.length = 4 := by rw [hv.out, len_fold]; rfl
    by_cases hlt : k < L.length
    · obtain ⟨b, off, rfl, hb, hsz, hx⟩ := H.out.2 k hlt
      have hlen := H.out.len hlt
      have q1 : b < w.heap.size + 1 := by omega
      have q2 : b < w.heap.size + 1 + 1 := by omega
      have q3 : b < w.heap.size + 2 := by omega
      have hs := Lib.hid (fold_snoc L k hlt)
      have HV := Lib.hid hv.out
      generalize hr : nth (el L k) 0 = r at *
      have HR := Lib.hid hr
      clear hr
      by_cases hin : 0 ≤ r ∧ r < 4
      · obtain ⟨r0, r1⟩ := hin
        have r2 : r.toNat < 4 := by omega
        have hst : ofStep v (el L k) = v.set r.toNat (mx (nth v r.toNat) (nth (el L k) 1)) := by unfold ofStep; rw [HR.out, if_pos ⟨r0, r1⟩]
        have HST := Lib.hid hst
        clear hst
        have hr' := HR.out
        go_wp2_with fail
        refine (there_yes r _ r0 r1).mono ?_
        rintro e w1 ⟨rfl, rfl⟩
        go_wp2_with fail
        obtain ⟨W0, hW0⟩ : ∃ W0, W0 = World.alloc (more ((w.alloc (.cells (A z4) 22)).alloc (.cells (A v) 22)) nd os) (.cells (A (el L k)) 34) := ⟨_, rfl⟩
        rw [← hW0]
        have f1 : W0.cell? ⟨w.heap.size + 1, r.toNat, none⟩ = some (.int .i64 (nth v r.toNat)) := by rw [hW0]; go_simp
        have f2 : W0.cell? ⟨w.heap.size + 1 + 1 + os.length, 1, none⟩ = some (.int .i64 (nth (el L k) 1)) := by rw [hW0]; go_simp
        have HW0 := Lib.hid hW0
        clear hW0
        go_still_tail 9, (by kernel_rfl)
        change wpList _ _ _ _ _ (World.drew W0)
        rw [HW0.out]
        clear f1 f2 HW0
        go_wp2_with fail
        go_roundw
        case rel => exact ⟨k + 1, by omega, by go_num, _, _, _, by rw [hs.out, ← HV.out, HST.out]; rfl, by rw [drew_more, alloc_more, more_more, more_more]⟩
        case measure => simp [intOf]; omega
      · have hst : ofStep v (el L k) = v := by unfold ofStep; rw [HR.out, if_neg hin]
        have HST := Lib.hid hst
        have HI := Lib.hid hin
        clear hst hin
        have hr' := HR.out
        go_wp2_with fail
        refine (there_no r _ (by have := HI.out; omega)).mono ?_
        rintro e w1 ⟨rfl, rfl⟩
        go_wp2_with fail
        go_roundw
        case rel => exact ⟨k + 1, by omega, by go_num, _, _, v, by unfold Hid; rw [hs.out, ← HV.out, HST.out], by rw [alloc_more, more_more]⟩
        case measure => simp [intOf]; omega
    · have HL := Lib.hid (show L.take k = L from List.take_of_length_le (by omega))
      go_wp2_with fail
      refine ret_agg (ty := 22) (p := 2) (n := 4) (g := w.heap.size) (D := A v) rfl Try.isAgg22 Try.sizeOf22 rfl ?_ ?_ rfl ⟨?_, ?_⟩
      · rw [size_A, hvl]
      · go_simp
      · rw [hv.out, HL.out]; rfl
      · exact (((Adds.refl _).alloc _).alloc _).more _ _
end Go.Proofs.Ytikhhmdmmgkakaa
