/-
 Chapter 43, plainly: what a clash is, what is sunk. Conditions: none; every lemma names its own.
-/
import Derived.Test.YtiifcalgolkpiaaOSn
import Derived.Test.YtiifcalgolkpiaaPj
set_option linter.constructorNameAsVariable false
namespace Go.Proofs.Ytiifcalgolkpiaa.AE
open Go Go.Proofs Go.RowKit
set_option linter.unusedVariables false
set_option linter.unusedSimpArgs false
theorem lessChg_asymm {a b : Chg} (h : lessChg a b = true) : lessChg b a = false := by
 rw [← lessCR_eq] at h ⊢
 simp only [lessCR, decide_eq_true_eq, decide_eq_false_iff_not] at h ⊢
 omega
def clashB (p : Bk × List Ord) (c d : Chg) : Bool := !(sameB (bkL p [c, d]).1 (bkL p [c, d]).2 (bkL p [d, c]).1 (bkL p [d, c]).2) || !(decide (ouL p [c, d] = (ouL p [d, c]).reverse))
theorem clashB_F {p : Bk × List Ord} {c d : Chg} : clashB p c d = false ↔ bkL p [c, d] = bkL p [d, c] ∧ ocB p c = ocB (stB p d) c ∧ ocB (stB p c) d = ocB p d := by
 simp only [clashB, sameB, Bool.or_eq_false_iff, Bool.not_eq_false', decide_eq_true_eq]
 refine and_congr ?_ ?_
 ·
  constructor
  · rintro ⟨h1, h2⟩; exact Prod.ext h1 h2
  · intro h; rw [h]; exact ⟨rfl, rfl⟩
 · simp [ouL]
theorem clashB_comm (p : Bk × List Ord) (c d : Chg) : clashB p d c = clashB p c d := by
 have hk : clashB p d c = false ↔ clashB p c d = false := by
  rw [clashB_F, clashB_F]
  constructor
  · rintro ⟨h1, h2, h3⟩; exact ⟨h1.symm, h3.symm, h2.symm⟩
  · rintro ⟨h1, h2, h3⟩; exact ⟨h1.symm, h3.symm, h2.symm⟩
 cases h1 : clashB p d c <;> cases h2 : clashB p c d <;> simp_all
def swapN (l : List Chg) (n : Nat) : List Chg := match l[n]?, l[n + 1]? with
 | some x, some y => (l.set n y).set (n + 1) x
 | _, _ => l
theorem swapN_len (l : List Chg) (n : Nat) : (swapN l n).length = l.length := by
 unfold swapN
 split <;> simp
theorem swapN_at (A B : List Chg) (x y : Chg) : swapN (A ++ x :: y :: B) A.length = A ++ y :: x :: B := by
 have h1 : (A ++ x :: y :: B)[A.length]? = some x := by simp
 have h2 : (A ++ x :: y :: B)[A.length + 1]? = some y := by
  rw [List.getElem?_append_right (by omega)]; simp
 unfold swapN
 rw [h1, h2]
 simp only
 rw [List.set_append_right _ _ (by omega), List.set_append_right _ _ (by omega)]
 simp
theorem swap_split {l : List Chg} {n : Nat} (h : n + 1 < l.length) : ∃ A x y B, l = A ++ x :: y :: B ∧ A.length = n := by
 refine ⟨l.take n, l[n], l[n + 1], l.drop (n + 2), ?_, by simp; omega⟩
 rw [← List.drop_eq_getElem_cons (by omega), ← List.drop_eq_getElem_cons (by omega), List.take_append_drop]
theorem swapN_eq {l : List Chg} {n : Nat} {x y : Chg} (hx : l[n]? = some x) (hy : l[n + 1]? = some y) : swapN l n = (l.set n y).set (n + 1) x := by
 unfold swapN
 rw [hx, hy]
def freeB (p : Bk × List Ord) (l : List Chg) (n : Nat) : Bool := match l[n]?, l[n + 1]? with
 | some x, some y => !clashB (bkL p (l.take n)) x y
 | _, _ => false
theorem freeB_at (p : Bk × List Ord) (A B : List Chg) (x y : Chg) : freeB p (A ++ x :: y :: B) A.length = !clashB (bkL p A) x y := by
 have h1 : (A ++ x :: y :: B)[A.length]? = some x := by simp
 have h2 : (A ++ x :: y :: B)[A.length + 1]? = some y := by
  rw [List.getElem?_append_right (by omega)]; simp
 have h3 : (A ++ x :: y :: B).take A.length = A := by simp
 unfold freeB
 rw [h1, h2, h3]
theorem freeB_eq {p : Bk × List Ord} {l : List Chg} {n : Nat} {x y : Chg} (hx : l[n]? = some x) (hy : l[n + 1]? = some y) : freeB p l n = !clashB (bkL p (l.take n)) x y := by
 unfold freeB
 rw [hx, hy]
theorem ouL_pair (p : Bk × List Ord) (c d : Chg) : ouL p [c, d] = [ocB p c, ocB (stB p c) d] := rfl
theorem bkL_cons2 (p : Bk × List Ord) (c d : Chg) (B : List Chg) : bkL p (c :: d :: B) = bkL (bkL p [c, d]) B := rfl
theorem ouL_cons2 (p : Bk × List Ord) (c d : Chg) (B : List Chg) : ouL p (c :: d :: B) = ocB p c :: ocB (stB p c) d :: ouL (bkL p [c, d]) B := rfl
theorem free_swap {p : Bk × List Ord} {A B : List Chg} {c d : Chg} (h : clashB (bkL p A) c d = false) :
  bkL p (A ++ d :: c :: B) = bkL p (A ++ c :: d :: B) ∧ ∃ (u v : List Outc) (x y : Outc), u.length = A.length ∧ ouL p (A ++ c :: d :: B) = u ++ x :: y :: v ∧ ouL p (A ++ d :: c :: B) = u ++ y :: x :: v := by
 obtain ⟨h1, h2, h3⟩ := clashB_F.1 h
 refine ⟨?_, ouL p A, ouL (bkL (bkL p A) [c, d]) B, ocB (bkL p A) c, ocB (stB (bkL p A) c) d, ouL_len p A, ?_, ?_⟩
 · rw [bkL_append, bkL_append, bkL_cons2 _ d c B, bkL_cons2 _ c d B, h1]
 · rw [ouL_append, ouL_cons2 _ c d B]
 · rw [ouL_append, ouL_cons2 _ d c B, ← h1, ← h2, h3]
def inv43 : List Chg → Nat
 | [] => 0
 | x :: r => (r.filter fun y => lessChg y x).length + inv43 r
theorem inv43_swap : ∀ (A B : List Chg) (x y : Chg), lessChg y x = true → inv43 (A ++ x :: y :: B) = inv43 (A ++ y :: x :: B) + 1
 | [], B, x, y, h => by
  have h2 := lessChg_asymm h
  simp only [List.nil_append, inv43, List.filter_cons, h, h2, if_true]
  simp
  omega
 | a :: A, B, x, y, h => by
  have := inv43_swap A B x y h
  simp only [List.cons_append, inv43, this]
  have e : ((A ++ x :: y :: B).filter fun z => lessChg z a).length = ((A ++ y :: x :: B).filter fun z => lessChg z a).length := by
   simp only [List.filter_append, List.filter_cons, List.length_append]
   split <;> split <;> simp
  omega
def readyB (p : Bk × List Ord) (l : List Chg) (n : Nat) : Bool := match l[n]?, l[n + 1]? with
 | some x, some y => lessChg y x && freeB p l n
 | _, _ => false
theorem readyB_eq {p : Bk × List Ord} {l : List Chg} {n : Nat} {x y : Chg} (hx : l[n]? = some x) (hy : l[n + 1]? = some y) : readyB p l n = (lessChg y x && freeB p l n) := by
 unfold readyB
 rw [hx, hy]
def sinkF (p : Bk × List Ord) : Nat → List Chg → List Chg
 | 0, l => l
 | n + 1, l => match (List.range (l.length - 1)).find? (readyB p l) with
  | none => l
  | some i => sinkF p n (swapN l i)
def sinkL (p : Bk × List Ord) (l : List Chg) : List Chg := sinkF p (inv43 l) l
theorem ready_split {p : Bk × List Ord} {l : List Chg} {i : Nat} (h : readyB p l i = true) : ∃ A x y B, l = A ++ x :: y :: B ∧ A.length = i ∧ lessChg y x = true ∧ clashB (bkL p A) x y = false := by
 have hi : i + 1 < l.length := by
  unfold readyB at h
  split at h
  · rename_i x y hx hy; exact (List.getElem?_eq_some_iff.1 hy).1
  · cases h
 obtain ⟨A, x, y, B, rfl, rfl⟩ := swap_split hi
 refine ⟨A, x, y, B, rfl, rfl, ?_⟩
 have h1 : (A ++ x :: y :: B)[A.length]? = some x := by simp
 have h2 : (A ++ x :: y :: B)[A.length + 1]? = some y := by
  rw [List.getElem?_append_right (by omega)]; simp
 rw [readyB_eq h1 h2, freeB_at, Bool.and_eq_true] at h
 exact ⟨h.1, by simpa using h.2⟩
theorem inv43_ready {p : Bk × List Ord} {l : List Chg} {i : Nat} (h : readyB p l i = true) : inv43 l = inv43 (swapN l i) + 1 := by
 obtain ⟨A, x, y, B, rfl, rfl, hl, _⟩ := ready_split h
 rw [swapN_at, inv43_swap _ _ _ _ hl]
theorem find_range {f : Nat → Bool} {n i : Nat} (hi : i < n) (h : f i = true) (hb : ∀ j, j < i → f j = false) : (List.range n).find? f = some i := by
 rw [List.find?_range_eq_some]
 exact ⟨h, by simpa using hi, fun j hj => by simp [hb j hj]⟩
theorem sink_some {p : Bk × List Ord} {l : List Chg} {i : Nat} (h : readyB p l i = true) (hb : ∀ j, j < i → readyB p l j = false) : sinkL p l = sinkL p (swapN l i) := by
 have hi : i < l.length - 1 := by
  obtain ⟨A, x, y, B, rfl, rfl, _⟩ := ready_split h
  simp
 unfold sinkL
 rw [inv43_ready h]
 simp only [sinkF, find_range hi h hb]
theorem sink_none {p : Bk × List Ord} {l : List Chg} (hb : ∀ j, j + 1 < l.length → readyB p l j = false) : sinkL p l = l := by
 unfold sinkL
 cases inv43 l with
 | zero => rfl
 | succ n =>
  have : (List.range (l.length - 1)).find? (readyB p l) = none := by
   rw [List.find?_eq_none]
   intro x hx
   rw [List.mem_range] at hx
   rw [hb x (by omega)]
   simp
  simp only [sinkF, this]
structure Sunk (p : Bk × List Ord) (l s : List Chg) : Prop where
 len : s.length = l.length
 bk : bkL p s = bkL p l
 zip : (s.zip (ouL p s)).Perm (l.zip (ouL p l))
theorem sunk_step {p : Bk × List Ord} {l : List Chg} {i : Nat} (h : readyB p l i = true) : Sunk p l (swapN l i) := by
 obtain ⟨A, x, y, B, rfl, rfl, _, hc⟩ := ready_split h
 obtain ⟨h1, u, v, a, b, hu, h2, h3⟩ := free_swap (B := B) hc
 rw [swapN_at]
 refine ⟨by simp, h1, ?_⟩
 rw [h2, h3, List.zip_append hu.symm, List.zip_append hu.symm]
 simp only [List.zip_cons_cons]
 exact List.Perm.append_left _ (List.Perm.swap _ _ _)
theorem sinkF_sunk (p : Bk × List Ord) : ∀ (n : Nat) (l : List Chg), Sunk p l (sinkF p n l)
 | 0, l => ⟨rfl, rfl, List.Perm.refl _⟩
 | n + 1, l => by
  unfold sinkF
  split
  · exact ⟨rfl, rfl, List.Perm.refl _⟩
  ·
   rename_i i hi
   have h1 := sunk_step (List.find?_some hi)
   have h2 := sinkF_sunk p n (swapN l i)
   exact ⟨h2.len.trans h1.len, h2.bk.trans h1.bk, h2.zip.trans h1.zip⟩
theorem sinkF_end (p : Bk × List Ord) : ∀ (n : Nat) (l : List Chg), inv43 l ≤ n → ∀ j, readyB p (sinkF p n l) j = false
 | 0, l, h, j => by
  by_cases hr : readyB p l j = true
  · have := inv43_ready hr; omega
  · simpa [sinkF] using hr
 | n + 1, l, h, j => by
  unfold sinkF
  split
  ·
   rename_i hn
   by_cases hr : readyB p l j = true
   ·
    have hj : j < l.length - 1 := by
     obtain ⟨A, x, y, B, rfl, rfl, _⟩ := ready_split hr
     simp
    rw [List.find?_eq_none] at hn
    exact absurd hr (hn j (List.mem_range.2 hj))
   · simpa using hr
  ·
   rename_i i hi
   have := inv43_ready (List.find?_some hi)
   exact sinkF_end p n _ (by omega) j
theorem sinkL_sunk (p : Bk × List Ord) (l : List Chg) : Sunk p l (sinkL p l) := sinkF_sunk p _ l
theorem sinkL_end (p : Bk × List Ord) (l : List Chg) (j : Nat) : readyB p (sinkL p l) j = false := sinkF_end p _ l (Nat.le_refl _) j
theorem sinkL_len (p : Bk × List Ord) (l : List Chg) : (sinkL p l).length = l.length := (sinkL_sunk p l).len
theorem placeC_cases (l : List Chg) (a : Id) : (placeC l a = -1 ∧ ∀ x ∈ l, x.id ≠ a) ∨ ∃ (n : Nat) (x : Chg), placeC l a = n ∧ l[n]? = some x ∧ x.id = a ∧ ∀ m, m < n → ∀ y, l[m]? = some y → y.id ≠ a := by
 suffices ∀ (l : List Chg) (i : Nat), (idxL (isChg a) l i = -1 ∧ ∀ x ∈ l, x.id ≠ a) ∨ ∃ (n : Nat) (x : Chg), idxL (isChg a) l i = ((i + n : Nat) : Int) ∧ l[n]? = some x ∧ x.id = a ∧ ∀ m, m < n → ∀ y, l[m]? = some y → y.id ≠ a by
  rcases this l 0 with h | ⟨n, x, h⟩
  · exact .inl h
  · exact .inr ⟨n, x, by simpa [placeC] using h⟩
 intro l
 induction l with
 | nil => intro i; exact .inl ⟨rfl, fun x hx => by cases hx⟩
 | cons c r ih =>
  intro i
  by_cases hc : c.id = a
  · refine .inr ⟨0, c, by simp [idxL, isChg, hc], rfl, hc, fun m hm => by omega⟩
  ·
   have he : idxL (isChg a) (c :: r) i = idxL (isChg a) r (i + 1) := by simp [idxL, isChg, hc]
   rcases ih (i + 1) with ⟨h1, h2⟩ | ⟨n, x, h1, h2, h3, h4⟩
   ·
    exact .inl ⟨by rw [he, h1], fun x hx => by
     rcases List.mem_cons.1 hx with rfl | hx
     · exact hc
     · exact h2 x hx⟩
   ·
    refine .inr ⟨n + 1, x, by rw [he, h1]; congr 1; omega, h2, h3, fun m hm y hy => ?_⟩
    cases m with
    | zero => cases hy; exact hc
    | succ m => exact h4 m (by omega) y hy
def lastG43 (a : Id) : List Chg → Nat → Int → Int
 | [], _, t => t
 | x :: r, i, t => lastG43 a r (i + 1) (if x.id = a then (i : Int) else t)
def lastL43 (l : List Chg) (a : Id) : Int := lastG43 a l 0 (-1)
theorem lastG43_cases (a : Id) : ∀ (l : List Chg) (i : Nat) (t : Int), (lastG43 a l i t = t ∧ ∀ x ∈ l, x.id ≠ a) ∨ ∃ (n : Nat) (x : Chg), lastG43 a l i t = ((i + n : Nat) : Int) ∧ l[n]? = some x ∧ x.id = a ∧ ∀ m, n < m → ∀ y, l[m]? = some y → y.id ≠ a
 | [], i, t => .inl ⟨rfl, fun x hx => by cases hx⟩
 | c :: r, i, t => by
  rcases lastG43_cases a r (i + 1) (if c.id = a then (i : Int) else t) with ⟨h1, h2⟩ | ⟨n, x, h1, h2, h3, h4⟩
  ·
   by_cases hc : c.id = a
   ·
    refine .inr ⟨0, c, by simp only [lastG43]; rw [h1, if_pos hc]; rfl, rfl, hc, fun m hm y hy => ?_⟩
    cases m with
    | zero => omega
    | succ m => exact h2 y (List.mem_of_getElem? hy)
   ·
    refine .inl ⟨by simp only [lastG43]; rw [h1, if_neg hc], fun x hx => ?_⟩
    rcases List.mem_cons.1 hx with rfl | hx
    · exact hc
    · exact h2 x hx
  ·
   refine .inr ⟨n + 1, x, by simp only [lastG43]; rw [h1]; congr 1; omega, h2, h3, fun m hm y hy => ?_⟩
   cases m with
   | zero => omega
   | succ m => exact h4 m (by omega) y hy
theorem only_of {l : List Chg} {i : Nat} {x : Chg} (hx : l[i]? = some x) (h1 : placeC l x.id = i) (h2 : lastL43 l x.id = i) : ∀ y ∈ l, y.id = x.id → y = x := by
 intro y hy he
 obtain ⟨m, hm⟩ := List.getElem?_of_mem hy
 rcases placeC_cases l x.id with ⟨_, h⟩ | ⟨n, z, q1, q2, q3, q4⟩
 · exact absurd rfl (h x (List.mem_of_getElem? hx))
 ·
  have hn : n = i := by omega
  subst hn
  rcases lastG43_cases x.id l 0 (-1) with ⟨_, h⟩ | ⟨k, z', r1, r2, r3, r4⟩
  · exact absurd rfl (h x (List.mem_of_getElem? hx))
  ·
   have hk : k = n := by
    have : lastL43 l x.id = ((0 + k : Nat) : Int) := r1
    omega
   subst hk
   rcases Nat.lt_trichotomy m k with h | h | h
   · exact absurd he (q4 m h y hm)
   · subst h; rw [hx] at hm; cases hm; rfl
   · exact absurd he (r4 m h y hm)
theorem ids_of {l : List Chg} (h : ∀ (i : Nat) (x : Chg), l[i]? = some x → placeC l x.id = i) : ∀ (i j : Nat) (x y : Chg), l[i]? = some x → l[j]? = some y → x.id = y.id → i = j := by
 intro i j x y hx hy he
 have h1 := h i x hx
 have h2 := h j y hy
 rw [he, h2] at h1
 omega
theorem sunk_mem {p : Bk × List Ord} {l s : List Chg} (h : Sunk p l s) {x : Chg} : x ∈ s ↔ x ∈ l := by
 have h1 : s = (s.zip (ouL p s)).map Prod.fst := by rw [List.map_fst_zip]; rw [ouL_len]; exact Nat.le_refl _
 have h2 : l = (l.zip (ouL p l)).map Prod.fst := by rw [List.map_fst_zip]; rw [ouL_len]; exact Nat.le_refl _
 rw [h1, h2]
 exact (h.zip.map Prod.fst).mem_iff
theorem sunk_place {p : Bk × List Ord} {l s : List Chg} (h : Sunk p l s) {x : Chg} (hx : x ∈ l) : ∃ (n : Nat) (y : Chg), placeC s x.id = n ∧ n < s.length ∧ s[n]? = some y ∧ y.id = x.id ∧ y ∈ l := by
 rcases placeC_cases s x.id with ⟨_, h1⟩ | ⟨n, y, h1, h2, h3, h4⟩
 · exact absurd rfl (h1 x ((sunk_mem h).2 hx))
 · exact ⟨n, y, h1, (List.getElem?_eq_some_iff.1 h2).1, h2, h3, (sunk_mem h).1 (List.mem_of_getElem? h2)⟩
theorem count_ids {l : List Chg} (h : ∀ (i j : Nat) (x y : Chg), l[i]? = some x → l[j]? = some y → x.id = y.id → i = j) : (l.map Chg.id).Nodup := by
 refine List.pairwise_iff_getElem.2 fun i j hi hj hij he => ?_
 simp only [List.length_map] at hi hj
 simp only [List.getElem_map] at he
 have := h i j l[i] l[j] (List.getElem?_eq_getElem hi) (List.getElem?_eq_getElem hj) he
 omega
theorem sunk_out {p : Bk × List Ord} {l s : List Chg} (h : Sunk p l s) (hid : ∀ (i j : Nat) (x y : Chg), l[i]? = some x → l[j]? = some y → x.id = y.id → i = j) {i n : Nat} {x : Chg} (hx : l[i]? = some x) (hn : placeC s x.id = (n : Int)) :
  ∃ o, (ouL p l)[i]? = some o ∧ (ouL p s)[n]? = some o := by
 obtain ⟨o, ho⟩ : ∃ o, (ouL p l)[i]? = some o := ⟨_, List.getElem?_eq_getElem (by rw [ouL_len]; exact (List.getElem?_eq_some_iff.1 hx).1)⟩
 refine ⟨o, ho, ?_⟩
 have hm : (x, o) ∈ l.zip (ouL p l) := by
  refine List.mem_of_getElem? (i := i) ?_
  rw [List.getElem?_zip_eq_some]
  exact ⟨hx, ho⟩
 obtain ⟨j, hj⟩ := List.getElem?_of_mem (h.zip.mem_iff.2 hm)
 rw [List.getElem?_zip_eq_some] at hj
 obtain ⟨hj1, hj2⟩ := hj
 have hnd : (s.map Chg.id).Nodup := by
  have h1 : s.map Chg.id = (s.zip (ouL p s)).map fun q => q.1.id := by
   rw [show (fun q : Chg × Outc => q.1.id) = Chg.id ∘ Prod.fst from rfl, ← List.map_map, List.map_fst_zip]; rw [ouL_len]; exact Nat.le_refl _
  have h2 : l.map Chg.id = (l.zip (ouL p l)).map fun q => q.1.id := by
   rw [show (fun q : Chg × Outc => q.1.id) = Chg.id ∘ Prod.fst from rfl, ← List.map_map, List.map_fst_zip]; rw [ouL_len]; exact Nat.le_refl _
  rw [h1, (h.zip.map fun q => q.1.id).nodup_iff, ← h2]
  exact count_ids hid
 rcases placeC_cases s x.id with ⟨h1, _⟩ | ⟨m, y, h1, h2, h3, h4⟩
 · omega
 ·
  have hmn : m = n := by omega
  subst hmn
  rcases Nat.lt_trichotomy m j with hlt | rfl | hlt
  ·
   exfalso
   obtain ⟨lm, em⟩ := List.getElem?_eq_some_iff.1 h2
   obtain ⟨lj, ej⟩ := List.getElem?_eq_some_iff.1 hj1
   refine List.pairwise_iff_getElem.1 hnd m j (by simp; omega) (by simp; omega) hlt ?_
   rw [List.getElem_map, List.getElem_map, em, ej, h3]
  · exact hj2
  · exact absurd rfl (h4 j hlt x hj1)
end Go.Proofs.Ytiifcalgolkpiaa.AE
