/-
 Chapter 42, plainly: shifts, what they undo and ask for, pairs that stand the other way round. Conditions: none; every lemma names its own.
-/
import Derived.Test.YtfbooejaabdkoaaPj
import Derived.Test.YtfbooejaabdkoaaOSf
import Derived.Test.YtfbooejaabdkoaaOShf
set_option linter.constructorNameAsVariable false
namespace Go.Proofs.Ytfbooejaabdkoaa.AE
open Go Go.Proofs Go.RowKit
set_option linter.unusedVariables false
set_option linter.unusedSimpArgs false
def shift1 (x : List Chg) (ox : List Outc) (c : Chg) (o : Outc) : List Shf := if placeC x c.id < 0 then [] else match ox[(placeC x c.id).toNat]? with
 | some q => if q = o then [] else [⟨c.id, q, o⟩]
 | none => []
def shiftsL (x : List Chg) (ox : List Outc) : Bk × List Ord → List Chg → List Shf
 | _, [] => []
 | p, c :: r => shift1 x ox c (ocB p c) ++ shiftsL x ox (stB p c) r
theorem shiftsL_append (x : List Chg) (ox : List Outc) : ∀ (p : Bk × List Ord) (L M : List Chg), shiftsL x ox p (L ++ M) = shiftsL x ox p L ++ shiftsL x ox (bkL p L) M
 | p, [], M => rfl
 | p, c :: r, M => by
  simp only [List.cons_append, shiftsL, shiftsL_append x ox (stB p c) r M, List.append_assoc]
  rfl
theorem shiftsL_snoc (x : List Chg) (ox : List Outc) (p : Bk × List Ord) (L : List Chg) (c : Chg) : shiftsL x ox p (L ++ [c]) = shiftsL x ox p L ++ shift1 x ox c (ocB (bkL p L) c) := by
 rw [shiftsL_append]; simp [shiftsL]
theorem shift1_len (x : List Chg) (ox : List Outc) (c : Chg) (o : Outc) : (shift1 x ox c o).length ≤ 1 := by
 unfold shift1
 split
 · simp
 ·
  split
  · split <;> simp
  · simp
theorem shiftsL_len (x : List Chg) (ox : List Outc) : ∀ (p : Bk × List Ord) (L : List Chg), (shiftsL x ox p L).length ≤ L.length
 | p, [] => Nat.le_refl _
 | p, c :: r => by
  have h1 := shift1_len x ox c (ocB p c)
  have h2 := shiftsL_len x ox (stB p c) r
  simp only [shiftsL, List.length_append, List.length_cons]
  omega
theorem ouL_at (p : Bk × List Ord) (pre post : List Chg) (c : Chg) : (ouL p (pre ++ c :: post))[pre.length]? = some (ocB (bkL p pre) c) := by
 rw [ouL_append, List.getElem?_append_right (by rw [ouL_len]; exact Nat.le_refl _), ouL_len, Nat.sub_self]
 rfl
def commonL : List Eff → List Eff → Nat
 | a :: l, b :: m => if a = b then commonL l m + 1 else 0
 | _, _ => 0
theorem commonL_le : ∀ (l m : List Eff), commonL l m ≤ l.length ∧ commonL l m ≤ m.length
 | [], m => by simp [commonL]
 | a :: l, [] => by simp [commonL]
 | a :: l, b :: m => by
  have := commonL_le l m
  simp only [commonL, List.length_cons]
  split <;> omega
theorem commonL_take : ∀ (l m : List Eff), l.take (commonL l m) = m.take (commonL l m)
 | [], m => by simp [commonL]
 | a :: l, [] => by simp [commonL]
 | a :: l, b :: m => by
  simp only [commonL]
  split
  · rename_i h; subst h; simp [commonL_take l m]
  · simp
theorem commonL_stop : ∀ (l m : List Eff) (n : Nat), n ≤ commonL l m → (n = commonL l m ↔ ¬ (n < l.length ∧ n < m.length ∧ l[n]? = m[n]?))
 | [], m, n, h => by simp [commonL] at h ⊢; omega
 | a :: l, [], n, h => by simp [commonL] at h ⊢; omega
 | a :: l, b :: m, n, h => by
  simp only [commonL] at h ⊢
  by_cases hab : a = b
  ·
   subst hab
   rw [if_pos rfl] at h ⊢
   cases n with
   | zero => simp
   | succ n =>
    have := commonL_stop l m n (by omega)
    simp only [List.length_cons, List.getElem?_cons_succ]
    constructor
    · intro h1; have h2 := this.1 (by omega); intro h3; exact h2 ⟨by omega, by omega, h3.2.2⟩
    ·
     intro h1
     have := this.2 (fun h3 => h1 ⟨by omega, by omega, h3.2.2⟩)
     omega
  ·
   rw [if_neg hab] at h ⊢
   have : n = 0 := by omega
   subst this
   simp [hab]
def sidesN (s : Shf) : Nat := commonL (wantE s.old false) (wantE s.new false)
def undoL (s : Shf) : List Eff := ((wantE s.old false).drop (sidesN s)).reverse
def redoL (s : Shf) : List Eff := (wantE s.new false).drop (sidesN s)
def popL : List Eff → List Eff → Option (List Eff)
 | l, [] => some l
 | l, e :: r => if l.getLast? = some e then popL l.dropLast r else none
theorem popL_some : ∀ (u l m : List Eff), popL l u = some m ↔ l = m ++ u.reverse
 | [], l, m => by simp [popL]
 | e :: r, l, m => by
  simp only [popL]
  split
  ·
   rename_i h
   rw [popL_some r l.dropLast m]
   have hl : l = l.dropLast ++ [e] := by
    have hne : l ≠ [] := by intro hh; rw [hh] at h; simp at h
    rw [List.getLast?_eq_some_getLast hne, Option.some.injEq] at h
    rw [← h]; exact (List.dropLast_concat_getLast hne).symm
   constructor
   · intro h1; rw [hl, h1]; simp
   ·
    intro h1
    have h2 : l.dropLast ++ [e] = (m ++ r.reverse) ++ [e] := by rw [← hl, h1]; simp
    exact List.append_cancel_right h2
  ·
   rename_i h
   constructor
   · intro h1; cases h1
   ·
    intro h1
    exfalso
    apply h
    rw [h1]
    simp
def applyL (l : List Eff) (s : Shf) : List Eff × Bool := match popL l (undoL s) with
 | some m => (m ++ redoL s, true)
 | none => (l, false)
theorem apply_fit (l : List Eff) (s : Shf) (m : List Eff) (h : l = m ++ (wantE s.old false).drop (sidesN s)) : applyL l s = (m ++ redoL s, true) := by
 unfold applyL
 have : popL l (undoL s) = some m := (popL_some _ _ _).2 (by rw [h, undoL, List.reverse_reverse])
 rw [this]
theorem apply_below (below : List Eff) (s : Shf) : applyL (below ++ wantE s.old false) s = (below ++ wantE s.new false, true) := by
 have h := apply_fit (below ++ wantE s.old false) s (below ++ (wantE s.old false).take (sidesN s)) (by rw [List.append_assoc, List.take_append_drop])
 rw [h, redoL, sidesN, commonL_take, List.append_assoc, List.take_append_drop]
def endsB (l : List Eff) (s : Shf) : Bool := decide (((wantE s.old false).drop (sidesN s)).length ≤ l.length) && decide (l.drop (l.length - ((wantE s.old false).drop (sidesN s)).length) = (wantE s.old false).drop (sidesN s))
theorem apply_ends (l : List Eff) (s : Shf) : (applyL l s).2 = endsB l s ∧ (endsB l s = false → (applyL l s).1 = l) := by
 generalize hD : (wantE s.old false).drop (sidesN s) = D
 have key : endsB l s = true ↔ ∃ m, l = m ++ D := by
  unfold endsB
  rw [hD]
  simp only [Bool.and_eq_true, decide_eq_true_eq]
  constructor
  ·
   rintro ⟨h1, h2⟩
   exact ⟨l.take (l.length - D.length), by conv => lhs; rw [← List.take_append_drop (l.length - D.length) l, h2]⟩
  ·
   rintro ⟨m, rfl⟩
   simp
 have hu : (undoL s).reverse = D := by rw [undoL, List.reverse_reverse, hD]
 cases hp : popL l (undoL s) with
 | some m =>
  have h1 := (popL_some _ _ _).1 hp
  rw [hu] at h1
  have h2 : endsB l s = true := key.2 ⟨m, h1⟩
  simp [applyL, hp, h2]
 | none =>
  have h2 : endsB l s = false := by
   rw [← Bool.not_eq_true, key]
   rintro ⟨m, hm⟩
   have := (popL_some (undoL s) l m).2 (by rw [hu]; exact hm)
   rw [hp] at this
   cases this
  simp [applyL, hp, h2]
def cntP {α : Type} (f : α → α → Bool) : List α → Nat
 | [] => 0
 | a :: r => (r.filter (f a)).length + cntP f r
theorem cntP_filter {α : Type} (f : α → α → Bool) (g : α → Bool) : ∀ L : List α, cntP f (L.filter g) = cntP (fun a b => g a && g b && f a b) L
 | [] => rfl
 | a :: r => by
  cases hg : g a with
  | true =>
   simp only [List.filter_cons, hg, if_true, cntP, cntP_filter f g r, List.filter_filter, Bool.true_and]
   congr 2
   apply List.filter_congr
   intro b _
   exact Bool.and_comm ..
  | false =>
   simp [List.filter_cons, hg, cntP, cntP_filter f g r]
theorem cntP_map {α β : Type} (f : β → β → Bool) (m : α → β) : ∀ L : List α, cntP f (L.map m) = cntP (fun a b => f (m a) (m b)) L
 | [] => rfl
 | a :: r => by
  simp only [List.map_cons, cntP, cntP_map f m r, List.filter_map, List.length_map]
  rfl
def idsG : List Chg → List Id → List Id
 | [], acc => acc
 | c :: r, acc => idsG r (if c.id ∈ acc then acc else acc ++ [c.id])
def idsL (l : List Chg) : List Id := idsG l []
theorem idsG_snoc : ∀ (l : List Chg) (acc : List Id) (c : Chg), idsG (l ++ [c]) acc = if c.id ∈ idsG l acc then idsG l acc else idsG l acc ++ [c.id]
 | [], acc, c => rfl
 | d :: r, acc, c => by
  exact idsG_snoc r (if d.id ∈ acc then acc else acc ++ [d.id]) c
theorem idsG_mem : ∀ (l : List Chg) (acc : List Id) (a : Id), a ∈ idsG l acc ↔ a ∈ acc ∨ ∃ x ∈ l, x.id = a
 | [], acc, a => by simp [idsG]
 | d :: r, acc, a => by
  simp only [idsG, idsG_mem r, List.mem_cons]
  split
  ·
   rename_i h
   constructor
   ·
    rintro (h1 | ⟨x, h1, h2⟩)
    · exact .inl h1
    · exact .inr ⟨x, .inr h1, h2⟩
   ·
    rintro (h1 | ⟨x, rfl | h1, h2⟩)
    · exact .inl h1
    · exact .inl (h2 ▸ h)
    · exact .inr ⟨x, h1, h2⟩
  ·
   rename_i h
   simp only [List.mem_append, List.mem_singleton]
   constructor
   ·
    rintro ((h1 | h1) | ⟨x, h1, h2⟩)
    · exact .inl h1
    · exact .inr ⟨d, .inl rfl, h1.symm⟩
    · exact .inr ⟨x, .inr h1, h2⟩
   ·
    rintro (h1 | ⟨x, rfl | h1, h2⟩)
    · exact .inl (.inl h1)
    · exact .inl (.inr h2.symm)
    · exact .inr ⟨x, h1, h2⟩
theorem idsG_len : ∀ (l : List Chg) (acc : List Id), (idsG l acc).length ≤ acc.length + l.length
 | [], acc => Nat.le_refl _
 | d :: r, acc => by
  have h := idsG_len r (if d.id ∈ acc then acc else acc ++ [d.id])
  have h2 : (if d.id ∈ acc then acc else acc ++ [d.id]).length ≤ acc.length + 1 := by split <;> simp
  show (idsG r (if d.id ∈ acc then acc else acc ++ [d.id])).length ≤ _
  simp only [List.length_cons]
  omega
def firstB (l : List Chg) (i : Nat) : Bool := match l[i]? with
 | some x => decide (placeC l x.id = i)
 | none => false
def idAt (l : List Chg) (i : Nat) : Id := match l[i]? with
 | some x => x.id
 | none => zId
theorem idxL_left {p : Chg → Bool} : ∀ (l m : List Chg) (i : Nat), 0 ≤ idxL p l i → idxL p (l ++ m) i = idxL p l i
 | [], m, i, h => by simp [idxL] at h
 | x :: l, m, i, h => by
  by_cases hx : p x = true
  · simp [idxL, hx]
  ·
   have hx' : p x = false := by simpa using hx
   simp only [List.cons_append, idxL, hx', Bool.false_eq_true, if_false] at h ⊢
   exact idxL_left l m (i + 1) h
theorem idxL_right {p : Chg → Bool} {c : Chg} (hc : p c = true) : ∀ (l m : List Chg) (i : Nat), (∀ x ∈ l, p x = false) → idxL p (l ++ c :: m) i = ((i + l.length : Nat) : Int)
 | [], m, i, _ => by simp [idxL, hc]
 | x :: l, m, i, h => by
  have hx' := h x (by simp)
  simp only [List.cons_append, idxL, hx', Bool.false_eq_true, if_false]
  rw [idxL_right hc l m (i + 1) (fun y hy => h y (by simp [hy]))]
  simp only [List.length_cons]
  congr 1
  omega
theorem idxL_lt {p : Chg → Bool} : ∀ (l : List Chg) (i : Nat), 0 ≤ idxL p l i → idxL p l i < ((i + l.length : Nat) : Int)
 | [], i, h => by simp [idxL] at h
 | x :: l, i, h => by
  by_cases hx : p x = true
  · simp only [idxL, hx, if_true, List.length_cons]; omega
  ·
   have hx' : p x = false := by simpa using hx
   simp only [idxL, hx', Bool.false_eq_true, if_false, List.length_cons] at h ⊢
   have := idxL_lt l (i + 1) h
   omega
theorem placeC_lt {l : List Chg} {a : Id} (h : 0 ≤ placeC l a) : ∃ k : Nat, placeC l a = k ∧ k < l.length := by
 have := idxL_lt l 0 h
 exact ⟨(placeC l a).toNat, by omega, by unfold placeC at h ⊢; omega⟩
theorem placeC_neg (l : List Chg) (a : Id) : ¬ 0 ≤ placeC l a ↔ ∀ x ∈ l, x.id ≠ a := by
 unfold placeC
 constructor
 ·
  intro h x hx he
  apply h
  clear h
  suffices ∀ i : Nat, (0 : Int) ≤ idxL (isChg a) l i from this 0
  induction l with
  | nil => cases hx
  | cons y r ih =>
   intro i
   by_cases hy : isChg a y = true
   · simp [idxL, hy]
   ·
    have hy' : isChg a y = false := by simpa using hy
    simp only [idxL, hy', Bool.false_eq_true, if_false]
    rcases List.mem_cons.1 hx with rfl | hx
    · simp [isChg, he] at hy
    · exact ih hx (i + 1)
 ·
  intro h
  suffices ∀ i : Nat, idxL (isChg a) l i = -1 by rw [this 0]; omega
  induction l with
  | nil => intro i; rfl
  | cons y r ih =>
   intro i
   have hy : isChg a y = false := by simp [isChg, h y (by simp)]
   simp only [idxL, hy, Bool.false_eq_true, if_false]
   exact ih (fun x hx => h x (by simp [hx])) (i + 1)
theorem idsL_range (l : List Chg) : idsL l = ((List.range l.length).filter (firstB l)).map (idAt l) := by
 have key : ∀ n, n ≤ l.length → idsL (l.take n) = ((List.range n).filter (firstB l)).map (idAt l) := by
  intro n
  induction n with
  | zero => intro _; rfl
  | succ n ih =>
   intro hn
   have hlt : n < l.length := by omega
   obtain ⟨c, hcc⟩ : ∃ c, l[n] = c := ⟨_, rfl⟩
   have hc : l[n]? = some c := by rw [List.getElem?_eq_getElem hlt, hcc]
   have hl : l = l.take n ++ c :: l.drop (n + 1) := by rw [← hcc, ← List.drop_eq_getElem_cons hlt, List.take_append_drop]
   have ht : l.take (n + 1) = l.take n ++ [c] := by rw [List.take_add_one, hc]; rfl
   rw [ht, List.range_succ, List.filter_append, List.map_append, ← ih (by omega)]
   show idsG (l.take n ++ [c]) [] = _
   rw [idsG_snoc]
   have hm : c.id ∈ idsG (l.take n) [] ↔ ∃ x ∈ l.take n, x.id = c.id := by rw [idsG_mem]; simp
   have hf : firstB l n = !decide (c.id ∈ idsG (l.take n) []) := by
    unfold firstB
    rw [hc]
    simp only
    rw [Bool.eq_iff_iff]
    simp only [decide_eq_true_eq, Bool.not_eq_true', decide_eq_false_iff_not]
    have hlen : (l.take n).length = n := by simp; omega
    constructor
    ·
     intro h1 h2
     obtain ⟨x, hx, he⟩ := hm.1 h2
     have h3 : 0 ≤ placeC (l.take n) c.id := by
      by_cases h4 : 0 ≤ placeC (l.take n) c.id
      · exact h4
      · exact absurd he (((placeC_neg _ _).1 h4) x hx)
     have h5 : placeC l c.id = placeC (l.take n) c.id := by
      conv => lhs; rw [hl]
      exact idxL_left _ _ 0 h3
     obtain ⟨k, h6, h7⟩ := placeC_lt h3
     omega
    ·
     intro h1
     conv => lhs; rw [hl]
     have := idxL_right (p := isChg c.id) (c := c) (by simp [isChg]) (l.take n) (l.drop (n + 1)) 0 (fun x hx => by
      simp only [isChg, decide_eq_false_iff_not]
      intro he
      exact h1 (hm.2 ⟨x, hx, he⟩))
     rw [hlen, Nat.zero_add] at this
     exact this
   by_cases h : c.id ∈ idsG (l.take n) []
   ·
    rw [if_pos h]
    have : firstB l n = false := by rw [hf]; simp [h]
    simp [this, idsL]
   ·
    rw [if_neg h]
    have : firstB l n = true := by rw [hf]; simp [h]
    have hi : idAt l n = c.id := by unfold idAt; rw [hc]
    simp [this, idsL, hi]
 have := key l.length (Nat.le_refl _)
 rwa [List.take_length] at this
def swapB (y : List Chg) (a b : Id) : Bool := decide (0 ≤ placeC y a ∧ 0 ≤ placeC y b ∧ placeC y b < placeC y a)
def swapsL (x y : List Chg) : Nat := cntP (swapB y) (idsL x)
def pairB (x y : List Chg) (i k : Nat) : Bool := firstB x i && firstB x k && swapB y (idAt x i) (idAt x k)
theorem swapsL_pairs (x y : List Chg) : swapsL x y = cntP (pairB x y) (List.range x.length) := by
 unfold swapsL
 rw [idsL_range, cntP_map, cntP_filter]
 rfl
theorem cntP_false {α : Type} {f : α → α → Bool} : ∀ {L : List α}, L.Pairwise (fun a b => f a b = false) → cntP f L = 0
 | [], _ => rfl
 | a :: r, h => by
  have h1 : ∀ b ∈ r, f a b = false := fun b hb => List.rel_of_pairwise_cons h hb
  simp only [cntP, cntP_false (List.Pairwise.of_cons h), Nat.add_zero, List.length_eq_zero_iff, List.filter_eq_nil_iff]
  intro b hb
  simp [h1 b hb]
theorem swaps_self (x : List Chg) : swapsL x x = 0 := by
 rw [swapsL_pairs]
 apply cntP_false
 refine List.Pairwise.imp ?_ (List.pairwise_lt_range (n := x.length))
 intro i k hik
 cases h : pairB x x i k with
 | false => rfl
 | true =>
  exfalso
  simp only [pairB, Bool.and_eq_true] at h
  obtain ⟨⟨h1, h2⟩, h3⟩ := h
  simp only [swapB, decide_eq_true_eq] at h3
  have e : ∀ j, firstB x j = true → placeC x (idAt x j) = j := by
   intro j hj
   unfold firstB at hj
   unfold idAt
   cases hx : x[j]? with
   | none => rw [hx] at hj; cases hj
   | some z => rw [hx] at hj; simpa using hj
  rw [e i h1, e k h2] at h3
  omega
def lostL (x y : List Chg) : List Id := (x.filter fun c => decide (placeC y c.id < 0)).map Chg.id
theorem lost_self (x : List Chg) : lostL x x = [] := by
 unfold lostL
 rw [List.map_eq_nil_iff, List.filter_eq_nil_iff]
 intro c hc h
 simp only [decide_eq_true_eq] at h
 have := (placeC_neg x c.id).1 (by omega) c hc
 exact this rfl
end Go.Proofs.Ytfbooejaabdkoaa.AE
