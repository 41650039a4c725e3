/-
  A plain machine for the code of functions, and its soundness: part AEh. Conditions: none; every lemma names its own.
-/
import Derived.Test.YtebflegkdfhoaaaAE14
namespace Go.Proofs.Ytebflegkdfhoaaa.AE
open Go Go.RowKit
set_option linter.unusedVariables false
/-! ## Boxes handed to a callee -/
def lab (k : Nat) : Nat → List Box → List (Bid × Box)
  | _, [] => []
  | i, x :: l => ((k, i), x) :: lab k (i + 1) l
@[go_sem] theorem lab_nil (k i) : lab k i [] = [] := rfl
@[go_sem] theorem lab_cons (k i x l) : lab k i (x :: l) = ((k, i), x) :: lab k (i + 1) l := rfl
def hB (bx : List Box) : Heap := hOf (lab 1 0 bx)
def hE (hr : HR) : Heap := hOf (lab 1 0 hr.up ++ lab 2 0 hr.nw)
theorem hOf_lab (k : Nat) (k' j : Nat) (r : List (Bid × Box)) : ∀ (bx : List Box) (i : Nat), hOf (lab k i bx ++ r) (k', j) = if k' = k ∧ i ≤ j ∧ j < i + bx.length then bx[j - i]? else hOf r (k', j)
  | [], i => by simp [lab]; intro _ _ h; omega
  | x :: l, i => by
    have ih := hOf_lab k k' j r l (i + 1)
    simp only [lab, List.cons_append, hOf, hput, ih, Prod.mk.injEq, List.length_cons]
    by_cases h1 : k' = k
    · by_cases h2 : j = i
      · subst h2; simp [h1]
      · by_cases h3 : i + 1 ≤ j ∧ j < i + 1 + l.length
        · have : (x :: l)[j - i]? = l[j - (i + 1)]? := by
            have : j - i = (j - (i + 1)) + 1 := by omega
            rw [this]; rfl
          rw [if_neg (by simp [h2]), if_pos ⟨h1, h3⟩, if_pos ⟨h1, by omega, by omega⟩, this]
        · rw [if_neg (by simp [h2]), if_neg (by simp; intro _ h; omega), if_neg (by simp; intro _ h; omega)]
    · simp [h1]
theorem hB_one (bx : List Box) (i : Nat) : hB bx (1, i) = bx[i]? := by
  have := hOf_lab 1 1 i [] bx 0
  simp only [List.append_nil, true_and, Nat.zero_le, Nat.zero_add, Nat.sub_zero] at this
  unfold hB
  rw [this]
  split
  · rfl
  · rw [List.getElem?_eq_none (by omega)]; rfl
theorem hB_ne (bx : List Box) (k i : Nat) (h : k ≠ 1) : hB bx (k, i) = none := by
  have := hOf_lab 1 k i [] bx 0
  simp only [List.append_nil] at this
  unfold hB
  rw [this, if_neg (by simp [h])]; rfl
theorem hE_one (hr : HR) (i : Nat) : hE hr (1, i) = hr.up[i]? := by
  have := hOf_lab 1 1 i (lab 2 0 hr.nw) hr.up 0
  have h2 := hOf_lab 2 1 i [] hr.nw 0
  simp only [List.append_nil] at h2
  unfold hE
  rw [this, h2]
  simp only [true_and, Nat.zero_le, Nat.zero_add, Nat.sub_zero]
  split
  · rfl
  · rw [if_neg (by simp), List.getElem?_eq_none (by omega)]; rfl
theorem hE_two (hr : HR) (i : Nat) : hE hr (2, i) = hr.nw[i]? := by
  have := hOf_lab 1 2 i (lab 2 0 hr.nw) hr.up 0
  have h2 := hOf_lab 2 2 i [] hr.nw 0
  simp only [List.append_nil, true_and, Nat.zero_le, Nat.zero_add, Nat.sub_zero] at h2
  unfold hE
  rw [this, if_neg (by simp), h2]
  split
  · rfl
  · rw [List.getElem?_eq_none (by omega)]; rfl
theorem hE_ne (hr : HR) (k i : Nat) (h1 : k ≠ 1) (h2 : k ≠ 2) : hE hr (k, i) = none := by
  have q1 := hOf_lab 1 k i (lab 2 0 hr.nw) hr.up 0
  have q2 := hOf_lab 2 k i [] hr.nw 0
  simp only [List.append_nil] at q2
  unfold hE
  rw [q1, if_neg (by simp [h1]), q2, if_neg (by simp [h2])]; rfl
/-- What is known of memory. -/
structure Mem (Γ : Ctx) (H : Heap) (μ : Lay) (w : World) : Prop where
  hx : ∀ g, Γ.Mx g → g < Γ.w0.heap.size ∧ ¬ Γ.io g
  hb : ∀ b x, H b = some x → BoxAt w (forb Γ.Mx μ H) μ H b x
  hi : ∀ b b' x x' g c c', H b = some x → H b' = some x' → x.hot = true → x'.live = true → μ b = some (g, c) → μ b' = some (g, c') → b = b'
  hf : ∀ b x g c, H b = some x → μ b = some (g, c) → x.live = true → Γ.w0.heap.size ≤ g ∨ Γ.io g
  hw : BelowX Γ.w0.heap.size Γ.io Γ.w0 w
  hp : ∀ i x, H (1, i) = some x → x.live = true → μ (1, i) = Γ.pin i
theorem Rel.mem {Γ : Ctx} {s : St} {μ : Lay} {a : Act} {w : World} (h : Rel Γ s μ a w) : Mem Γ s.H μ w := ⟨h.hx, h.hb, h.hi, h.hf, h.hw, h.hp⟩
/-- How boxes passed may go on. -/
def goOn : Box → Box → Prop
  | .obj _, .obj _ => True
  | .row e sz L _, .row e' sz' L' _ => e' = e ∧ sz' = sz ∧ L'.length = L.length
  | .row _ _ _ _, .dead => True
  | _, _ => False
@[go_sem] theorem goOn_obj (a b) : goOn (.obj a) (.obj b) = True := rfl
@[go_sem] theorem goOn_row (e sz L z e' sz' L' z') : goOn (.row e sz L z) (.row e' sz' L' z') = (e' = e ∧ sz' = sz ∧ L'.length = L.length) := rfl
@[go_sem] theorem goOn_dead (e sz L z) : goOn (.row e sz L z) .dead = True := rfl
def goOns : List Box → List Box → Prop
  | [], [] => True
  | x :: l, y :: m => goOn x y ∧ goOns l m
  | _, _ => False
@[go_sem] theorem goOns_nil : goOns [] [] = True := rfl
@[go_sem] theorem goOns_cons (x l y m) : goOns (x :: l) (y :: m) = (goOn x y ∧ goOns l m) := rfl
theorem goOns_at : ∀ {l m : List Box}, goOns l m → l.length = m.length ∧ ∀ (i : Nat) (x : Box), l[i]? = some x → ∃ y, m[i]? = some y ∧ goOn x y
  | [], [], _ => ⟨rfl, fun i x h => by simp at h⟩
  | x :: l, y :: m, h => by
    simp only [goOns] at h
    obtain ⟨h1, h2⟩ := goOns_at h.2
    refine ⟨by simp [h1], fun i z hz => ?_⟩
    cases i with
    | zero => simp at hz; subst hz; exact ⟨y, by simp, h.1⟩
    | succ i => simp at hz ⊢; exact h2 i z hz
  | [], _ :: _, h => by simp [goOns] at h
  | _ :: _, [], h => by simp [goOns] at h
/-- What a call that may write is given. -/
structure HArgs (P : Program) (w : World) (Mx : Nat → Prop) (pin : Nat → Option (Nat × Nat)) (args : List AV) (bx : List Box) (vals : Array Value) (μ : Lay) : Prop where
  mem : Mem ⟨P, w, Mx, 0, pin, []⟩ (hB bx) μ w
  sz : vals.size = args.length
  rep : ∀ i v, args[i]? = some v → Rep w (forb Mx μ (hB bx)) μ (hB bx) v (vals.getD i undef)
  hot : ∀ x ∈ bx, x.hot = true
/-- How it ends. -/
def HPost (P : Program) (w : World) (Mx : Nat → Prop) (pin : Nat → Option (Nat × Nat)) (hr : HR) (e : Ending) (w' : World) : Prop :=
  ∃ μ', Mem ⟨P, w, Mx, 0, pin, []⟩ (hE hr) μ' w' ∧
    ((∃ p x, hr.v = .pnc p ∧ e = .panicked [{ v := x, recovered := false }] ∧ Rep w' (forb Mx μ' (hE hr)) μ' (hE hr) p x) ∨ ((∀ p, hr.v ≠ .pnc p) ∧ ∃ v, e = .returned v ∧ Rep w' (forb Mx μ' (hE hr)) μ' (hE hr) hr.v v))
/-- A function that may write to boxes passed does what is told of it. -/
def HSound (P : Program) (f : FuncId) (S : HSpec) : Prop :=
  ∀ (args : List AV) (bx : List Box) (hr : HR), S args bx = some hr → goOns bx hr.up ∧ ∀ (w : World) (Mx : Nat → Prop) (pin : Nat → Option (Nat × Nat)) (vals : Array Value) (μ : Lay), HArgs P w Mx pin args bx vals μ → (∀ i, bx.length ≤ i → pin i = none) → Calls P f vals w (HPost P w Mx pin hr)

/-! ## The boxes that are passed -/
theorem hotO_some {x : Option Box} (h : hotO x = true) : ∃ y, x = some y ∧ y.hot = true := by
  cases x with
  | none => cases h
  | some y => cases y <;> first | exact ⟨_, rfl, rfl⟩ | (exact ⟨_, rfl, h⟩) | cases h
theorem place_some : ∀ (l : List Bid) (b : Bid) (i n : Nat), place b i l = some n → i ≤ n ∧ l[n - i]? = some b
  | [], b, i, n, h => by simp [place] at h
  | c :: l, b, i, n, h => by
    simp only [place] at h
    split at h
    · rename_i e; cases h; exact ⟨Nat.le_refl _, by simp [e]⟩
    · obtain ⟨h1, h2⟩ := place_some l b (i + 1) n h
      exact ⟨by omega, by rw [show n - i = (n - (i + 1)) + 1 by omega]; simpa using h2⟩
theorem place_none : ∀ (l : List Bid) (b : Bid) (i : Nat), place b i l = none → b ∉ l
  | [], b, i, _ => by simp
  | c :: l, b, i, h => by
    simp only [place] at h
    split at h
    · cases h
    · rename_i e; simp [e, place_none l b (i + 1) h]
structure OkB (H : Heap) (bs : List Bid) : Prop where
  nd : bs.Nodup
  hot : ∀ b ∈ bs, ∃ x, H b = some x ∧ x.hot = true
theorem OkB.nil (H : Heap) : OkB H [] := ⟨List.nodup_nil, by simp⟩
theorem OkB.add {H : Heap} {bs : List Bid} (h : OkB H bs) (b : Bid) : OkB H (addB H bs b) := by
  unfold addB
  split
  · exact h
  · rename_i hp
    split
    · rename_i hh
      have : b ∉ bs := place_none bs b 0 (by simpa using hp)
      refine ⟨List.nodup_append.2 ⟨h.nd, by simp, fun a ha c hc e => by simp at hc; subst hc; subst e; exact this ha⟩, fun c hc => ?_⟩
      rcases List.mem_append.1 hc with hc | hc
      · exact h.hot c hc
      · simp at hc; subst hc; exact hotO_some hh
    · exact h
theorem foldl_ok {H : Heap} {f : List Bid → AV → List Bid} (hf : ∀ acc v, OkB H acc → OkB H (f acc v)) : ∀ (l : List AV) (acc : List Bid), OkB H acc → OkB H (l.foldl f acc)
  | [], acc, h => h
  | v :: l, acc, h => foldl_ok hf l _ (hf acc v h)
theorem coll_ok {H : Heap} : ∀ (d : Nat) (acc : List Bid) (v : AV), OkB H acc → OkB H (coll H d acc v)
  | 0, acc, v, h => h
  | d + 1, acc, v, h => by
    have ih := fun acc v => coll_ok (H := H) d acc v
    cases v with
    | own b n => exact h.add b
    | ref b n =>
      simp only [coll]
      split
      · exact h
      · exact foldl_ok ih _ _ (h.add b)
    | agg cs => exact foldl_ok ih cs acc h
    | fn f cs => exact foldl_ok ih cs acc h
    | ifc t x => exact ih acc x h
    | _ => exact h
section
variable {Γ : Ctx} {s : St} {μ : Lay} {a : Act} {w : World}
def pinC (bs : List Bid) (μ : Lay) (i : Nat) : Option (Nat × Nat) := bs[i]?.bind μ
def MxC (Γ : Ctx) (H : Heap) (μ : Lay) (bs : List Bid) (g : Nat) : Prop := forb Γ.Mx μ H g ∧ ¬ ∃ i c, pinC bs μ i = some (g, c)
def layC (bs : List Bid) (μ : Lay) : Lay := fun b => if b.1 = 1 then pinC bs μ b.2 else none
def boxC (H : Heap) (bs : List Bid) : List Box := bs.map fun b => renB (told H bs 5) ((H b).getD .dead)
theorem boxC_at {H : Heap} {bs : List Bid} (hbs : OkB H bs) {i : Nat} {x : Box} (h : (boxC H bs)[i]? = some x) : ∃ b y, bs[i]? = some b ∧ H b = some y ∧ y.hot = true ∧ x = renB (told H bs 5) y := by
  simp only [boxC, List.getElem?_map, Option.map_eq_some_iff] at h
  obtain ⟨b, hb, rfl⟩ := h
  obtain ⟨y, hy, hh⟩ := hbs.hot b (List.mem_of_getElem? hb)
  exact ⟨b, y, hb, hy, hh, by rw [hy]; rfl⟩
theorem boxC_of {H : Heap} {bs : List Bid} {i : Nat} {b : Bid} {y : Box} (hb : bs[i]? = some b) (hy : H b = some y) : hB (boxC H bs) (1, i) = some (renB (told H bs 5) y) := by
  rw [hB_one, boxC, List.getElem?_map, hb]; simp [hy]
theorem layC_of {bs : List Bid} {i : Nat} {b : Bid} (hb : bs[i]? = some b) : layC bs μ (1, i) = μ b := by simp [layC, pinC, hb]
theorem renB_hot (f : AV → AV) (x : Box) : (renB f x).hot = x.hot := by cases x <;> rfl
theorem renB_live (f : AV → AV) (x : Box) : (renB f x).live = x.live := by cases x <;> rfl
theorem hB_box {H : Heap} {bs : List Bid} (hbs : OkB H bs) {c : Bid} {x : Box} (h : hB (boxC H bs) c = some x) : ∃ i b y, c = (1, i) ∧ bs[i]? = some b ∧ H b = some y ∧ y.hot = true ∧ x = renB (told H bs 5) y := by
  obtain ⟨k, i⟩ := c
  by_cases hk : k = 1
  · subst hk
    rw [hB_one] at h
    obtain ⟨b, y, h1, h2, h3, h4⟩ := boxC_at hbs h
    exact ⟨i, b, y, rfl, h1, h2, h3, h4⟩
  · rw [hB_ne _ _ _ hk] at h; cases h
theorem forbC {bs : List Bid} (hbs : OkB s.H bs) {g : Nat} (hg : forb (MxC Γ s.H μ bs) (layC bs μ) (hB (boxC s.H bs)) g) : forb Γ.Mx μ s.H g := by
  rcases hg with hg | ⟨c, x, k, h1, h2, h3⟩
  · exact hg.1
  · obtain ⟨i, b, y, rfl, q1, q2, q3, rfl⟩ := hB_box hbs h1
    rw [layC_of q1] at h3
    exact .inr ⟨b, y, k, q2, q3, h3⟩
theorem told_rep (h : Rel Γ s μ a w) {bs : List Bid} (hbs : OkB s.H bs) : ∀ (d : Nat) (v : AV) (x : Value), Rep w (forb Γ.Mx μ s.H) μ s.H v x →
    Rep w (forb (MxC Γ s.H μ bs) (layC bs μ) (hB (boxC s.H bs))) (layC bs μ) (hB (boxC s.H bs)) (told s.H bs d v) x := by
  have hM : ∀ g, ¬ forb Γ.Mx μ s.H g → ¬ forb (MxC Γ s.H μ bs) (layC bs μ) (hB (boxC s.H bs)) g := fun g hg hc => hg (forbC hbs hc)
  intro d
  induction d with
  | zero => intro v x hx; exact leaf_rep hx hM
  | succ d ih =>
    intro v x hx
    cases v with
    | own b n =>
      simp only [told, renV]
      cases hp : place b 0 bs with
      | some i =>
        obtain ⟨_, hi⟩ := place_some _ _ _ _ hp
        simp only [Nat.sub_zero] at hi
        simp only [optOwn]
        obtain ⟨y, hy, hh⟩ := hbs.hot b (List.mem_of_getElem? hi)
        cases hx with
        | ownd _ _ _ _ hH _ => rw [hH] at hy; cases hy; simp [Box.hot] at hh
        | own _ _ _ e sz L z hH hn =>
          have := @Rep.own w (forb (MxC Γ s.H μ bs) (layC bs μ) (hB (boxC s.H bs))) (layC bs μ) (hB (boxC s.H bs)) (1, i) n e sz L z (boxC_of hi hH) hn
          rw [layC_of hi] at this
          exact this
      | none =>
        simp only [optOwn]
        cases hb : s.H b with
        | none => exact .u _ _
        | some y =>
          cases y with
          | row e sz L z =>
            cases z with
            | false => exact .u _ _
            | true =>
              cases hx with
              | ownd _ _ _ _ hH _ => rw [hb] at hH; cases hH
              | own _ _ _ e' sz' L' z' hH hn =>
                rw [hb] at hH; cases hH
                exact row_rep h hb hn hM fun g c hg hF => frozen_not h hb hg (forbC hbs hF)
          | _ => exact .u _ _
    | ref b n =>
      simp only [told, renV]
      cases hp : place b 0 bs with
      | some i =>
        obtain ⟨_, hi⟩ := place_some _ _ _ _ hp
        simp only [Nat.sub_zero] at hi
        simp only [optRef]
        cases hx with
        | ref _ _ _ cs g c hH hμ => exact .ref _ _ _ _ _ c (boxC_of hi hH) (by rw [layC_of hi]; exact hμ)
      | none => exact .u _ _
    | agg cs =>
      have hx' := hx
      cases hx with
      | agg _ _ vs g hs hv hr => exact map_agg hx' fun c y _ hc => ih c y hc
    | fn f caps =>
      cases hx with
      | fn _ _ _ vs g hs hv hr =>
        refine .fn _ _ _ _ g (by simpa using hs) (fun i hi => hv i (by simpa using hi)) fun i c hc => ?_
        rw [List.getElem?_map, Option.map_eq_some_iff] at hc
        obtain ⟨c', hc', rfl⟩ := hc
        exact ih c' (g i) (hr i c' hc')
    | tup caps =>
      cases hx with
      | tup _ _ vs g hs hv hr =>
        refine .tup _ _ _ g (by simpa using hs) (fun i hi => hv i (by simpa using hi)) fun i c hc => ?_
        rw [List.getElem?_map, Option.map_eq_some_iff] at hc
        obtain ⟨c', hc', rfl⟩ := hc
        exact ih c' (g i) (hr i c' hc')
    | ifc t v =>
      cases hx with
      | ifc _ _ _ y hr => exact .ifc _ _ _ _ (ih v y hr)
    | iref cs p =>
      cases hx with
      | iref _ _ _ g off f hv hr =>
        exact .iref _ _ _ _ _ f (fun j hj => (hv j hj).mono fun g _ hg => ⟨hM g hg, rfl⟩) fun j x hj => (hr j x hj).mono (fun g _ hg => ⟨hM g hg, rfl⟩) (HLe.noH _) (fun b hb => absurd rfl hb)
    | _ => exact leaf_rep hx hM
theorem lt_of_pin (h : Rel Γ s μ a w) {bs : List Bid} (hbs : OkB s.H bs) {i g c : Nat} (hp : pinC bs μ i = some (g, c)) : ∃ b y, bs[i]? = some b ∧ s.H b = some y ∧ y.hot = true ∧ μ b = some (g, c) ∧ g < w.heap.size ∧ forb Γ.Mx μ s.H g := by
  simp only [pinC, Option.bind_eq_some_iff] at hp
  obtain ⟨b, hb, hμ⟩ := hp
  obtain ⟨y, hy, hh⟩ := hbs.hot b (List.mem_of_getElem? hb)
  exact ⟨b, y, hb, hy, hh, hμ, h.lt hy (hot_live hh) hμ, .inr ⟨b, y, c, hy, hh, hμ⟩⟩
/-- The callee begins with what it is told. -/
theorem start_mem (h : Rel Γ s μ a w) {bs : List Bid} (hbs : OkB s.H bs) : Mem ⟨Γ.P, w, MxC Γ s.H μ bs, 0, pinC bs μ, []⟩ (hB (boxC s.H bs)) (layC bs μ) w := by
  have hM : ∀ g, ¬ forb Γ.Mx μ s.H g → ¬ forb (MxC Γ s.H μ bs) (layC bs μ) (hB (boxC s.H bs)) g := fun g hg hc => hg (forbC hbs hc)
  refine ⟨fun g hg => ⟨?_, hg.2⟩, ?_, ?_, ?_, BelowX.refl _ _ _, ?_⟩
  · rcases hg.1 with hx | ⟨b, y, c, q1, q2, q3⟩
    · exact Nat.lt_of_lt_of_le (h.hx g hx).1 h.hw.size
    · exact h.lt q1 (hot_live q2) q3
  · intro c x hc
    obtain ⟨i, b, y, rfl, q1, q2, q3, rfl⟩ := hB_box hbs hc
    rcases h.hb b y q2 with rfl | ⟨g, c, cur, e, r1, r2, r3⟩ | ⟨r1, e, sz, z, rfl, r2⟩
    · cases q3
    · refine .inr (.inl ⟨g, c, cur, e, by rw [layC_of q1]; exact r1, r2, ?_⟩)
      cases y with
      | obj cs =>
        refine ⟨by simpa using r3.1, fun j v hv => ?_⟩
        rw [List.getElem?_map, Option.map_eq_some_iff] at hv
        obtain ⟨v', hv', rfl⟩ := hv
        obtain ⟨u, u1, u2, u3⟩ := r3.2 j v' hv'
        exact ⟨u, u1, u2, told_rep h hbs 5 v' u u3⟩
      | row e' sz L z =>
        obtain ⟨p1, p2, p3, p4, p5, p6, p7⟩ := r3
        refine ⟨p1, p2, p3, p4, p5, p6, fun i j xs x' hi hj => ?_⟩
        obtain ⟨v, v1, v2, v3⟩ := p7 i j xs x' hi hj
        exact ⟨v, v1, v2, v3.mono (fun g _ hg => ⟨hM g hg, rfl⟩) (HLe.refl _) (fun b hb => absurd rfl hb)⟩
      | dead => cases q3
    · exact .inr (.inr ⟨by rw [layC_of q1]; exact r1, e, sz, z, rfl, r2⟩)
  · intro b1 b2 x1 x2 g c1 c2 q1 q2 q3 q4 q5 q6
    obtain ⟨i1, b1', y1, rfl, r1, r2, r3, rfl⟩ := hB_box hbs q1
    obtain ⟨i2, b2', y2, rfl, t1, t2, t3, rfl⟩ := hB_box hbs q2
    rw [layC_of r1] at q5
    rw [layC_of t1] at q6
    have := h.hi b1' b2' y1 y2 g c1 c2 r2 t2 r3 (hot_live t3) q5 q6
    subst this
    have := (List.getElem?_inj (List.getElem?_eq_some_iff.1 r1).1 hbs.nd).1 (r1.trans t1.symm)
    rw [this]
  · intro c x g k q1 q2 _
    obtain ⟨i, b, y, rfl, r1, r2, r3, rfl⟩ := hB_box hbs q1
    exact .inr ⟨i, k, by simpa [layC] using q2⟩
  · intro i x _ _
    simp [layC]
end
end Go.Proofs.Ytebflegkdfhoaaa.AE
