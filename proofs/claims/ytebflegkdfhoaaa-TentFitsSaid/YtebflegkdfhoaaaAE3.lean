/-
  A plain machine for the code of functions, and its soundness: part AE3. Conditions: none; every lemma names its own.
-/
import Derived.Test.YtebflegkdfhoaaaAE2
namespace Go.Proofs.Ytebflegkdfhoaaa.AE
open Go Go.RowKit
set_option linter.unusedVariables false

theorem BoxC.mono {w w' : World} {M M' : Nat → Prop} {μ μ' : Lay} {H H' : Heap} {cur : Array Value} {e : TypeId} {c : Nat} {x : Box} (h : BoxC w M μ H cur e c x)
    (hm : ∀ g, g < w.heap.size → ¬ M g → ¬ M' g ∧ w'.heap[g]? = w.heap[g]?) (h1 : HLe H H') (h2 : ∀ b, H b ≠ none → μ' b = μ b) : BoxC w' M' μ' H' cur e c x := by
  cases x with
  | obj cs =>
    refine ⟨h.1, fun i x hx => ?_⟩
    obtain ⟨v, q1, q2, q3⟩ := h.2 i x hx
    exact ⟨v, q1, q2, q3.mono hm h1 h2⟩
  | row e' sz L z =>
    obtain ⟨q1, q2, q3, q4, q5, q6, q7⟩ := h
    refine ⟨q1, q2, q3, q4, q5, q6, fun i j xs x hi hj => ?_⟩
    obtain ⟨v, r1, r2, r3⟩ := q7 i j xs x hi hj
    exact ⟨v, r1, r2, r3.mono hm (HLe.refl _) (fun b hb => absurd rfl hb)⟩
  | dead => exact h
/-- A box stays, where its block does. -/
theorem BoxAt.mono {w w' : World} {M M' : Nat → Prop} {μ μ' : Lay} {H H' : Heap} {b : Bid} {x : Box} (h : BoxAt w M μ H b x) (hx : H b = some x)
    (hm : ∀ g, g < w.heap.size → ¬ M g → ¬ M' g ∧ w'.heap[g]? = w.heap[g]?) (h1 : HLe H H') (h2 : ∀ b, H b ≠ none → μ' b = μ b)
    (hs : ∀ g c, x.live = true → μ b = some (g, c) → w'.heap[g]? = w.heap[g]?) : BoxAt w' M' μ' H' b x := by
  have hμ := h2 b (by rw [hx]; simp)
  rcases h with rfl | ⟨g, c, cur, e, q1, q2, q3⟩ | ⟨q1, q2⟩
  · exact .inl rfl
  · refine .inr (.inl ⟨g, c, cur, e, by rw [hμ]; exact q1, ?_, q3.mono hm h1 h2⟩)
    rw [hs g c (by cases x <;> first | rfl | exact q3.elim) q1]
    exact q2
  · exact .inr (.inr ⟨by rw [hμ]; exact q1, q2⟩)
/-- The block of a mark is no block that may change. -/
theorem Rel.mark_free {Γ : Ctx} {s : St} {μ : Lay} {a : Act} {w : World} (h : Rel Γ s μ a w) {D : Nat} {o : Obj} (h1 : Γ.w0.heap.size ≤ D) (h2 : w.heap[D]? = some o) (ho : noCells o = true := by rfl) : ¬ forb Γ.Mx μ s.H D := by
  rintro (hx | ⟨b, x, c, q1, q2, q3⟩)
  · have := (h.hx D hx).1
    omega
  · rcases h.hb b x q1 with rfl | ⟨g, c', cur, e, r1, r2, _⟩ | ⟨r1, _⟩
    · cases q2
    · rw [q3] at r1
      cases r1
      rw [h2] at r2
      cases r2
      cases ho
    · rw [q3] at r1; cases r1
/-- The state goes on: other boxes, another world. -/
theorem Rel.next {Γ : Ctx} {s : St} {μ : Lay} {a : Act} {w : World} (h : Rel Γ s μ a w) {H' : Heap} {μ' : Lay} {w' : World} (hle : HLe s.H H') (hμ : ∀ b, s.H b ≠ none → μ' b = μ b)
    (hbel : BelowX Γ.w0.heap.size Γ.io w w') (hm : ∀ g, g < w.heap.size → ¬ forb Γ.Mx μ s.H g → ¬ forb Γ.Mx μ' H' g ∧ w'.heap[g]? = w.heap[g]?)
    (hb : ∀ b x, H' b = some x → BoxAt w' (forb Γ.Mx μ' H') μ' H' b x)
    (hi : ∀ b b' x x' g c c', H' b = some x → H' b' = some x' → x.hot = true → x'.live = true → μ' b = some (g, c) → μ' b' = some (g, c') → b = b')
    (hf : ∀ b x g c, H' b = some x → μ' b = some (g, c) → x.live = true → Γ.w0.heap.size ≤ g ∨ Γ.io g)
    (hp : ∀ i x, H' (1, i) = some x → x.live = true → μ' (1, i) = Γ.pin i) : Rel Γ ⟨s.t, H'⟩ μ' a w' :=
  ⟨h.hd.mono fun D h1 h2 => (hm D (Array.getElem?_eq_some_iff.1 h2).1 (h.mark_free h1 h2)).2, h.hn, h.hx, fun i => (h.ht i).mono hm hle hμ, hb, hi, hf, h.hw.trans hbel, hp⟩
theorem hot_live {x : Box} (h : x.hot = true) : x.live = true := by cases x <;> simp_all [Box.hot, Box.live]
/-- A live box's block lies in the world. -/
theorem Rel.lt {Γ : Ctx} {s : St} {μ : Lay} {a : Act} {w : World} (h : Rel Γ s μ a w) {b : Bid} {x : Box} {g c : Nat} (hx : s.H b = some x) (hl : x.live = true) (hg : μ b = some (g, c)) : g < w.heap.size := by
  rcases h.hb b x hx with rfl | ⟨g', c', cur, e, q1, q2, _⟩ | ⟨q1, _⟩
  · simp [Box.live] at hl
  · rw [hg] at q1
    obtain ⟨rfl, rfl⟩ : g = g' ∧ c = c' := by simpa using q1
    exact (Array.getElem?_eq_some_iff.1 q2).1
  · rw [hg] at q1; cases q1
def lput (μ : Lay) (b : Bid) (p : Option (Nat × Nat)) : Lay := fun i => if i = b then p else μ i
theorem lput_ne {μ : Lay} {b : Bid} {p} {H : Heap} (hb : H b = none) : ∀ i, H i ≠ none → lput μ b p i = μ i := by
  intro i hi
  unfold lput
  rw [if_neg]
  rintro rfl
  exact hi hb
theorem HLe.hput {H : Heap} {b : Bid} {x : Box} (hb : H b = none) : HLe H (hput H b x) := by
  intro i
  have hr := HLe.refl H i
  by_cases e : i = b
  · subst e; rw [hb]; trivial
  · have : AE.hput H b x i = H i := by simp [AE.hput, e]
    rw [this]; exact hr
/-- A new box, in a block that was not there. -/
theorem Rel.newbox {Γ : Ctx} {s : St} {μ : Lay} {a : Act} {w : World} (h : Rel Γ s μ a w) {b : Bid} (hn : s.H b = none) (h0 : b.1 = 0) {w' : World} (hbel : Below w.heap.size w w') {x : Box} {g c : Nat} {cur : Array Value} {e : TypeId}
    (hg : w.heap.size ≤ g) (hc : w'.heap[g]? = some (.cells cur e (0, 0))) (hx : ∀ M μ' H', (∀ k, k < w'.heap.size → k ≠ g → ¬ forb Γ.Mx μ s.H k → ¬ M k) → HLe s.H H' → (∀ b, s.H b ≠ none → μ' b = μ b) → BoxC w' M μ' H' cur e c x) :
    Rel Γ ⟨s.t, hput s.H b x⟩ (lput μ b (some (g, c))) a w' := by
  have hsz : Γ.w0.heap.size ≤ w.heap.size := h.hw.size
  have hne := lput_ne (μ := μ) (p := some (g, c)) hn
  have hforb : ∀ k, forb Γ.Mx (lput μ b (some (g, c))) (hput s.H b x) k → forb Γ.Mx μ s.H k ∨ k = g := by
    rintro k (hk | ⟨b', x', c', q1, q2, q3⟩)
    · exact .inl (.inl hk)
    · by_cases e : b' = b
      · subst e; simp only [lput, if_true, Option.some.injEq, Prod.mk.injEq] at q3; exact .inr q3.1.symm
      · simp only [hput, e, if_false] at q1
        simp only [lput, e, if_false] at q3
        exact .inl (.inr ⟨b', x', c', q1, q2, q3⟩)
  have hm : ∀ k, k < w.heap.size → ¬ forb Γ.Mx μ s.H k → ¬ forb Γ.Mx (lput μ b (some (g, c))) (hput s.H b x) k ∧ w'.heap[k]? = w.heap[k]? := fun k hk hfk =>
    ⟨fun hh => by rcases hforb k hh with h' | h'; exact hfk h'; omega, hbel.block k hk⟩
  refine h.next (HLe.hput hn) hne (.of (hbel.mono hsz)) hm ?_ ?_ ?_ ?_
  · intro b' x' hb'
    by_cases e' : b' = b
    · subst e'
      simp only [hput, if_true, Option.some.injEq] at hb'
      subst hb'
      refine .inr (.inl ⟨g, c, cur, e, by simp [lput], hc, hx _ _ _ ?_ (HLe.hput hn) hne⟩)
      intro k _ hkg hfk hh
      rcases hforb k hh with h' | h'
      · exact hfk h'
      · exact hkg h'
    · simp only [hput, e', if_false] at hb'
      exact (h.hb b' x' hb').mono hb' hm (HLe.hput hn) hne fun g' c' hl hg' => hbel.block g' (h.lt hb' hl hg')
  · intro b1 b2 x1 x2 g' c1 c2 q1 q2 q3 q4 q5 q6
    by_cases e1 : b1 = b <;> by_cases e2 : b2 = b
    · rw [e1, e2]
    · subst e1
      simp only [hput, e2, if_false] at q2
      simp only [lput, if_true, e2, if_false, Option.some.injEq, Prod.mk.injEq] at q5 q6
      have := h.lt q2 q4 q6
      omega
    · subst e2
      simp only [hput, e1, if_false] at q1
      simp only [lput, if_true, e1, if_false, Option.some.injEq, Prod.mk.injEq] at q5 q6
      have := h.lt q1 (hot_live q3) q5
      omega
    · simp only [hput, e1, e2, if_false] at q1 q2
      simp only [lput, e1, e2, if_false] at q5 q6
      exact h.hi b1 b2 x1 x2 g' c1 c2 q1 q2 q3 q4 q5 q6
  · intro b' x' g' c' q1 q2 q3
    by_cases e' : b' = b
    · subst e'
      simp only [lput, if_true, Option.some.injEq, Prod.mk.injEq] at q2
      omega
    · simp only [hput, e', if_false] at q1
      simp only [lput, e', if_false] at q2
      exact h.hf b' x' g' c' q1 q2 q3
  · intro i x' q1 q2
    have e' : (1, i) ≠ b := by rintro rfl; cases h0
    simp only [hput, e', if_false] at q1
    simp only [lput, e', if_false]
    exact h.hp i x' q1 q2
/-- Memory is made, or a draw is taken; nothing that was there changes. -/
theorem Rel.grow {Γ : Ctx} {s : St} {μ : Lay} {a : Act} {w w' : World} (h : Rel Γ s μ a w) (hbel : Below w.heap.size w w') : Rel Γ s μ a w' := by
  have hm : ∀ k, k < w.heap.size → ¬ forb Γ.Mx μ s.H k → ¬ forb Γ.Mx μ s.H k ∧ w'.heap[k]? = w.heap[k]? := fun k hk hfk => ⟨hfk, hbel.block k hk⟩
  exact h.next (HLe.refl _) (fun _ _ => rfl) (.of (hbel.mono h.hw.size)) hm (fun b x hx => (h.hb b x hx).mono hx hm (HLe.refl _) (fun _ _ => rfl) fun g c hl hg => hbel.block g (h.lt hx hl hg)) h.hi h.hf h.hp
/-- A box is written. -/
theorem Rel.write {Γ : Ctx} {s : St} {μ : Lay} {a : Act} {w : World} (h : Rel Γ s μ a w) {b : Bid} {x x' : Box} {g c : Nat} (hx : s.H b = some x) (hh : x.hot = true) (hh' : x'.hot = true) (hg : μ b = some (g, c))
    (hle : HLe s.H (hput s.H b x')) {w' : World} {cur : Array Value} {e : TypeId} (hcur : w'.heap[g]? = some (.cells cur e (0, 0))) (hos : w'.os = w.os) (htape : w'.tape = w.tape) (hout : w'.output = w.output) (hsize : w'.heap.size = w.heap.size)
    (hother : ∀ k, k ≠ g → w'.heap[k]? = w.heap[k]?) (hC : BoxC w (forb Γ.Mx μ s.H) μ s.H cur e c x') : Rel Γ ⟨s.t, hput s.H b x'⟩ μ a w' := by
  have hfg : forb Γ.Mx μ s.H g := .inr ⟨b, x, c, hx, hh, hg⟩
  have hforb : ∀ k, forb Γ.Mx μ (hput s.H b x') k → forb Γ.Mx μ s.H k := by
    rintro k (hk | ⟨b', y, c', q1, q2, q3⟩)
    · exact .inl hk
    · by_cases e : b' = b
      · subst e; exact .inr ⟨b', x, c', hx, hh, q3⟩
      · simp only [hput, e, if_false] at q1; exact .inr ⟨b', y, c', q1, q2, q3⟩
  have hm : ∀ k, k < w.heap.size → ¬ forb Γ.Mx μ s.H k → ¬ forb Γ.Mx μ (hput s.H b x') k ∧ w'.heap[k]? = w.heap[k]? := fun k hk hfk =>
    ⟨fun hh => hfk (hforb k hh), hother k fun e => hfk (e ▸ hfg)⟩
  have hge := h.hf b x g c hx hg (hot_live hh)
  refine h.next hle (fun _ _ => rfl) ⟨hos, htape, hout, Nat.le_of_eq hsize.symm, fun k hk hn => hother k fun e => by subst e; exact hge.elim (fun h => by omega) hn⟩ hm ?_ ?_ ?_ ?_
  · intro b' y hy
    by_cases e' : b' = b
    · subst e'
      simp only [hput, if_true, Option.some.injEq] at hy
      subst hy
      exact .inr (.inl ⟨g, c, cur, e, hg, hcur, hC.mono hm hle (fun _ _ => rfl)⟩)
    · simp only [hput, e', if_false] at hy
      exact (h.hb b' y hy).mono hy hm hle (fun _ _ => rfl) fun g' c' hl hg' => hother g' fun e => e' (h.hi b b' x y g c c' hx hy hh hl hg (e ▸ hg')).symm
  · intro b1 b2 x1 x2 g' c1 c2 q1 q2 q3 q4 q5 q6
    have t1 : ∃ y, s.H b1 = some y ∧ y.hot = true := by
      by_cases e1 : b1 = b
      · subst e1; exact ⟨x, hx, hh⟩
      · simp only [hput, e1, if_false] at q1; exact ⟨x1, q1, q3⟩
    have t2 : ∃ y, s.H b2 = some y ∧ y.live = true := by
      by_cases e2 : b2 = b
      · subst e2; exact ⟨x, hx, hot_live hh⟩
      · simp only [hput, e2, if_false] at q2; exact ⟨x2, q2, q4⟩
    obtain ⟨y1, r1, r2⟩ := t1
    obtain ⟨y2, r3, r4⟩ := t2
    exact h.hi b1 b2 y1 y2 g' c1 c2 r1 r3 r2 r4 q5 q6
  · intro b' y g' c' q1 q2 q3
    by_cases e' : b' = b
    · subst e'; exact h.hf b' x g' c' hx q2 (hot_live hh)
    · simp only [hput, e', if_false] at q1; exact h.hf b' y g' c' q1 q2 q3
  · intro i y q1 q2
    by_cases e' : (1, i) = b
    · subst e'; exact h.hp i x hx (hot_live hh)
    · simp only [hput, e', if_false] at q1; exact h.hp i y q1 q2
/-- A row stays as it is from now on. -/
theorem Rel.freeze {Γ : Ctx} {s : St} {μ : Lay} {a : Act} {w : World} (h : Rel Γ s μ a w) {b : Bid} {e : TypeId} {sz : Nat} {L : List (List AV)} {z : Bool} (hx : s.H b = some (.row e sz L z)) : Rel Γ ⟨s.t, hput s.H b (.row e sz L true)⟩ μ a w := by
  have hle : HLe s.H (hput s.H b (.row e sz L true)) := by
    intro i
    by_cases e' : i = b
    · subst e'; rw [hx]; exact .inl ⟨L, true, by simp [hput], rfl⟩
    · have : hput s.H b (.row e sz L true) i = s.H i := by simp [hput, e']
      rw [this]; exact HLe.refl s.H i
  have hforb : ∀ k, forb Γ.Mx μ (hput s.H b (.row e sz L true)) k → forb Γ.Mx μ s.H k := by
    rintro k (hk | ⟨b', y, c', q1, q2, q3⟩)
    · exact .inl hk
    · by_cases e : b' = b
      · subst e; simp only [hput, if_true, Option.some.injEq] at q1; subst q1; simp [Box.hot] at q2
      · simp only [hput, e, if_false] at q1; exact .inr ⟨b', y, c', q1, q2, q3⟩
  have hm : ∀ k, k < w.heap.size → ¬ forb Γ.Mx μ s.H k → ¬ forb Γ.Mx μ (hput s.H b (.row e sz L true)) k ∧ w.heap[k]? = w.heap[k]? := fun k hk hfk => ⟨fun hh => hfk (hforb k hh), rfl⟩
  refine h.next hle (fun _ _ => rfl) (BelowX.refl _ _ _) hm ?_ ?_ ?_ ?_
  · intro b' y hy
    by_cases e' : b' = b
    · subst e'
      simp only [hput, if_true, Option.some.injEq] at hy
      subst hy
      rcases h.hb b' _ hx with q | ⟨g, c, cur, e, q1, q2, q3⟩ | ⟨q1, e1, sz1, z1, q2, q3⟩
      · cases q
      · exact .inr (.inl ⟨g, c, cur, e, q1, q2, q3.mono hm hle (fun _ _ => rfl)⟩)
      · cases q2; exact .inr (.inr ⟨q1, _, _, true, rfl, q3⟩)
    · simp only [hput, e', if_false] at hy
      exact (h.hb b' y hy).mono hy hm hle (fun _ _ => rfl) fun _ _ _ _ => rfl
  · intro b1 b2 x1 x2 g' c1 c2 q1 q2 q3 q4 q5 q6
    by_cases e1 : b1 = b
    · subst e1; simp only [hput, if_true, Option.some.injEq] at q1; subst q1; simp [Box.hot] at q3
    · simp only [hput, e1, if_false] at q1
      have t2 : ∃ y, s.H b2 = some y ∧ y.live = true := by
        by_cases e2 : b2 = b
        · subst e2; exact ⟨_, hx, rfl⟩
        · simp only [hput, e2, if_false] at q2; exact ⟨x2, q2, q4⟩
      obtain ⟨y2, r3, r4⟩ := t2
      exact h.hi b1 b2 x1 y2 g' c1 c2 q1 r3 q3 r4 q5 q6
  · intro b' y g' c' q1 q2 q3
    by_cases e' : b' = b
    · subst e'; exact h.hf b' _ g' c' hx q2 rfl
    · simp only [hput, e', if_false] at q1; exact h.hf b' y g' c' q1 q2 q3
  · intro i y q1 q2
    by_cases e' : (1, i) = b
    · subst e'; exact h.hp i _ hx rfl
    · simp only [hput, e', if_false] at q1; exact h.hp i y q1 q2
end Go.Proofs.Ytebflegkdfhoaaa.AE
