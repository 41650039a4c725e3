/-
  A plain machine for the code of functions, and its soundness: part AEh2. Conditions: none; every lemma names its own.
-/
import Derived.Test.YtebflegkdfhoaaaAEh
namespace Go.Proofs.Ytebflegkdfhoaaa.AE
open Go Go.RowKit
set_option linter.unusedVariables false
section
variable {Γ : Ctx} {s : St} {μ : Lay} {a : Act} {w : World}
/-- The caller's boxes behind a call. -/
structure After (H : Heap) (bs : List Bid) (b0 : Bid) (up nw : List Box) (f : AV → AV) (H' : Heap) : Prop where
  old : ∀ (i : Nat) (b : Bid) (x : Box), bs[i]? = some b → up[i]? = some x → H' b = some (renB f x)
  new : ∀ (j : Nat) (x : Box), nw[j]? = some x → H' (b0.1, b0.2 + j) = some (renB f x) ∧ H (b0.1, b0.2 + j) = none
  els : ∀ (b : Bid), b ∉ bs → (∀ (j : Nat), j < nw.length → b ≠ (b0.1, b0.2 + j)) → H' b = H b
def layA (H : Heap) (b0 : Bid) (μ μ' : Lay) : Lay := fun b => match H b with
  | some _ => μ b
  | none => μ' (2, b.2 - b0.2)
theorem layA_old {H : Heap} {b0 b : Bid} {μ μ' : Lay} (h : H b ≠ none) : layA H b0 μ μ' b = μ b := by
  unfold layA
  cases hb : H b with
  | none => exact absurd hb h
  | some x => rfl
theorem end_rel (h : Rel Γ s μ a w) {bs : List Bid} (hbs : OkB s.H bs) {hr : HR} (hgo : goOns (boxC s.H bs) hr.up) {b0 : Bid} (h0 : b0.1 = 0) {w' : World} {μ' : Lay}
    (hm : Mem ⟨Γ.P, w, MxC Γ s.H μ bs, 0, pinC bs μ, []⟩ (hE hr) μ' w') {H' : Heap} (hA : After s.H bs b0 hr.up hr.nw (back bs b0 5) H') :
    ∃ μ'', Rel Γ ⟨s.t, H'⟩ μ'' a w' ∧ ∀ (d : Nat) (v : AV) (x : Value), Rep w' (forb (MxC Γ s.H μ bs) μ' (hE hr)) μ' (hE hr) v x → Rep w' (forb Γ.Mx μ'' H') μ'' H' (back bs b0 d v) x := by
  obtain ⟨glen, gat⟩ := goOns_at hgo
  have hlen : hr.up.length = bs.length := by rw [← glen]; simp [boxC]
  refine ⟨layA s.H b0 μ μ', ?_⟩
  obtain ⟨μ'', hμ''⟩ : ∃ x, x = layA s.H b0 μ μ' := ⟨_, rfl⟩
  rw [← hμ'']
  have hold : ∀ b, s.H b ≠ none → μ'' b = μ b := fun b hb => by rw [hμ'']; exact layA_old hb
  have hnewl : ∀ j, s.H (b0.1, b0.2 + j) = none → μ'' (b0.1, b0.2 + j) = μ' (2, j) := fun j hj => by rw [hμ'']; simp [layA, hj]
  have hbsome : ∀ (i : Nat) (b : Bid), bs[i]? = some b → ∃ y, s.H b = some y ∧ y.hot = true := fun i b hb => hbs.hot b (List.mem_of_getElem? hb)
  -- the callee's boxes, under the caller's numbers
  have corr : ∀ c x, hE hr c = some x → ∃ b, backB bs b0 c = some b ∧ H' b = some (renB (back bs b0 5) x) ∧ (x.live = true → μ'' b = μ' c) := by
    rintro ⟨k, i⟩ x hc
    by_cases h1 : k = 1
    · subst h1
      rw [hE_one] at hc
      have hi : i < bs.length := by rw [← hlen]; exact (List.getElem?_eq_some_iff.1 hc).1
      have hb := List.getElem?_eq_getElem hi
      refine ⟨bs[i], by simp [backB, hb], hA.old i _ x hb hc, fun hl => ?_⟩
      obtain ⟨y, hy, _⟩ := hbsome i _ hb
      rw [hold _ (by rw [hy]; simp), hm.hp i x (by rw [hE_one]; exact hc) hl]
      simp [pinC, hb]
    · by_cases h2 : k = 2
      · subst h2
        rw [hE_two] at hc
        obtain ⟨n1, n2⟩ := hA.new i x hc
        exact ⟨_, rfl, n1, fun _ => hnewl i n2⟩
      · rw [hE_ne _ _ _ h1 h2] at hc; cases hc
  -- each of the caller's boxes is one of them, or as it was
  have cases' : ∀ b x, H' b = some x → (∃ c y, hE hr c = some y ∧ backB bs b0 c = some b ∧ x = renB (back bs b0 5) y ∧ (y.live = true → μ'' b = μ' c)) ∨ (b ∉ bs ∧ s.H b = some x) := by
    intro b x hx
    by_cases h1 : b ∈ bs
    · obtain ⟨i, hi, rfl⟩ := List.mem_iff_getElem.1 h1
      have hu : hr.up[i]? = some (hr.up[i]'(by omega)) := List.getElem?_eq_getElem _
      have hb := List.getElem?_eq_getElem hi
      have hc : hE hr (1, i) = some (hr.up[i]'(by omega)) := by rw [hE_one]; exact hu
      obtain ⟨b', q1, q2, q3⟩ := corr _ _ hc
      have : b' = bs[i] := by simp [backB, hb] at q1; exact q1.symm
      subst this
      rw [hx] at q2
      exact .inl ⟨(1, i), _, hc, q1, by simpa using q2, q3⟩
    · by_cases h2 : ∃ j, j < hr.nw.length ∧ b = (b0.1, b0.2 + j)
      · obtain ⟨j, hj, rfl⟩ := h2
        have hc : hE hr (2, j) = some hr.nw[j] := by rw [hE_two]; exact List.getElem?_eq_getElem hj
        obtain ⟨b', q1, q2, q3⟩ := corr _ _ hc
        have : b' = (b0.1, b0.2 + j) := by simp [backB] at q1; exact q1.symm
        subst this
        rw [hx] at q2
        exact .inl ⟨(2, j), _, hc, q1, by simpa using q2, q3⟩
      · exact .inr ⟨h1, by rw [← hA.els b h1 fun j hj e => h2 ⟨j, hj, e⟩]; exact hx⟩
  have pinned : ∀ {g}, (⟨Γ.P, w, MxC Γ s.H μ bs, 0, pinC bs μ, []⟩ : Ctx).io g → ∃ b y c, b ∈ bs ∧ s.H b = some y ∧ y.hot = true ∧ μ b = some (g, c) ∧ g < w.heap.size ∧ forb Γ.Mx μ s.H g := by
    rintro g ⟨i, c, hp⟩
    obtain ⟨b, y, q1, q2, q3, q4, q5, q6⟩ := lt_of_pin h hbs hp
    exact ⟨b, y, c, List.mem_of_getElem? q1, q2, q3, q4, q5, q6⟩
  -- what may change
  have hF2 : ∀ g, ¬ forb (MxC Γ s.H μ bs) μ' (hE hr) g → ¬ forb Γ.Mx μ'' H' g := by
    rintro g hg (hx | ⟨b, x, c, q1, q2, q3⟩)
    · refine hg (.inl ⟨.inl hx, fun hp => ?_⟩)
      obtain ⟨b, y, c, r1, r2, r3, r4, _⟩ := pinned hp
      obtain ⟨e1, e2⟩ := h.hx g hx
      exact (h.hf b y g c r2 r4 (hot_live r3)).elim (fun e => by omega) e2
    · rcases cases' b x q1 with ⟨k, y, r1, r2, rfl, r4⟩ | ⟨r1, r2⟩
      · rw [renB_hot] at q2
        rw [r4 (hot_live q2)] at q3
        exact hg (.inr ⟨k, y, c, r1, q2, q3⟩)
      · rw [hold b (by rw [r2]; simp)] at q3
        refine hg (.inl ⟨.inr ⟨b, x, c, r2, q2, q3⟩, fun hp => ?_⟩)
        obtain ⟨b', y, c', t1, t2, t3, t4, _⟩ := pinned hp
        have := h.hi b b' x y g c c' r2 t2 q2 (hot_live t3) q3 t4
        subst this
        exact r1 t1
  have hF3 : ∀ g, g < w.heap.size → ¬ forb Γ.Mx μ s.H g → ¬ forb Γ.Mx μ'' H' g ∧ w'.heap[g]? = w.heap[g]? := by
    intro g hlt hg
    refine ⟨?_, hm.hw.block g hlt fun hp => ?_⟩
    · rintro (hx | ⟨b, x, c, q1, q2, q3⟩)
      · exact hg (.inl hx)
      · rcases cases' b x q1 with ⟨k, y, r1, r2, rfl, r4⟩ | ⟨r1, r2⟩
        · rw [renB_hot] at q2
          rw [r4 (hot_live q2)] at q3
          rcases hm.hf k y g c r1 q3 (hot_live q2) with h1 | h1
          · simp only at h1; omega
          · obtain ⟨_, _, _, _, _, _, _, _, h2⟩ := pinned h1
            exact hg h2
        · rw [hold b (by rw [r2]; simp)] at q3
          exact hg (.inr ⟨b, x, c, r2, q2, q3⟩)
    · obtain ⟨_, _, _, _, _, _, _, _, h2⟩ := pinned hp
      exact hg h2
  -- values
  have hback : ∀ (d : Nat) (v : AV) (x : Value), Rep w' (forb (MxC Γ s.H μ bs) μ' (hE hr)) μ' (hE hr) v x → Rep w' (forb Γ.Mx μ'' H') μ'' H' (back bs b0 d v) x := by
    intro d
    induction d with
    | zero => intro v x hx; exact leaf_rep hx hF2
    | succ d ih =>
      intro v x hx
      cases v with
      | own c n =>
        simp only [back, renV]
        cases hx with
        | own _ _ _ e sz L z hH hn =>
          obtain ⟨b, q1, q2, q3⟩ := corr _ _ hH
          rw [q1, ← q3 rfl]
          exact .own _ _ _ e sz L z q2 hn
        | ownd _ _ _ _ hH h1 =>
          obtain ⟨b, q1, q2, q3⟩ := corr _ _ hH
          rw [q1]
          exact .ownd _ _ _ _ q2 h1
      | ref c n =>
        simp only [back, renV]
        cases hx with
        | ref _ _ _ cs g k hH hμ =>
          obtain ⟨b, q1, q2, q3⟩ := corr _ _ hH
          rw [q1]
          exact .ref _ _ _ _ _ k q2 (by rw [q3 rfl]; exact hμ)
      | agg cs =>
        have hx' := hx
        cases hx with
        | agg _ _ vs g hs hv hr => exact map_agg hx' fun c y _ hc => ih c y hc
      | fn f caps =>
        cases hx with
        | fn _ _ _ vs g hs hv hr =>
          refine .fn _ _ _ _ g (by simpa using hs) (fun i hi => hv i (by simpa using hi)) fun i c hc => ?_
          rw [List.getElem?_map, Option.map_eq_some_iff] at hc
          obtain ⟨c', hc', rfl⟩ := hc
          exact ih c' (g i) (hr i c' hc')
      | tup caps =>
        cases hx with
        | tup _ _ vs g hs hv hr =>
          refine .tup _ _ _ g (by simpa using hs) (fun i hi => hv i (by simpa using hi)) fun i c hc => ?_
          rw [List.getElem?_map, Option.map_eq_some_iff] at hc
          obtain ⟨c', hc', rfl⟩ := hc
          exact ih c' (g i) (hr i c' hc')
      | ifc t v =>
        cases hx with
        | ifc _ _ _ y hr => exact .ifc _ _ _ _ (ih v y hr)
      | iref cs p =>
        cases hx with
        | iref _ _ _ g off f hv hr =>
          exact .iref _ _ _ _ _ f (fun j hj => (hv j hj).mono fun g _ hg => ⟨hF2 g hg, rfl⟩) fun j x hj => (hr j x hj).mono (fun g _ hg => ⟨hF2 g hg, rfl⟩) (HLe.noH _) (fun b hb => absurd rfl hb)
      | _ => exact leaf_rep hx hF2
  refine ⟨h.next ?_ hold ⟨hm.hw.os, hm.hw.tape, hm.hw.output, hm.hw.size, fun k hk hn => hm.hw.block k (Nat.lt_of_lt_of_le hk h.hw.size) fun hp => ?_⟩ hF3 ?_ ?_ ?_ ?_, hback⟩
  · -- the boxes go on
    intro b
    have href := HLe.refl s.H b
    cases hb : s.H b with
    | none => trivial
    | some y =>
      by_cases h1 : b ∈ bs
      · obtain ⟨i, hi, rfl⟩ := List.mem_iff_getElem.1 h1
        have hbi := List.getElem?_eq_getElem hi
        have hx : (boxC s.H bs)[i]? = some (renB (told s.H bs 5) y) := by rw [← hB_one]; exact boxC_of hbi hb
        obtain ⟨z, hz, hg⟩ := gat i _ hx
        have hH := hA.old i _ z hbi hz
        cases y with
        | obj cs => cases z <;> simp only [renB, goOn] at hg; exact ⟨_, hH⟩
        | row e sz L f =>
          cases z <;> simp only [renB, goOn] at hg
          · obtain ⟨rfl, rfl, hl⟩ := hg; exact .inl ⟨_, _, hH, hl⟩
          · exact .inr hH
        | dead => cases z <;> simp only [renB, goOn] at hg
      · have hn : ∀ j, j < hr.nw.length → b ≠ (b0.1, b0.2 + j) := by
          rintro j hj rfl
          have := (hA.new j _ (List.getElem?_eq_getElem hj)).2
          rw [hb] at this; cases this
        have hH := hA.els b h1 hn
        rw [hb] at href
        cases y <;> simp only at href ⊢ <;> rw [hH] <;> first | exact hb | (rw [hb]; exact href)
  · obtain ⟨b, y, c, r1, r2, r3, r4, _⟩ := pinned hp
    exact (h.hf b y k c r2 r4 (hot_live r3)).elim (fun e => by omega) hn
  · intro b x hx
    rcases cases' b x hx with ⟨k, y, r1, r2, rfl, r4⟩ | ⟨r1, r2⟩
    · rcases hm.hb k y r1 with rfl | ⟨g, c, cur, e, t1, t2, t3⟩ | ⟨t1, e, sz, z, rfl, t2⟩
      · exact .inl rfl
      · have hl : y.live = true := by cases y <;> first | rfl | exact t3.elim
        refine .inr (.inl ⟨g, c, cur, e, by rw [r4 hl]; exact t1, t2, ?_⟩)
        cases y with
        | obj cs =>
          refine ⟨by simpa using t3.1, fun j v hv => ?_⟩
          rw [List.getElem?_map, Option.map_eq_some_iff] at hv
          obtain ⟨v', hv', rfl⟩ := hv
          obtain ⟨u, u1, u2, u3⟩ := t3.2 j v' hv'
          exact ⟨u, u1, u2, hback 5 v' u u3⟩
        | row e' sz L z =>
          obtain ⟨p1, p2, p3, p4, p5, p6, p7⟩ := t3
          refine ⟨p1, p2, p3, p4, p5, p6, fun i j xs x' hi hj => ?_⟩
          obtain ⟨v, v1, v2, v3⟩ := p7 i j xs x' hi hj
          exact ⟨v, v1, v2, v3.mono (fun g _ hg => ⟨hF2 g hg, rfl⟩) (HLe.refl _) (fun b hb => absurd rfl hb)⟩
        | dead => exact t3.elim
      · exact .inr (.inr ⟨by rw [r4 rfl]; exact t1, e, sz, z, rfl, t2⟩)
    · have hn : s.H b ≠ none := by rw [r2]; simp
      refine (h.hb b x r2).mono r2 hF3 ?_ hold fun g c hl hg => hm.hw.block g (h.lt r2 hl hg) fun hp => ?_
      · -- as above
        intro b
        have href := HLe.refl s.H b
        cases hb : s.H b with
        | none => trivial
        | some y =>
          by_cases h1 : b ∈ bs
          · obtain ⟨i, hi, rfl⟩ := List.mem_iff_getElem.1 h1
            have hbi := List.getElem?_eq_getElem hi
            have hx : (boxC s.H bs)[i]? = some (renB (told s.H bs 5) y) := by rw [← hB_one]; exact boxC_of hbi hb
            obtain ⟨z, hz, hg⟩ := gat i _ hx
            have hH := hA.old i _ z hbi hz
            cases y with
            | obj cs => cases z <;> simp only [renB, goOn] at hg; exact ⟨_, hH⟩
            | row e sz L f =>
              cases z <;> simp only [renB, goOn] at hg
              · obtain ⟨rfl, rfl, hl⟩ := hg; exact .inl ⟨_, _, hH, hl⟩
              · exact .inr hH
            | dead => cases z <;> simp only [renB, goOn] at hg
          · have hn : ∀ j, j < hr.nw.length → b ≠ (b0.1, b0.2 + j) := by
              rintro j hj rfl
              have := (hA.new j _ (List.getElem?_eq_getElem hj)).2
              rw [hb] at this; cases this
            have hH := hA.els b h1 hn
            rw [hb] at href
            cases y <;> simp only at href ⊢ <;> rw [hH] <;> first | exact hb | (rw [hb]; exact href)
      · obtain ⟨b', y, c', t1, t2, t3, t4, _⟩ := pinned hp
        have := h.hi b' b y x g c' c t2 r2 t3 hl t4 hg
        subst this
        exact r1 t1
  · intro b1 b2 x1 x2 g c1 c2 q1 q2 q3 q4 q5 q6
    rcases cases' b1 x1 q1 with ⟨k1, y1, r1, r2, rfl, r4⟩ | ⟨r1, r2⟩ <;> rcases cases' b2 x2 q2 with ⟨k2, y2, t1, t2, rfl, t4⟩ | ⟨t1, t2⟩
    · rw [renB_hot] at q3
      rw [renB_live] at q4
      rw [r4 (hot_live q3)] at q5
      rw [t4 q4] at q6
      have := hm.hi k1 k2 y1 y2 g c1 c2 r1 t1 q3 q4 q5 q6
      subst this
      rw [r2] at t2
      exact Option.some.inj t2
    · rw [renB_hot] at q3
      rw [r4 (hot_live q3)] at q5
      rw [hold b2 (by rw [t2]; simp)] at q6
      exfalso
      have hlt := h.lt t2 q4 q6
      rcases hm.hf k1 y1 g c1 r1 q5 (hot_live q3) with e | e
      · simp only at e; omega
      · obtain ⟨b', y, c', p1, p2, p3, p4, _⟩ := pinned e
        have := h.hi b' b2 y x2 g c' c2 p2 t2 p3 q4 p4 q6
        subst this
        exact t1 p1
    · rw [renB_live] at q4
      rw [t4 q4] at q6
      rw [hold b1 (by rw [r2]; simp)] at q5
      exfalso
      have hlt := h.lt r2 (hot_live q3) q5
      rcases hm.hf k2 y2 g c2 t1 q6 q4 with e | e
      · simp only at e; omega
      · obtain ⟨b', y, c', p1, p2, p3, p4, _⟩ := pinned e
        have := h.hi b1 b' x1 y g c1 c' r2 p2 q3 (hot_live p3) q5 p4
        subst this
        exact r1 p1
    · rw [hold b1 (by rw [r2]; simp)] at q5
      rw [hold b2 (by rw [t2]; simp)] at q6
      exact h.hi b1 b2 x1 x2 g c1 c2 r2 t2 q3 q4 q5 q6
  · intro b x g c q1 q2 q3
    rcases cases' b x q1 with ⟨k, y, r1, r2, rfl, r4⟩ | ⟨r1, r2⟩
    · rw [renB_live] at q3
      rw [r4 q3] at q2
      rcases hm.hf k y g c r1 q2 q3 with e | e
      · exact .inl (Nat.le_trans h.hw.size e)
      · obtain ⟨b', y', c', p1, p2, p3, p4, _⟩ := pinned e
        exact h.hf b' y' g c' p2 p4 (hot_live p3)
    · rw [hold b (by rw [r2]; simp)] at q2
      exact h.hf b x g c r2 q2 q3
  · intro i x q1 q2
    rcases cases' _ x q1 with ⟨k, y, r1, r2, rfl, r4⟩ | ⟨r1, r2⟩
    · obtain ⟨k1, k2⟩ := k
      by_cases e1 : k1 = 1
      · subst e1
        simp only [backB, if_true] at r2
        obtain ⟨y', hy', hh⟩ := hbsome k2 _ r2
        rw [hold _ (by rw [hy']; simp)]
        exact h.hp i y' hy' (hot_live hh)
      · by_cases e2 : k1 = 2
        · subst e2
          simp [backB, h0] at r2
        · simp [backB, e1, e2] at r2
    · rw [hold _ (by rw [r2]; simp)]
      exact h.hp i x r2 q2
end
end Go.Proofs.Ytebflegkdfhoaaa.AE
