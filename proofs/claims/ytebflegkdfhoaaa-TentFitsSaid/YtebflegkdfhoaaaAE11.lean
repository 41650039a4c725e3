/-
  A plain machine for the code of functions, and its soundness: part AE11. Conditions: none; every lemma names its own.
-/
import Derived.Test.YtebflegkdfhoaaaAE10
namespace Go.Proofs.Ytebflegkdfhoaaa.AE
open Go Go.RowKit
set_option linter.unusedVariables false
section
variable {Γ : Ctx} {s : St} {μ : Lay} {a : Act} {w : World} {o : Oper}
/-! ## Rows that stay as they are -/
/-- H0 is H, some rows frozen. -/
def FrzOf (H H0 : Heap) : Prop := ∀ b, H0 b = H b ∨ ∃ e sz L, H b = some (.row e sz L false) ∧ H0 b = some (.row e sz L true)
theorem FrzOf.refl (H : Heap) : FrzOf H H := fun b => .inl rfl
theorem frz_all {H : Heap} : ∀ (bs : List Bid) (H0 : Heap), FrzOf H H0 → Rel Γ ⟨s.t, H0⟩ μ a w → Rel Γ ⟨s.t, hputs H0 (frzs H bs)⟩ μ a w ∧ FrzOf H (hputs H0 (frzs H bs)) ∧
    (∀ b e sz L z, b ∈ bs → H b = some (.row e sz L z) → hputs H0 (frzs H bs) b = some (.row e sz L true)) ∧ (∀ b e sz L, H0 b = some (.row e sz L true) → hputs H0 (frzs H bs) b = some (.row e sz L true)) := by
  intro bs
  induction bs with
  | nil => intro H0 hf hR; exact ⟨hR, hf, fun b e sz L z hb => by simp at hb, fun b e sz L h => h⟩
  | cons b bs ih =>
    intro H0 hf hR
    by_cases hb : ∃ e sz L, H b = some (.row e sz L false)
    · obtain ⟨e, sz, L, hb⟩ := hb
      have hfz : frzs H (b :: bs) = (b, .row e sz L true) :: frzs H bs := by simp [frzs, hb]
      rw [hfz]
      simp only [hputs]
      have h0 : ∃ z, H0 b = some (.row e sz L z) := by
        rcases hf b with h' | ⟨e', sz', L', h1, h2⟩
        · exact ⟨false, h'.trans hb⟩
        · rw [hb] at h1; cases h1; exact ⟨true, h2⟩
      obtain ⟨z, h0⟩ := h0
      have hR' := Rel.freeze (s := ⟨s.t, H0⟩) hR h0
      have hf' : FrzOf H (hput H0 b (.row e sz L true)) := by
        intro i
        by_cases e1 : i = b
        · subst e1; exact .inr ⟨e, sz, L, hb, by simp [hput]⟩
        · have : hput H0 b (.row e sz L true) i = H0 i := by simp [hput, e1]
          rw [this]; exact hf i
      obtain ⟨i1, i2, i3, i4⟩ := ih _ hf' hR'
      refine ⟨i1, i2, fun b' e' sz' L' z' hb' hh => ?_, fun b' e' sz' L' hh => ?_⟩
      · rcases List.mem_cons.1 hb' with rfl | hb'
        · rw [hb] at hh; cases hh
          exact i4 _ _ _ _ (by simp [hput])
        · exact i3 _ _ _ _ _ hb' hh
      · by_cases e1 : b' = b
        · subst e1
          rw [h0] at hh; cases hh
          exact i4 _ _ _ _ (by simp [hput])
        · exact i4 _ _ _ _ (by simp [hput, e1, hh])
    · have hfz : frzs H (b :: bs) = frzs H bs := by
        simp only [frzs]
        split
        · rename_i e sz L h'; exact absurd ⟨e, sz, L, h'⟩ hb
        · rfl
      rw [hfz]
      obtain ⟨i1, i2, i3, i4⟩ := ih _ hf hR
      refine ⟨i1, i2, fun b' e' sz' L' z' hb' hh => ?_, i4⟩
      rcases List.mem_cons.1 hb' with rfl | hb'
      · cases z' with
        | false => exact absurd ⟨_, _, _, hh⟩ hb
        | true =>
          refine i4 _ _ _ _ ?_
          rcases hf b' with h' | ⟨_, _, _, h1, h2⟩
          · rw [h']; exact hh
          · rw [hh] at h1; cases h1
      · exact i3 _ _ _ _ _ hb' hh
theorem FrzOf.hle {H H0 : Heap} (h : FrzOf H H0) : HLe H H0 := by
  intro b
  rcases h b with h' | ⟨e, sz, L, h1, h2⟩
  · have := HLe.refl H b
    cases hb : H b with
    | none => trivial
    | some x =>
      rw [hb] at this h'
      cases x <;> simp only at this ⊢ <;> rw [h']
      · exact ⟨_, rfl⟩
      · exact .inl ⟨_, _, rfl, rfl⟩
  · rw [h1]; exact .inl ⟨L, true, h2, rfl⟩
theorem FrzOf.forb {H H0 : Heap} (h : FrzOf H H0) {Mx : Nat → Prop} {g : Nat} (hg : forb Mx μ H0 g) : forb Mx μ H g := by
  rcases hg with hg | ⟨b, x, c, h1, h2, h3⟩
  · exact .inl hg
  · rcases h b with h' | ⟨e, sz, L, q1, q2⟩
    · exact .inr ⟨b, x, c, by rw [← h']; exact h1, h2, h3⟩
    · rw [q2] at h1; cases h1; simp [Box.hot] at h2
/-- A frozen row's block is not told to change. -/
theorem frozen_not (h : Rel Γ s μ a w) {b : Bid} {e : TypeId} {sz : Nat} {L : List (List AV)} (hb : s.H b = some (.row e sz L true)) {g c : Nat} (hg : μ b = some (g, c)) : ¬ forb Γ.Mx μ s.H g := by
  rintro (hx | ⟨b', x', c', h1, h2, h3⟩)
  · obtain ⟨h1, h2⟩ := h.hx g hx
    exact (h.hf b _ g c hb hg rfl).elim (fun h => by omega) h2
  · have := h.hi b' b x' _ g c' c h1 hb h2 rfl h3 hg
    subst this
    rw [hb] at h1; cases h1; simp [Box.hot] at h2
/-- A row as a list. -/
theorem row_rep (h : Rel Γ s μ a w) {M : Nat → Prop} {b : Bid} {e : TypeId} {sz : Nat} {L : List (List AV)} {z : Bool} (hb : s.H b = some (.row e sz L z)) {n : Nat} (hn : n ≤ L.length) (hM : ∀ g, ¬ forb Γ.Mx μ s.H g → ¬ M g) (hMb : ∀ g c, μ b = some (g, c) → ¬ M g) {μ' H'} :
    Rep w M μ' H' (.sl sz (L.take n)) (sliceV (μ b) n) := by
  rcases h.hb b _ hb with q | ⟨g, c, cur, e, q1, q2, q3⟩ | ⟨q1, e1, sz1, z1, q2, q3⟩
  · cases q
  · obtain ⟨rfl, q3, q4, q5, q6, q7, q8⟩ := q3
    rw [q1]
    have hl : (L.take n).length = n := by rw [List.length_take]; omega
    have := @Rep.sl w M μ' H' sz (L.take n) (some ⟨g, 0, none⟩) c (fun i j => (cur[i * sz + j]?).getD undef) (by omega) q7 (fun x hx => q4 x (List.mem_of_mem_take hx)) (fun i j hi hj => by
      have hi' : i < L.length := by omega
      have hxl : (L[i]).length = sz := q4 _ (List.getElem_mem hi')
      obtain ⟨v, v1, v2, v3⟩ := q8 i j L[i] (L[i][j]'(by omega)) (List.getElem?_eq_getElem hi') (List.getElem?_eq_getElem (by omega))
      refine ⟨g, 0, rfl, hMb g c q1, ?_, ?_⟩
      · rw [Nat.zero_add, cell_heap q2, v1]; rfl
      · rw [v1]; exact v2) (fun i j cs x hi hj => by
      rw [List.getElem?_take] at hi
      split at hi
      · obtain ⟨v, v1, v2, v3⟩ := q8 i j cs x hi hj
        rw [v1]
        exact v3.mono (fun g _ hg => ⟨hM g hg, rfl⟩) (HLe.refl _) (fun b hb => absurd rfl hb)
      · cases hi)
    rw [hl] at this
    exact this
  · cases q2
    rw [q1]
    have hn0 : n = 0 := by simpa using hn
    subst hn0
    exact .sl _ _ _ none 0 (fun _ _ => undef) (Nat.le_refl _) (Nat.zero_le _) (by simp) (by simp) (by simp)
theorem leaf_rep {M M' H H' μ'} {v : AV} {x : Value} (h : Rep w M μ H v x) (hM : ∀ g, ¬ M g → ¬ M' g) : Rep w M' μ' H' (leafV v) x := by
  cases h with
  | int => exact .int _ _ _
  | bool => exact .bool _ _
  | str => exact .str _ _
  | nils => exact .nils _
  | nilp => exact .nilp _
  | nili => exact .nili _
  | sl _ k L a c f hc hm hk hv hr =>
    exact .sl _ _ _ _ _ f hc hm hk (fun i j hi hj => (hv i j hi hj).mono fun g _ hg => ⟨hM g hg, rfl⟩) fun i j cs x hi hj => (hr i j cs x hi hj).mono (fun g _ hg => ⟨hM g hg, rfl⟩) (HLe.noH _) (fun b hb => absurd rfl hb)
  | _ => exact .u _ _
theorem map_agg {M H} {cs : List AV} {vs : Array Value} {f : AV → AV} {M' μ' H'} (hx : Rep w M μ H (.agg cs) (.agg vs)) (hf : ∀ c y, c ∈ cs → Rep w M μ H c y → Rep w M' μ' H' (f c) y) : Rep w M' μ' H' (.agg (cs.map f)) (.agg vs) := by
  cases hx with
  | agg _ _ _ g hs hv hr =>
    refine .agg _ _ _ g (by simpa using hs) (fun i hi => hv i (by simpa using hi)) fun i c hc => ?_
    rw [List.getElem?_map, Option.map_eq_some_iff] at hc
    obtain ⟨c', hc', rfl⟩ := hc
    exact hf c' (g i) (List.mem_of_getElem? hc') (hr i c' hc')
/-- A value as it is told to a callee: nothing of it is told to change. -/
theorem view_rep (h : Rel Γ s μ a w) : ∀ (d : Nat) (v : AV) (x : Value), Rep w (forb Γ.Mx μ s.H) μ s.H v x → ∀ (μ' : Lay) (H' : Heap), Rep w (fun _ => False) μ' H' (view s.H d v) x := by
  intro d
  induction d with
  | zero => intro v x hx μ' H'; exact leaf_rep hx (fun g hg hF => hF)
  | succ d ih =>
    intro v x hx μ' H'
    cases v with
    | own b n =>
      simp only [view]
      cases hb : s.H b with
      | none => exact .u _ _
      | some y =>
        cases y with
        | obj cs => exact .u _ _
        | dead => exact .u _ _
        | row e sz L z =>
          simp only [rowOf, slV]
          cases hx with
          | own _ _ _ e' sz' L' z' hH hn => rw [hb] at hH; cases hH; exact row_rep h hb hn (fun g _ hF => hF) (fun _ _ _ hF => hF)
          | ownd _ _ _ _ hH _ => rw [hb] at hH; cases hH
    | ref b p =>
      simp only [view]
      cases hb : s.H b with
      | none => exact .u _ _
      | some y =>
        cases y with
        | row e sz L z => exact .u _ _
        | dead => exact .u _ _
        | obj cs =>
          simp only [objV]
          cases hx with
          | ref _ _ _ cs' g c hH hμ =>
            obtain ⟨cur, e, q1, q2, q3⟩ := box_obj h hb hμ
            have := @Rep.iref w (fun _ => False) μ' H' (cs.map (view s.H d)) p g 0 (fun j => (cur[j]?).getD undef) (fun j hj => by
              simp at hj
              obtain ⟨v, v1, v2, v3⟩ := q3 j cs[j] (List.getElem?_eq_getElem hj)
              exact ⟨g, 0, rfl, fun hF => hF, by rw [Nat.zero_add, cell_heap q1, v1]; rfl, by rw [v1]; exact v2⟩) (fun j x hj => by
              rw [List.getElem?_map, Option.map_eq_some_iff] at hj
              obtain ⟨c', hc', rfl⟩ := hj
              obtain ⟨v, v1, v2, v3⟩ := q3 j c' hc'
              rw [v1]
              exact ih c' v v3 μ' noH)
            rw [Nat.zero_add] at this
            exact this
    | agg cs =>
      have hx' := hx
      cases hx with
      | agg _ _ vs g hs hv hr => exact map_agg hx' fun c y _ hc => ih c y hc μ' H'
    | fn f caps =>
      cases hx with
      | fn _ _ _ vs g hs hv hr =>
        refine .fn _ _ _ _ g (by simpa using hs) (fun i hi => hv i (by simpa using hi)) fun i c hc => ?_
        rw [List.getElem?_map, Option.map_eq_some_iff] at hc
        obtain ⟨c', hc', rfl⟩ := hc
        exact ih c' (g i) (hr i c' hc') μ' H'
    | iref cs p =>
      cases hx with
      | iref _ _ _ g off f hv hr =>
        exact .iref _ _ _ _ _ f (fun j hj => (hv j hj).mono fun g _ _ => ⟨fun hF => hF, rfl⟩) fun j x hj => (hr j x hj).mono (fun g _ _ => ⟨fun hF => hF, rfl⟩) (HLe.noH _) (fun b hb => absurd rfl hb)
    | _ => exact leaf_rep hx (fun g hg hF => hF)
/-- The rows among arguments, and no other numbers of boxes: told as lists that stay. -/
theorem plain_rep (h : Rel Γ s μ a w) {M : Nat → Prop} (hM : ∀ g, ¬ forb Γ.Mx μ s.H g → ¬ M g) (d : Nat) {v : AV} {x : Value} (hx : Rep w (forb Γ.Mx μ s.H) μ s.H v x) (hp : plainA v = true)
    (hb : ∀ b n e sz L z g c, v = .own b n → s.H b = some (.row e sz L z) → μ b = some (g, c) → ¬ M g) (μ' : Lay) (H' : Heap) : Rep w M μ' H' (view s.H (d + 1) v) x := by
  cases v with
  | own b n =>
    simp only [view]
    cases hbb : s.H b with
    | none => exact .u _ _
    | some y =>
      cases y with
      | obj cs => exact .u _ _
      | dead => exact .u _ _
      | row e sz L z =>
        simp only [rowOf, slV]
        cases hx with
        | own _ _ _ e' sz' L' z' hH hn => rw [hbb] at hH; cases hH; exact row_rep h hbb hn hM (fun g c hg => hb b n _ _ _ _ g c rfl hbb hg)
        | ownd _ _ _ _ hH _ => rw [hbb] at hH; cases hH
  | agg cs =>
    have hx' := hx
    cases hx with
    | agg _ _ vs g hs hv hr =>
      refine map_agg hx' fun c y hc hcy => ?_
      have hl : view s.H d c = leafV c := by
        have := List.all_eq_true.1 hp c hc
        cases c <;> simp at this <;> cases d <;> rfl
      rw [hl]
      exact leaf_rep hcy hM
  | fn f caps =>
    cases caps with
    | nil =>
      cases hx with
      | fn _ _ _ vs g hs hv hr => exact .fn _ _ _ _ g hs hv fun i c hc => by simp at hc
    | cons c cs => simp [plainA] at hp
  | ref b p => simp [plainA] at hp
  | eref b i p => simp [plainA] at hp
  | iref cs p => simp [plainA] at hp
  | tup vs => simp [plainA] at hp
  | ifc t v => simp [plainA] at hp
  | frs e sz L => simp [plainA] at hp
  | pnc v => simp [plainA] at hp
  | u => simp [plainA] at hp
  | _ => exact leaf_rep hx hM
end
end Go.Proofs.Ytebflegkdfhoaaa.AE
