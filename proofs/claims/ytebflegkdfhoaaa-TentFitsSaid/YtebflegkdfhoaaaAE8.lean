/-
  A plain machine for the code of functions, and its soundness: part AE8. Conditions: none; every lemma names its own.
-/
import Derived.Test.YtebflegkdfhoaaaAE7
namespace Go.Proofs.Ytebflegkdfhoaaa.AE
open Go Go.RowKit
set_option linter.unusedVariables false
section
variable {Γ : Ctx} {s : St} {μ : Lay} {a : Act} {w : World} {o : Oper}
theorem box_obj (h : Rel Γ s μ a w) {b : Bid} {cs : List AV} (hb : s.H b = some (.obj cs)) {g c : Nat} (hg : μ b = some (g, c)) :
    ∃ (cur : Array Value) (e : TypeId), w.heap[g]? = some (.cells cur e (0, 0)) ∧ cur.size = cs.length ∧ ∀ (i : Nat) (x : AV), cs[i]? = some x → ∃ v : Value, cur[i]? = some v ∧ v.oneCell' = true ∧ Rep w (forb Γ.Mx μ s.H) μ s.H x v := by
  rcases h.hb b _ hb with q | ⟨g', c', cur, e, q1, q2, q3⟩ | ⟨q1, e1, sz1, z1, q2, q3⟩
  · cases q
  · rw [hg] at q1; cases q1; exact ⟨cur, e, q2, q3.1, q3.2⟩
  · cases q2
theorem box_row (h : Rel Γ s μ a w) {b : Bid} {e : TypeId} {sz : Nat} {L : List (List AV)} {z : Bool} (hb : s.H b = some (.row e sz L z)) {g c : Nat} (hg : μ b = some (g, c)) :
    ∃ (cur : Array Value), w.heap[g]? = some (.cells cur e (0, 0)) ∧ 0 < sz ∧ (∀ x ∈ L, x.length = sz) ∧ cur.size = c * sz ∧ L.length ≤ c ∧ c ≤ maxLen ∧
      ∀ (i j : Nat) (xs : List AV) (x : AV), L[i]? = some xs → xs[j]? = some x → ∃ v : Value, cur[i * sz + j]? = some v ∧ v.oneCell' = true ∧ Rep w (forb Γ.Mx μ s.H) μ noH x v := by
  rcases h.hb b _ hb with q | ⟨g', c', cur, e, q1, q2, q3⟩ | ⟨q1, e1, sz1, z1, q2, q3⟩
  · cases q
  · rw [hg] at q1; cases q1
    obtain ⟨rfl, r⟩ := q3
    exact ⟨cur, q2, r⟩
  · rw [hg] at q1; cases q1
theorem cell_heap {g o : Nat} {cur : Array Value} {e : TypeId} (h : w.heap[g]? = some (.cells cur e (0, 0))) : w.cell? ⟨g, o, none⟩ = cur[o]? := by
  simp [World.cell?, h]
theorem sim_load (h : Rel Γ s μ a w) (hd : ∀ t, o.dst = some t → t < Γ.n) {x : Operand} {t : TypeId} (ho : o.op = .load t x) {r : R} (hr : vLoad s.H (TI.of Γ.P t) (eva s.t x) = some r) : SimR Γ s μ a w o r := by
  have hx := eva_rep h x
  generalize eva s.t x = X at hr hx
  cases hT : TI.of Γ.P t with
  | none => rw [hT] at hr; simp [vLoad] at hr
  | some i =>
    rw [hT] at hr
    generalize hval : a.eval x = y at hx
    have fin : ∀ (g p : Nat) (v : AV) (uu : Value) (fp : List Bid), y = .pointer (some ⟨g, p, none⟩) → (loadVar t ⟨g, p, none⟩).run Γ.P w = .ok uu w → Rep w (forb Γ.Mx μ s.H) μ s.H v uu → (some ⟨v, [], [], fp, none⟩ : Option R) = some r → SimR Γ s μ a w o r := by
      intro g p v uu fp hy hl hv hrr
      refine simF h hd ?_ hv hrr
      subst hy
      simp only [execOp, ho, hval, Instr.loadAt, Instr.sureAddr, Sem.run_bind, Sem.run_pure, Result.andThen_ok, hl]
    cases hx with
    | ref _ b p cs g c hH hμ =>
      simp only [vLoad, loadB, hH, Option.map_eq_some_iff] at hr
      obtain ⟨v, hv, hr⟩ := hr
      obtain ⟨cur, e, q1, q2, q3⟩ := box_obj h hH hμ
      obtain ⟨uu, hu1, hu2⟩ := ld_rep (w := w) (μ := μ) (M := forb Γ.Mx μ s.H) (H := s.H) hT hv (g := g) (off := 0) (f := fun j => (cur[j]?).getD undef) (fun j hj => by
        obtain ⟨v', r1, r2, _⟩ := q3 j cs[j] (List.getElem?_eq_getElem hj)
        rw [Nat.zero_add, cell_heap q1, r1]
        exact ⟨rfl, r2⟩) (fun j x hx => by
        obtain ⟨v', r1, _, r3⟩ := q3 j x hx
        rw [r1]
        exact r3)
      rw [Nat.zero_add] at hu1
      exact fin g p v uu _ rfl hu1 hu2 (by rw [hr])
    | iref _ cs p g off f hv hrr =>
      simp only [vLoad] at hr
      cases hld : ld i cs p with
      | none => rw [hld] at hr; cases hr
      | some v =>
        rw [hld] at hr
        obtain ⟨uu, hu1, hu2⟩ := ld_rep (w := w) (μ := μ) (M := forb Γ.Mx μ s.H) (H := s.H) hT hld (g := g) (off := off) (f := f) (fun j hj => by
          obtain ⟨g', off', e1, e2, e3, e4⟩ := hv j hj
          cases e1
          exact ⟨e3, e4⟩) (fun j x hx => (hrr j x hx).ofNo)
        exact fin g (off + p) v uu [] rfl hu1 hu2 hr
    | eref _ b k p e sz L z g c hH hμ hi =>
      simp only [vLoad, hH, nthRow] at hr
      cases hL : L[k]? with
      | none => rw [hL] at hr; cases hr
      | some cs =>
        rw [hL] at hr
        simp only [loadE, Option.map_eq_some_iff] at hr
        obtain ⟨v, hv, hr⟩ := hr
        obtain ⟨cur, q1, q2, q3, q4, q5, q6, q7⟩ := box_row h hH hμ
        obtain ⟨uu, hu1, hu2⟩ := ld_rep (w := w) (μ := μ) (M := forb Γ.Mx μ s.H) (H := s.H) hT hv (g := g) (off := k * sz) (f := fun j => (cur[k * sz + j]?).getD undef) (fun j hj => by
          obtain ⟨v', r1, r2, _⟩ := q7 k j cs cs[j] hL (List.getElem?_eq_getElem hj)
          rw [cell_heap q1, r1]
          exact ⟨rfl, r2⟩) (fun j x hx => by
          obtain ⟨v', r1, _, r3⟩ := q7 k j cs x hL hx
          rw [r1]
          exact r3.ofNo)
        exact fin g _ v uu _ rfl hu1 hu2 (by rw [hr])
    | erefd _ b k p v hH _ => simp [vLoad, hH, nthRow, loadE] at hr
    | _ => simp only [vLoad] at hr; cases hr
/-- A field, an element out of a struct or an array that is a value. -/
theorem part_rep {P : Program} {t : TypeId} {q : TypeInfo} {d : TypeDesc} (hq : P.info? t = some q) (hu : P.underlying t = some d) {M H} {cs : List AV} {o : Nat} {v : AV} {vs : Array Value}
    (hx : Rep w M μ H (.agg cs) (.agg vs)) (hv : (if isAggD d then (if o + q.size ≤ cs.length then some (AV.agg ((cs.drop o).take q.size)) else none) else cs[o]?) = some v) : ∃ x, (part t vs o).run P w = .ok x w ∧ Rep w M μ H v x := by
  cases hx with
  | agg _ _ _ f hs hvv hr =>
    simp only [part, Sem.run_bind, run_isAgg' hu, Result.andThen_ok]
    cases hA : isAggD d
    · rw [hA] at hv
      simp only [Bool.false_eq_true, if_false] at hv ⊢
      have hl := (List.getElem?_eq_some_iff.1 hv).1
      rw [(hvv o hl).1]
      exact ⟨f o, rfl, hr o v hv⟩
    · rw [hA] at hv
      simp only [if_true] at hv ⊢
      split at hv
      · rename_i hl
        cases hv
        refine ⟨.agg (vs.extract o (o + q.size)), by simp only [Sem.run_bind, run_sizeOf' hq, Result.andThen_ok, Sem.run_pure], .agg _ _ _ (fun j => f (o + j)) (by simp; omega) ?_ ?_⟩
        · intro j hj
          have hjq : j < q.size := by rw [List.length_take] at hj; exact Nat.lt_of_lt_of_le hj (Nat.min_le_left _ _)
          refine ⟨?_, (hvv (o + j) (by omega)).2⟩
          rw [Array.getElem?_extract, if_pos (by omega)]
          exact (hvv (o + j) (by omega)).1
        · intro j c hj
          rw [List.getElem?_take] at hj
          split at hj
          · rw [List.getElem?_drop] at hj
            exact hr _ _ hj
          · cases hj
      · cases hv
theorem sim_field (h : Rel Γ s μ a w) (hd : ∀ t, o.dst = some t → t < Γ.n) {x : Operand} {t : TypeId} {f : Nat} (ho : o.op = .field t x f) {r : R} (hr : vField (TI.of Γ.P t) (eva s.t x) f = some r) : SimR Γ s μ a w o r := by
  have hx := eva_rep h x
  generalize eva s.t x = X at hr hx
  cases hT : TI.of Γ.P t with
  | none => rw [hT] at hr; simp [vField] at hr
  | some i =>
    rw [hT] at hr
    cases X <;> simp only [vField] at hr <;> try (cases hr; done)
    rename_i cs
    cases hf : i.fields[f]? with
    | none => rw [hf] at hr; cases hr
    | some fd =>
      rw [hf] at hr
      obtain ⟨fs, F, q, d, e1, e2, e3, e4, e5, e6, e7⟩ := field_info hT hf
      generalize hval : a.eval x = y at hx
      have hx' := hx
      cases hx with
      | agg _ _ vs f' hs hvv hrr =>
        have hv : ∃ v, (if isAggD d then (if F.offset + q.size ≤ cs.length then some (AV.agg ((cs.drop F.offset).take q.size)) else none) else cs[F.offset]?) = some v ∧ (some ⟨v, [], [], [], none⟩ : Option R) = some r := by
          simp only [fieldV, e3, e5, e7] at hr
          cases hA : isAggD d <;> rw [hA] at hr
          · simp only [Bool.false_eq_true, if_false] at hr ⊢
            cases hc : cs[F.offset]? with
            | none => rw [hc] at hr; cases hr
            | some v => rw [hc] at hr; exact ⟨v, rfl, hr⟩
          · simp only [if_true] at hr ⊢
            split at hr
            · rename_i hl; rw [if_pos hl]; exact ⟨_, rfl, hr⟩
            · cases hr
        obtain ⟨v, hv, hr⟩ := hv
        obtain ⟨uu, hu1, hu2⟩ := part_rep (w := w) e4 e6 hx' hv
        exact simF h hd (by simp only [execOp, ho, hval, Instr.field, Sem.run_bind, run_underlying e1, Result.andThen_ok, e2, asAgg, Sem.run_pure, hu1]) hu2 hr
end
end Go.Proofs.Ytebflegkdfhoaaa.AE
