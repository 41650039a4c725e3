/-
  A plain machine for the code of functions, and its soundness: part AE7. Conditions: none; every lemma names its own.
-/
import Derived.Test.YtebflegkdfhoaaaAE6
namespace Go.Proofs.Ytebflegkdfhoaaa.AE
open Go Go.RowKit
set_option linter.unusedVariables false
section
variable {Γ : Ctx} {s : St} {μ : Lay} {a : Act} {w : World} {o : Oper}
theorem simF (h : Rel Γ s μ a w) (hd : ∀ t, o.dst = some t → t < Γ.n) {v : AV} {x : Value} {fp : List Bid} (hrun : (execOp a.eval o).run Γ.P w = .ok (.value x) w) (hv : Rep w (forb Γ.Mx μ s.H) μ s.H v x) {r : R} (hr : (some ⟨v, [], [], fp, none⟩ : Option R) = some r) : SimR Γ s μ a w o r := by
  cases hr
  exact simV h hd hrun hv
/-- An address moved on. -/
theorem addO_rep (h : Rel Γ s μ a w) {x : AV} {v : Value} (hx : Rep w (forb Γ.Mx μ s.H) μ s.H x v) {n : Nat} {r : R} (hr : addO s.H n x = some r) :
    ∃ g p y fp, v = .pointer (some ⟨g, p, none⟩) ∧ r = ⟨y, [], [], fp, none⟩ ∧ Rep w (forb Γ.Mx μ s.H) μ s.H y (.pointer (some ⟨g, p + n, none⟩)) := by
  cases hx with
  | ref _ b o cs g c hH hμ =>
    cases val_inj hr
    exact ⟨_, _, _, _, rfl, rfl, .ref _ _ _ _ _ c hH hμ⟩
  | eref _ b i o e sz L z g c hH hμ hi =>
    simp only [addO] at hr
    split at hr
    · cases hr
      refine ⟨_, _, _, _, rfl, rfl, ?_⟩
      rw [Nat.add_assoc]
      exact .eref _ _ _ _ _ _ _ _ _ c hH hμ hi
    · cases hr
  | erefd _ b i o v hH _ =>
    simp only [addO, hH, isRow] at hr
    simp at hr
  | iref _ cs o g off f hv hrr =>
    cases val_inj hr
    refine ⟨_, _, _, _, rfl, rfl, ?_⟩
    rw [Nat.add_assoc]
    exact .iref _ _ _ _ _ f hv hrr
  | _ => simp only [addO] at hr; cases hr
theorem field_info {P : Program} {t : TypeId} {i : TI} (hT : TI.of P t = some i) {f : Nat} {fd : Nat × Nat × Bool} (hf : i.fields[f]? = some fd) :
    ∃ fs F q d, P.underlying t = some (.struct fs) ∧ fs[f]? = some F ∧ fd.1 = F.offset ∧ P.info? F.type = some q ∧ fd.2.1 = q.size ∧ P.underlying F.type = some d ∧ fd.2.2 = isAggD d := by
  obtain ⟨q, d, h1, h2, hok, _, _, _, hfl, _⟩ := TI.of_some hT
  rw [hfl] at hf
  obtain ⟨fs, rfl⟩ : ∃ fs, d = .struct fs := by cases d <;> simp [fieldsD] at hf <;> exact ⟨_, rfl⟩
  simp only [fieldsD] at hf
  simp only [List.getElem?_map, Option.map_eq_some_iff] at hf
  obtain ⟨F, hF, rfl⟩ := hf
  have hF' : fs[f]? = some F := by simpa using hF
  have hmem : F ∈ fs.toList := List.mem_of_getElem? hF
  simp only [okD, List.all_eq_true, Bool.and_eq_true] at hok
  obtain ⟨o1, o2⟩ := hok F hmem
  obtain ⟨q', hq'⟩ := Option.isSome_iff_exists.1 o1
  obtain ⟨d', hd'⟩ := Option.isSome_iff_exists.1 o2
  exact ⟨fs, F, q', d', h2, hF', rfl, hq', cellsOf_eq hq', hd', by simp [aggT, hd']⟩
theorem sim_fieldAddr (h : Rel Γ s μ a w) (hd : ∀ t, o.dst = some t → t < Γ.n) {x : Operand} {t : TypeId} {f : Nat} (ho : o.op = .fieldAddr t x f) {r : R} (hr : vFieldAddr s.H (TI.of Γ.P t) (eva s.t x) f = some r) : SimR Γ s μ a w o r := by
  have hx := eva_rep h x
  cases hT : TI.of Γ.P t with
  | none => rw [hT] at hr; cases hr
  | some i =>
    rw [hT] at hr
    simp only [vFieldAddr] at hr
    cases hf : i.fields[f]? with
    | none => rw [hf] at hr; cases hr
    | some fd =>
      rw [hf] at hr
      simp only [fieldO] at hr
      split at hr
      · cases hr
      · rename_i hz
        obtain ⟨fs, F, q, d, e1, e2, e3, e4, e5, e6, e7⟩ := field_info hT hf
        obtain ⟨g, p, y, fp, q1, rfl, q3⟩ := addO_rep h hx hr
        refine simV h hd (x := .pointer (some ⟨g, p + fd.1, none⟩)) ?_ q3
        have hsz : ¬ q.size = 0 := by rw [← e5]; exact hz
        simp only [execOp, ho, q1, Instr.fieldAt, Sem.run_bind, run_underlying e1, Result.andThen_ok, e2, Instr.sureAddr, Sem.run_pure, fieldPlace, run_sizeOf' e4, hsz, if_false, Addr.add_lit, e3]
theorem elem_info {P : Program} {t : TypeId} {i : TI} (hT : TI.of P t = some i) (ha : i.arr = true ∨ i.slc = true) :
    ∃ e q d, ((i.arr = true ∧ P.underlying t = some (.array i.len e)) ∨ (i.slc = true ∧ P.underlying t = some (.slice e))) ∧ P.info? e = some q ∧ i.esize = q.size ∧ P.underlying e = some d ∧ i.etype = e ∧ i.ebytes = q.bytes := by
  obtain ⟨q, d, h1, h2, hok, _, _, _, _, hlen, hes, het, heb, _, harr, hslc, _⟩ := TI.of_some hT
  cases d with
  | slice e =>
    simp only [okD, Bool.and_eq_true] at hok
    obtain ⟨q', hq'⟩ := Option.isSome_iff_exists.1 hok.1
    obtain ⟨d', hd'⟩ := Option.isSome_iff_exists.1 hok.2
    exact ⟨e, q', d', .inr ⟨hslc, h2⟩, hq', by rw [hes]; simp [elemD, cellsOf_eq hq'], hd', by rw [het]; rfl, by rw [heb]; simp [elemD, hq']⟩
  | array n e =>
    simp only [okD, Bool.and_eq_true] at hok
    obtain ⟨q', hq'⟩ := Option.isSome_iff_exists.1 hok.1
    obtain ⟨d', hd'⟩ := Option.isSome_iff_exists.1 hok.2
    simp only at hlen
    exact ⟨e, q', d', .inl ⟨harr, by rw [hlen]; exact h2⟩, hq', by rw [hes]; simp [elemD, cellsOf_eq hq'], hd', by rw [het]; rfl, by rw [heb]; simp [elemD, hq']⟩
  | _ => simp only at harr hslc; rw [harr, hslc] at ha; simp at ha
theorem slice_info {P : Program} {t : TypeId} {i : TI} (hT : TI.of P t = some i) (hs : i.slc = true) :
    ∃ e q d, P.underlying t = some (.slice e) ∧ P.info? e = some q ∧ i.esize = q.size ∧ P.underlying e = some d ∧ i.etype = e ∧ i.ebytes = q.bytes := by
  obtain ⟨e, q, d, hu, hr⟩ := elem_info hT (.inr hs)
  rcases hu with ⟨ha, hu⟩ | ⟨_, hu⟩
  · obtain ⟨q', d', _, h2, _, _, _, _, _, _, _, _, _, _, harr, hslc, _⟩ := TI.of_some hT
    rw [hu] at h2; cases h2; simp only at hslc; rw [hslc] at hs; cases hs
  · exact ⟨e, q, d, hu, hr⟩
theorem array_info {P : Program} {t : TypeId} {i : TI} (hT : TI.of P t = some i) (hs : i.arr = true) :
    ∃ e q d, P.underlying t = some (.array i.len e) ∧ P.info? e = some q ∧ i.esize = q.size ∧ P.underlying e = some d ∧ i.etype = e ∧ i.ebytes = q.bytes := by
  obtain ⟨e, q, d, hu, hr⟩ := elem_info hT (.inl hs)
  rcases hu with ⟨ha, hu⟩ | ⟨_, hu⟩
  · exact ⟨e, q, d, hu, hr⟩
  · obtain ⟨q', d', _, h2, _, _, _, _, _, _, _, _, _, _, harr, hslc, _⟩ := TI.of_some hT
    rw [hu] at h2; cases h2; simp only at harr; rw [harr] at hs; cases hs
theorem sim_indexAddr (h : Rel Γ s μ a w) (hd : ∀ t, o.dst = some t → t < Γ.n) {x ix : Operand} {t : TypeId} (ho : o.op = .indexAddr t x ix) {r : R} (hr : vIndexAddr s.H (TI.of Γ.P t) (eva s.t x) (eva s.t ix) = some r) : SimR Γ s μ a w o r := by
  have hx := eva_rep h x
  have hi := eva_rep h ix
  generalize eva s.t x = X at hr hx
  generalize eva s.t ix = I at hr hi
  generalize hT : TI.of Γ.P t = T at hr
  unfold vIndexAddr at hr
  split at hr
  · rename_i i k L kk n
    split at hr
    · rename_i hc
      obtain ⟨hk, hk0, hs, hn⟩ := hc
      cases hL : L[n.toNat]? with
      | none => rw [hL] at hr; cases hr
      | some cs =>
        rw [hL] at hr
        simp only [irefO] at hr
        cases val_inj hr
        have hlt := (List.getElem?_eq_some_iff.1 hL).1
        obtain ⟨e, q, d, hu', hq, hes, _⟩ := slice_info hT hs
        generalize hval : a.eval x = y at hx
        have ei := hi.int_inv
        cases hx with
        | sl _ _ _ a' c f hcc hm hkk hv hrr =>
          have hcs : cs.length = k := hkk cs (List.mem_of_getElem? hL)
          obtain ⟨g, off, rfl, _⟩ := hv n.toNat 0 hlt (by omega)
          refine simV h hd (x := .pointer (some ⟨g, off + n.toNat * k + 0, none⟩)) ?_ (.iref _ _ _ _ _ (f n.toNat) (fun j hj => ?_) (fun j x hj => hrr _ _ _ _ hL hj))
          · have hnl : n < (L.length : Int) := by omega
            have hk' : k = q.size := hk.trans hes
            simp only [execOp, ho, hval, ei, Instr.indexAt, asIntOf, Sem.run_bind, Sem.run_pure, Result.andThen_ok, run_underlying hu', Sem.run_ite, hn, hnl, and_self, if_true, run_sizeOf' hq, Addr.add_lit, Nat.add_zero, hk']
          · obtain ⟨g', off', e1, e2, e3, e4⟩ := hv n.toNat j hlt (by omega)
            cases e1
            exact ⟨_, _, rfl, e2, by rw [Nat.add_assoc]; exact e3, e4⟩
    · cases hr
  · rename_i i b m kk n
    split at hr
    · rename_i hc
      obtain ⟨hs, hn, hnm, hrow⟩ := hc
      obtain ⟨e, q, d, hu', hq, hes, _⟩ := slice_info hT hs
      generalize hval : a.eval x = y at hx
      have ei := hi.int_inv
      cases hx with
      | own _ _ _ e' sz L z hH hnn =>
        rw [hH] at hrow
        simp only [erow, beq_iff_eq] at hrow
        rcases h.hb b _ hH with hb | ⟨g, c, cur, e1, q1, q2, q3⟩ | ⟨q1, e1, sz1, z1, q2, q3⟩
        · cases hb
        · refine simF h hd (x := .pointer (some ⟨g, n.toNat * sz + 0, none⟩)) ?_ (.eref _ _ _ _ _ _ _ _ _ _ hH q1 (by omega)) hr
          rw [q1] at hval
          have hk' : sz = q.size := hrow.trans hes
          simp only [execOp, ho, hval, ei, sliceV, Instr.indexAt, asIntOf, Sem.run_bind, Sem.run_pure, Result.andThen_ok, run_underlying hu', Sem.run_ite, hn, hnm, and_self, if_true, run_sizeOf' hq, Addr.add_lit, Nat.add_zero, Nat.zero_add, hk']
        · cases q2
          simp at hnn
          omega
      | ownd _ _ _ _ hH _ =>
        rw [hH] at hrow
        simp [erow] at hrow
    · cases hr
  · rename_i i kk n hn1 hn2
    split at hr
    · rename_i hc
      obtain ⟨hs, hn, hnl⟩ := hc
      obtain ⟨e, q, d, hu', hq, hes, _⟩ := array_info hT hs
      have ei := hi.int_inv
      obtain ⟨g, p, y, fp, q1, rfl, q3⟩ := addO_rep h hx hr
      refine simV h hd (x := .pointer (some ⟨g, p + n.toNat * i.esize, none⟩)) ?_ q3
      simp only [execOp, ho, q1, ei, Instr.indexAt, asIntOf, Instr.sureAddr, Sem.run_bind, Sem.run_pure, Result.andThen_ok, run_underlying hu', Sem.run_ite, hn, hnl, and_self, if_true, run_sizeOf' hq, Addr.add_lit, hes]
    · cases hr
  · cases hr
/-- Cells loaded one by one, as a struct or as one value. -/
theorem run_loadV {P : Program} {t : TypeId} {d : TypeDesc} {q : TypeInfo} (hu : P.underlying t = some d) (hq : P.info? t = some q) {g p : Nat} {f : Nat → Value} (hf : ∀ j, j < (if isAggD d then q.size else 1) → w.cell? ⟨g, p + j, none⟩ = some (f j)) :
    (loadVar t ⟨g, p, none⟩).run P w = .ok (if isAggD d then .agg ((List.range q.size).map f).toArray else f 0) w := by
  simp only [loadVar, Sem.run_bind, run_isAgg' hu, Result.andThen_ok]
  cases hA : isAggD d
  · have := hf 0 (by simp [hA])
    simp only [Bool.false_eq_true, if_false, run_load]
    rw [Nat.add_zero] at this
    rw [this]
  · simp only [if_true, Sem.run_bind, run_sizeOf' hq, Result.andThen_ok]
    have := run_loadCells_list (P := P) w ⟨g, p, none⟩ ((List.range q.size).map f) (fun j v hv => by
      simp only [List.getElem?_map, Option.map_eq_some_iff] at hv
      obtain ⟨j', hj, rfl⟩ := hv
      have hlt := (List.getElem?_eq_some_iff.1 hj).1
      simp at hlt
      have : j' = j := by simpa [hlt] using hj.symm
      subst this
      rw [Addr.add_lit]
      exact hf _ (by simpa [hA] using hlt))
    simp only [List.length_map, List.length_range] at this
    rw [this]
    rfl
/-- What is loaded of known cells. -/
theorem ld_rep {P : Program} {t : TypeId} {i : TI} (hT : TI.of P t = some i) {M H} {cs : List AV} {o : Nat} {v : AV} (hv : ld i cs o = some v) {g off : Nat} {f : Nat → Value}
    (hc : ∀ j, j < cs.length → w.cell? ⟨g, off + j, none⟩ = some (f j) ∧ (f j).oneCell' = true) (hr : ∀ j x, cs[j]? = some x → Rep w M μ H x (f j)) :
    ∃ x, (loadVar t ⟨g, off + o, none⟩).run P w = .ok x w ∧ Rep w M μ H v x := by
  obtain ⟨q, d, h1, h2, _, hsz, hagg, _⟩ := TI.of_some hT
  unfold ld at hv
  rw [hagg, hsz] at hv
  cases hA : isAggD d
  · rw [hA] at hv
    simp only [Bool.false_eq_true, if_false] at hv
    have hl := (List.getElem?_eq_some_iff.1 hv).1
    refine ⟨f o, ?_, hr o v hv⟩
    have := run_loadV (P := P) (w := w) h2 h1 (g := g) (p := off + o) (f := fun j => f (o + j)) (fun j hj => by
      simp [hA] at hj
      subst hj
      exact (hc o hl).1)
    rw [this, hA]
    simp
  · rw [hA] at hv
    simp only [if_true] at hv
    split at hv
    · rename_i hl
      cases hv
      refine ⟨.agg ((List.range q.size).map fun j => f (o + j)).toArray, ?_, ?_⟩
      · have := run_loadV (P := P) (w := w) h2 h1 (g := g) (p := off + o) (f := fun j => f (o + j)) (fun j hj => by
          simp [hA] at hj
          rw [Nat.add_assoc]
          exact (hc (o + j) (by omega)).1)
        rw [this, hA]
        simp
      · refine .agg _ _ _ (fun j => f (o + j)) (by simp; omega) ?_ ?_
        · intro j hj
          have hjq : j < q.size := by rw [List.length_take] at hj; exact Nat.lt_of_lt_of_le hj (Nat.min_le_left _ _)
          refine ⟨by simp [hjq], (hc (o + j) (by omega)).2⟩
        · intro j c hj
          rw [List.getElem?_take] at hj
          split at hj
          · rw [List.getElem?_drop] at hj
            exact hr _ _ hj
          · cases hj
    · cases hv
end
end Go.Proofs.Ytebflegkdfhoaaa.AE
