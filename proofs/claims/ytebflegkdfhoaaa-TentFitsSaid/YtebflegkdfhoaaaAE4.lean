/-
  A plain machine for the code of functions, and its soundness: part AE4. Conditions: none; every lemma names its own.
-/
import Derived.Test.YtebflegkdfhoaaaAE3
namespace Go.Proofs.Ytebflegkdfhoaaa.AE
open Go Go.RowKit
set_option linter.unusedVariables false

/-! ## Types -/
theorem TI.of_some {P : Program} {t : TypeId} {i : TI} (h : TI.of P t = some i) : ∃ (q : TypeInfo) (d : TypeDesc), P.info? t = some q ∧ P.underlying t = some d ∧ okD P d = true ∧
    i.size = q.size ∧ i.agg = isAggD d ∧ i.zero = (match q.zero with | some z => if z.cells.all (·.oneCell') then z.cells.toList.map AE.cAV else [] | none => []) ∧ i.fields = fieldsD P d ∧
    i.len = (match d with | .array n _ => n | _ => 0) ∧ i.esize = (match elemD d with | some e => P.cellsOf e | none => 0) ∧ i.etype = (elemD d).getD 0 ∧
    i.ebytes = (match elemD d with | some e => ((P.info? e).map (·.bytes)).getD 0 | none => 0) ∧ i.kind = (match d with | .int k => some k | _ => none) ∧
    i.arr = (match d with | .array _ _ => true | _ => false) ∧ i.slc = (match d with | .slice _ => true | _ => false) ∧ i.ptr = (match d with | .pointer _ => true | _ => false) ∧
    i.kinds = (if P.eqGuardType P.depth t then none else kindsAt P 6 t) := by
  unfold TI.of at h
  split at h
  · rename_i q d h1 h2
    split at h
    · rename_i hk
      cases h
      exact ⟨q, d, h1, h2, hk, rfl, rfl, rfl, rfl, rfl, rfl, rfl, rfl, rfl, rfl, rfl, rfl, rfl⟩
    · cases h
  · cases h
section
variable {P : Program} {w : World}
theorem run_sizeOf' {t : TypeId} {q : TypeInfo} (h : P.info? t = some q) : (Go.sizeOf t).run P w = .ok q.size w := by
  simp [Go.sizeOf, typeInfo, h]
theorem cellsOf_eq {t : TypeId} {q : TypeInfo} (h : P.info? t = some q) : P.cellsOf t = q.size := by simp [Program.cellsOf, h]
theorem run_isAgg' {t : TypeId} {d : TypeDesc} (h : P.underlying t = some d) : (Go.isAgg t).run P w = .ok (isAggD d) w := by
  simp only [Go.isAgg, Sem.run_bind, run_underlying h, Result.andThen_ok]
  cases d <;> rfl
theorem run_zero' {t : TypeId} {q : TypeInfo} {z : Value} (h : P.info? t = some q) (hz : q.zero = some z) : (Go.zeroValue t).run P w = .ok z w := by
  simp [Go.zeroValue, typeInfo, h, hz]
theorem wp_value {o : Oper} {a : Act} {K : Act → World → Prop} {Q : Exit → Act → World → Prop} {x : Value} {w' : World} (h : (execOp a.eval o).run P w = .ok (.value x) w') (hK : K (a.put o.dst x) w') : o.wp P a w K Q := by
  unfold Oper.wp; rw [h]; exact hK
theorem wp_skipped {o : Oper} {a : Act} {K : Act → World → Prop} {Q : Exit → Act → World → Prop} {w' : World} (h : (execOp a.eval o).run P w = .ok .skip w') (hK : K (a.put o.dst undef) w') : o.wp P a w K Q := by
  unfold Oper.wp; rw [h]; exact hK
end

/-- One operation does what the plain machine says. -/
def SimR (Γ : Ctx) (s : St) (μ : Lay) (a : Act) (w : World) (o : Oper) (r : R) : Prop :=
  ∀ H1, hnews s.H r.nw = some H1 → ∀ (K : Act → World → Prop) (Q : Exit → Act → World → Prop),
    (r.pan = none → ∀ μ' a' w', Rel Γ ⟨tput s.t o.dst r.v, hputs H1 r.up⟩ μ' a' w' → K a' w') →
    (∀ v, r.pan = some v → ∀ x μ' w', Rel Γ ⟨s.t, hputs H1 r.up⟩ μ' a w' → Rep w' (forb Γ.Mx μ' (hputs H1 r.up)) μ' (hputs H1 r.up) v x → Q (.panic [{ v := x, recovered := false }]) a w') →
    o.wp Γ.P a w K Q
section
variable {Γ : Ctx} {s : St} {μ : Lay} {a : Act} {w : World} {o : Oper}
theorem simV (h : Rel Γ s μ a w) (hd : ∀ t, o.dst = some t → t < Γ.n) {v : AV} {x : Value} {fp : List Bid} (hrun : (execOp a.eval o).run Γ.P w = .ok (.value x) w) (hv : Rep w (forb Γ.Mx μ s.H) μ s.H v x) : SimR Γ s μ a w o ⟨v, [], [], fp, none⟩ := by
  intro H1 hH K Q hK _
  simp only [hnews, Option.some.injEq] at hH
  subst hH
  exact wp_value hrun (hK rfl μ _ _ (h.put hd hv))
theorem Rep.int_inv {M H k n x} (h : Rep w M μ H (.int k n) x) : x = .int k n := by cases h; rfl
theorem Rep.bool_inv {M H b x} (h : Rep w M μ H (.bool b) x) : x = .bool b := by cases h; rfl
theorem Rep.str_inv {M H b x} (h : Rep w M μ H (.str b) x) : x = .string b := by cases h; rfl
theorem Rep.nils_inv {M H x} (h : Rep w M μ H .nils x) : x = .slice none 0 0 := by cases h; rfl
theorem Rep.nilp_inv {M H x} (h : Rep w M μ H .nilp x) : x = .pointer none := by cases h; rfl
theorem sim_move (h : Rel Γ s μ a w) (hd : ∀ t, o.dst = some t → t < Γ.n) {x : Operand} (ho : o.op = .move x) : SimR Γ s μ a w o ⟨eva s.t x, [], [], [], none⟩ :=
  simV h hd (x := a.eval x) (by simp [execOp, ho]) (eva_rep h x)
theorem sim_assign (h : Rel Γ s μ a w) (hd : ∀ t, o.dst = some t → t < Γ.n) {x : Operand} (ho : o.op = .assign x) : SimR Γ s μ a w o ⟨eva s.t x, [], [], [], none⟩ :=
  simV h hd (x := a.eval x) (by simp [execOp, ho]) (eva_rep h x)
theorem val_inj {v : AV} {r : R} (h : val v = some r) : r = ⟨v, [], [], [], none⟩ := by simpa [val, eq_comm] using h
theorem sim_pick (h : Rel Γ s μ a w) (hd : ∀ t, o.dst = some t → t < Γ.n) {c x y : Operand} (ho : o.op = .pick c x y) {r : R} (hr : vPick (eva s.t c) (eva s.t x) (eva s.t y) = some r) : SimR Γ s μ a w o r := by
  have hc := eva_rep h c
  cases hq : eva s.t c <;> rw [hq] at hr hc <;> simp only [vPick] at hr <;> try (cases hr; done)
  rename_i t
  cases val_inj hr
  have e := hc.bool_inv
  cases t
  · exact simV h hd (x := a.eval y) (by simp [execOp, ho, e, asBool]) (eva_rep h y)
  · exact simV h hd (x := a.eval x) (by simp [execOp, ho, e, asBool]) (eva_rep h x)
theorem sim_not (h : Rel Γ s μ a w) (hd : ∀ t, o.dst = some t → t < Γ.n) {x : Operand} {t : TypeId} (ho : o.op = .unOp .not t x) {r : R} (hr : vNot (eva s.t x) = some r) : SimR Γ s μ a w o r := by
  have hx := eva_rep h x
  cases hq : eva s.t x <;> rw [hq] at hr hx <;> simp only [vNot] at hr <;> try (cases hr; done)
  cases val_inj hr
  exact simV h hd (by simp [execOp, ho, hx.bool_inv, Op.unary]) (.bool _ _)
theorem sim_neg (h : Rel Γ s μ a w) (hd : ∀ t, o.dst = some t → t < Γ.n) {x : Operand} {t : TypeId} (ho : o.op = .unOp .neg t x) {r : R} (hr : vNeg (eva s.t x) = some r) : SimR Γ s μ a w o r := by
  have hx := eva_rep h x
  cases hq : eva s.t x <;> rw [hq] at hr hx <;> simp only [vNeg] at hr <;> try (cases hr; done)
  cases val_inj hr
  exact simV h hd (by simp [execOp, ho, hx.int_inv, Op.unary, Op.intArith]) (.int _ _ _)
theorem sim_conv (h : Rel Γ s μ a w) (hd : ∀ t, o.dst = some t → t < Γ.n) {x : Operand} {t t' : TypeId} (ho : o.op = .convert t t' x) {r : R} (hr : vConv (TI.of Γ.P t') (eva s.t x) = some r) (hs : (Γ.P.underlying t).isSome = true) : SimR Γ s μ a w o r := by
  have hx := eva_rep h x
  cases hT : TI.of Γ.P t' with
  | none => rw [hT] at hr; simp [vConv] at hr
  | some i =>
    obtain ⟨q, d, h1, h2, _, _, _, _, _, _, _, _, _, hkind, _⟩ := TI.of_some hT
    rw [hT] at hr
    cases hq : eva s.t x <;> rw [hq] at hr hx <;> simp only [vConv] at hr <;> try (cases hr; done)
    rename_i k n
    cases d <;> simp only at hkind <;> rw [hkind] at hr <;> simp only [convK] at hr <;> try (cases hr; done)
    cases val_inj hr
    obtain ⟨d1, hd1⟩ := Option.isSome_iff_exists.1 hs
    exact simV h hd (by simp [execOp, ho, hx.int_inv, convert, run_underlying h2, run_underlying hd1, Conv.intToInt]) (.int _ _ _)
theorem sim_extract (h : Rel Γ s μ a w) (hd : ∀ t, o.dst = some t → t < Γ.n) {x : Operand} {i : Nat} (ho : o.op = .extract x i) {r : R} (hr : vExtract i (eva s.t x) = some r) : SimR Γ s μ a w o r := by
  have hx := eva_rep h x
  cases hq : eva s.t x <;> rw [hq] at hr hx <;> simp only [vExtract] at hr <;> try (cases hr; done)
  rename_i xs
  cases hi : xs[i]? with
  | none => rw [hi] at hr; cases hr
  | some v =>
    rw [hi] at hr
    cases val_inj hr
    generalize hval : a.eval x = y at hx
    cases hx with
    | tup _ _ vs g hs hv hrr =>
      have hl : i < xs.length := (List.getElem?_eq_some_iff.1 hi).1
      exact simV h hd (x := g i) (by simp [execOp, ho, hval, Instr.extract, hv i hl]) (hrr i v hi)
theorem sim_nil (h : Rel Γ s μ a w) (hd : ∀ t, o.dst = some t → t < Γ.n) {x : Operand} (ho : o.op = .nilCheck x) {r : R} (hr : vNil (eva s.t x) = some r) : SimR Γ s μ a w o r := by
  have hx := eva_rep h x
  cases hq : eva s.t x <;> rw [hq] at hr hx <;> simp only [vNil] at hr <;> try (cases hr; done)
  · cases val_inj hr
    generalize hval : a.eval x = y at hx
    cases hx with
    | ref _ _ _ cs g c hH hμ => exact simV h hd (by simp [execOp, ho, hval]) (.ref _ _ _ cs g c hH hμ)
  · cases val_inj hr
    generalize hval : a.eval x = y at hx
    have hx' := hx
    cases hx with
    | iref _ cs o g off f hv hrr => exact simV h hd (by simp [execOp, ho, hval]) hx'
theorem sim_iface (h : Rel Γ s μ a w) (hd : ∀ t, o.dst = some t → t < Γ.n) {x : Operand} {t : TypeId} (ho : o.op = .makeInterface t x) {r : R} (hr : vIface t (eva s.t x) = some r) {d : TypeDesc} (hu : Γ.P.underlying t = some d) (hni : ∀ ms, d ≠ .interface ms) : SimR Γ s μ a w o r := by
  have hx := eva_rep h x
  have hr' : r = ⟨.ifc t (eva s.t x), [], [], [], none⟩ := by
    cases hq : eva s.t x <;> rw [hq] at hr <;> simp only [vIface] at hr <;> first | exact val_inj hr | (cases hr; done)
  subst hr'
  refine simV h hd (x := .iface t (a.eval x)) ?_ (.ifc _ _ _ _ hx)
  simp only [execOp, ho, Instr.makeInterface, Sem.run_bind, run_underlying hu, Result.andThen_ok]
  cases d <;> first | rfl | exact absurd rfl (hni _)
theorem sim_panic (h : Rel Γ s μ a w) {x : Operand} (ho : o.op = .panic x) {r : R} (hr : vPanic (eva s.t x) = some r) : SimR Γ s μ a w o r := by
  have hx := eva_rep h x
  cases hq : eva s.t x <;> rw [hq] at hr hx <;> simp only [vPanic] at hr <;> try (cases hr; done)
  rename_i t v
  cases hr
  intro H1 hH K Q _ hQ
  simp only [hnews, Option.some.injEq] at hH
  subst hH
  have := hQ _ rfl (a.eval x) μ w h hx
  generalize hval : a.eval x = y at hx this
  cases hx with
  | ifc _ _ _ x' hr =>
    unfold Oper.wp
    simp only [execOp, ho, hval, Instr.panic, Sem.run_bind, run_goPanic, Result.andThen]
    exact this
theorem sim_makeFunc (h : Rel Γ s μ a w) (hd : ∀ t, o.dst = some t → t < Γ.n) {f : FuncId} {caps : Array Operand} (ho : o.op = .makeFunc (.func f) #[] caps) : SimR Γ s μ a w o ⟨.fn f (caps.toList.map (eva s.t)), [], [], [], none⟩ := by
  refine simV h hd (x := .func (.func f) #[] (caps.map a.eval)) (by simp [execOp, ho, Instr.makeFunc]) (.fn _ _ _ _ (fun i => a.eval (caps.getD i (.tmp 0))) (by simp) ?_ ?_)
  · intro i hi
    simp at hi
    simp [hi]
  · intro i c hc
    simp only [List.getElem?_map, Option.map_eq_some_iff] at hc
    obtain ⟨x, hx, rfl⟩ := hc
    have : caps.getD i (.tmp 0) = x := by
      have h' : caps[i]? = some x := by simpa using hx
      simp [h']
    rw [this]
    exact eva_rep h x
end
end Go.Proofs.Ytebflegkdfhoaaa.AE
