/-
  A plain machine for the code of functions, and its soundness: part AE15. Conditions: none; every lemma names its own.
-/
import Derived.Test.YtebflegkdfhoaaaAEh2
namespace Go.Proofs.Ytebflegkdfhoaaa.AE
open Go Go.RowKit
set_option linter.unusedVariables false
/-! ## Calls -/
def noLay : Lay := fun _ => none
/-- What a call hands back. -/
def RRep (w w' : World) (Mx : Nat → Prop) : AV → Value → Prop
  | .frs e sz L, v => ∃ (g c : Nat) (cur : Array Value), v = .slice (some ⟨g, 0, none⟩) L.length c ∧ w.heap.size ≤ g ∧ w'.heap[g]? = some (.cells cur e (0, 0)) ∧ BoxC w' (fun k => Mx k ∨ k = g) noLay noH cur e c (.row e sz L false)
  | r, v => Rep w' Mx noLay noH r v
/-- How a call ends. -/
def CPost (w : World) (Mx : Nat → Prop) (r : AV) (e : Ending) (w' : World) : Prop :=
  Below w.heap.size w w' ∧ ((∃ p x, r = .pnc p ∧ e = .panicked [{ v := x, recovered := false }] ∧ Rep w' Mx noLay noH p x) ∨ ((∀ p, r ≠ .pnc p) ∧ ∃ v, e = .returned v ∧ RRep w w' Mx r v))
/-- A function does what is told of it, whenever something is; all memory that was there stays. -/
def Sound (P : Program) (f : FuncId) (S : Spec) : Prop :=
  ∀ (args : List AV) (r : AV), S args = some r → ∀ (w : World) (Mx : Nat → Prop) (vals : Array Value), (∀ g, Mx g → g < w.heap.size) → vals.size = args.length → (∀ i v, args[i]? = some v → Rep w Mx noLay noH v (vals.getD i undef)) → Calls P f vals w (CPost w Mx r)
/-- Is it a function with a body of its own? -/
def entersB (P : Program) (f : FuncId) : Bool := match P.funcs[f]? with
  | some fn => fn.name != "runtime.NumGoroutine" && fn.body.isSome
  | none => false
/-- A contract holds. -/
def ConOK (P : Program) (g : FuncId) : Con → Prop
  | .p S => Sound P g S
  | .h S => HSound P g S
  | .v S => HSound P g S
def EnvOK (P : Program) (env : Env) : Prop := ∀ g c, env.lookup g = some c → entersB P g = true ∧ ConOK P g c
theorem EnvOK.nil (P : Program) : EnvOK P [] := fun g S h => by simp at h
theorem EnvOK.add {P : Program} {g : FuncId} {c : Con} {env : Env} (h1 : entersB P g = true) (h2 : ConOK P g c) (h : EnvOK P env) : EnvOK P ((g, c) :: env) := by
  intro g' S' h'
  by_cases e : g' = g
  · subst e
    simp [List.lookup] at h'
    subst h'
    exact ⟨h1, h2⟩
  · have : (g' == g) = false := by simpa using e
    simp only [List.lookup, this] at h'
    exact h g' S' h'
theorem EnvOK.cons {P : Program} {g : FuncId} {S : Spec} {env : Env} (h1 : entersB P g = true) (h2 : Sound P g S) (h : EnvOK P env) : EnvOK P ((g, .p S) :: env) := .add (c := .p S) h1 h2 h
theorem EnvOK.consH {P : Program} {g : FuncId} {S : HSpec} {env : Env} (h1 : entersB P g = true) (h2 : HSound P g S) (h : EnvOK P env) : EnvOK P ((g, .h S) :: env) := .add (c := .h S) h1 h2 h
theorem EnvOK.consV {P : Program} {g : FuncId} {S : HSpec} {env : Env} (h1 : entersB P g = true) (h2 : HSound P g S) (h : EnvOK P env) : EnvOK P ((g, .v S) :: env) := .add (c := .v S) h1 h2 h
theorem hnews_labB {b0 : Bid} : ∀ (l : List Box) (j : Nat) (H H1 : Heap), hnews H (labB b0 j l) = some H1 →
    (∀ (i : Nat) (x : Box), l[i]? = some x → H1 (b0.1, b0.2 + (j + i)) = some x ∧ H (b0.1, b0.2 + (j + i)) = none) ∧ (∀ b, (∀ i, i < l.length → b ≠ (b0.1, b0.2 + (j + i))) → H1 b = H b)
  | [], j, H, H1, h => by cases h; exact ⟨fun i x h => by simp at h, fun b _ => rfl⟩
  | x :: l, j, H, H1, h => by
    simp only [labB, hnews] at h
    split at h
    · rename_i hn
      obtain ⟨h1, h2⟩ := hnews_labB l (j + 1) _ H1 h
      have hself : H1 (b0.1, b0.2 + j) = some x := by
        rw [h2 _ fun i _ e => by simp at e; omega]
        simp [hput]
      refine ⟨fun i y hi => ?_, fun b hb => ?_⟩
      · cases i with
        | zero =>
          simp at hi
          subst hi
          exact ⟨hself, by simpa using hn⟩
        | succ i =>
          obtain ⟨q1, q2⟩ := h1 i y (by simpa using hi)
          rw [show j + 1 + i = j + (i + 1) by omega] at q1 q2
          refine ⟨q1, ?_⟩
          simp only [hput] at q2
          rw [if_neg (by simp)] at q2
          exact q2
      · rw [h2 b fun i hi => by rw [show j + 1 + i = j + (i + 1) by omega]; exact hb (i + 1) (by simp; omega)]
        simp only [hput]
        rw [if_neg]
        have := hb 0 (by simp)
        simpa using this
    · cases h
theorem hputs_zip : ∀ (bs : List Bid) (l : List Box) (H : Heap), bs.Nodup → (∀ b, b ∉ bs → hputs H (bs.zip l) b = H b) ∧ (∀ (i : Nat) (b : Bid) (x : Box), bs[i]? = some b → l[i]? = some x → hputs H (bs.zip l) b = some x)
  | [], l, H, _ => ⟨fun b _ => rfl, fun i b x h => by simp at h⟩
  | c :: bs, [], H, _ => ⟨fun b _ => rfl, fun i b x _ h => by simp at h⟩
  | c :: bs, y :: l, H, hnd => by
    obtain ⟨h1, h2⟩ := hputs_zip bs l (hput H c y) (List.nodup_cons.1 hnd).2
    have hc := (List.nodup_cons.1 hnd).1
    refine ⟨fun b hb => ?_, fun i b x hb hx => ?_⟩
    · simp only [List.zip_cons_cons, hputs]
      rw [h1 b fun h => hb (List.mem_cons_of_mem _ h)]
      simp only [hput]
      rw [if_neg]
      rintro rfl
      exact hb (by simp)
    · simp only [List.zip_cons_cons, hputs]
      cases i with
      | zero =>
        simp at hb hx
        subst hb hx
        rw [h1 _ hc]
        simp [hput]
      | succ i => exact h2 i b x (by simpa using hb) (by simpa using hx)
theorem after_of {H H1 : Heap} {bs : List Bid} {b0 : Bid} {up nw : List Box} {f : AV → AV} (hbs : OkB H bs) (h1 : hnews H (labB b0 0 (nw.map (renB f))) = some H1) : After H bs b0 up nw f (hputs H1 (bs.zip (up.map (renB f)))) := by
  obtain ⟨q1, q2⟩ := hnews_labB _ _ _ _ h1
  obtain ⟨r1, r2⟩ := hputs_zip bs (up.map (renB f)) H1 hbs.nd
  simp only [Nat.zero_add] at q1 q2
  refine ⟨fun i b x hb hx => r2 i b _ hb (by rw [List.getElem?_map, hx]; rfl), fun j x hx => ?_, fun b hb hn => ?_⟩
  · obtain ⟨t1, t2⟩ := q1 j (renB f x) (by rw [List.getElem?_map, hx]; rfl)
    refine ⟨?_, t2⟩
    rw [r1 _ fun hm => ?_]
    · exact t1
    · obtain ⟨y, hy, _⟩ := hbs.hot _ hm
      rw [t2] at hy; cases hy
  · rw [r1 b hb, q2 b fun i hi => hn i (by simpa using hi)]
section
variable {Γ : Ctx} {s : St} {μ : Lay} {a : Act} {w : World} {o : Oper}
theorem run_callFunc {P : Program} {f : FuncId} (h : entersB P f = true) (args : Array Value) : (callFunc f args).run P w = .ok (.enter f args) w := by
  unfold entersB at h
  cases hf : P.funcs[f]? with
  | none => rw [hf] at h; cases h
  | some fn =>
    rw [hf] at h
    simp only [Bool.and_eq_true, bne_iff_ne, ne_eq] at h
    have hb : fn.body.isNone = false := by cases hh : fn.body <;> simp_all
    have hn : (fn.name == "runtime.NumGoroutine") = false := by simpa using h.1
    simp only [callFunc, Sem.run_bind, run_program, Result.andThen_ok, hf, hn, hb, Bool.false_eq_true, if_false, Sem.run_pure]
theorem light_rep {M M' H H' μ' μ''} {w' : World} {v : AV} {x : Value} (h : Rep w' M μ' H v x) (hl : light v = true) : Rep w' M' μ'' H' v x := by
  cases h with
  | int => exact .int _ _ _
  | bool => exact .bool _ _
  | str => exact .str _ _
  | nils => exact .nils _
  | nilp => exact .nilp _
  | nili => exact .nili _
  | sl _ k L a c f hc hm hk hv hr =>
    cases L with
    | nil => exact @Rep.sl w' M' μ'' H' k [] a c f hc hm hk (fun i j hi _ => by simp at hi) (fun i j cs x hi _ => by simp at hi)
    | cons => simp [light] at hl
  | _ => simp [light] at hl
theorem lightN_rep {w : World} {M M' : Nat → Prop} {μ : Lay} {H : Heap} : ∀ (d : Nat) {v : AV} {x : Value}, Rep w M μ H v x → lightN d v = true → (∀ b, H b ≠ none → b.1 = 2 ∨ b.1 = 1) → Rep w M' μ H v x := by
  intro d
  induction d with
  | zero => intro v x h hl _; exact light_rep h hl
  | succ d ih =>
    intro v x h hl hH
    cases v with
    | own b n =>
      cases h with
      | own _ _ _ e sz L z hb hn => exact .own _ _ _ e sz L z hb hn
      | ownd _ _ _ _ hb h1 => exact .ownd _ _ _ _ hb h1
    | ref b n => cases h with | ref _ _ _ cs g c hb hμ => exact .ref _ _ _ _ _ c hb hμ
    | agg cs => cases h with | agg _ _ vs f hs hv hr => exact .agg _ _ _ f hs hv fun i c hc => ih (hr i c hc) (List.all_eq_true.1 hl c (List.mem_of_getElem? hc)) hH
    | fn g cs => cases h with | fn _ _ _ vs f hs hv hr => exact .fn _ _ _ _ f hs hv fun i c hc => ih (hr i c hc) (List.all_eq_true.1 hl c (List.mem_of_getElem? hc)) hH
    | tup cs => cases h with | tup _ _ vs f hs hv hr => exact .tup _ _ _ f hs hv fun i c hc => ih (hr i c hc) (List.all_eq_true.1 hl c (List.mem_of_getElem? hc)) hH
    | ifc t v => cases h with | ifc _ _ _ y hr => exact .ifc _ _ _ _ (ih hr hl hH)
    | pnc v => cases h
    | _ => exact light_rep h hl
theorem lightA_rep {M M' H H' μ' μ''} {w' : World} {v : AV} {x : Value} (h : Rep w' M μ' H v x) (hl : lightA v = true) : Rep w' M' μ'' H' v x := by
  cases v with
  | agg cs =>
    have h' := h
    cases h with
    | agg _ _ vs f hs hv hr => exact .agg _ _ _ f hs hv fun i c hc => light_rep (hr i c hc) (List.all_eq_true.1 hl c (List.mem_of_getElem? hc))
  | _ => exact light_rep h hl
theorem lightR_rep {M M' H H' μ' μ''} {w' : World} {v : AV} {x : Value} (h : Rep w' M μ' H v x) (hl : lightR v = true) : Rep w' M' μ'' H' v x := by
  cases v with
  | tup vs =>
    cases h with
    | tup _ _ ys g hs hv hr => exact .tup _ _ _ g hs hv fun i c hc => lightA_rep (hr i c hc) (List.all_eq_true.1 hl c (List.mem_of_getElem? hc))
  | frs e sz L => cases h
  | pnc v => cases h
  | _ => exact lightA_rep h hl
theorem mem_light {P : Program} {w w' : World} {Mx : Nat → Prop} {pin : Nat → Option (Nat × Nat)} {hr : HR} {μ : Lay} (hm : Mem ⟨P, w, fun _ => False, 0, fun _ => none, []⟩ (hE hr) μ w') (hpin : ∀ i, pin i = none) (hl : lightH hr = true) (hup : hr.up = []) (hMx : ∀ g, Mx g → g < w.heap.size) :
    Mem ⟨P, w, Mx, 0, pin, []⟩ (hE hr) μ w' := by
  have hio : ∀ g, ¬ (⟨P, w, Mx, 0, pin, []⟩ : Ctx).io g := by rintro g ⟨i, c, h⟩; simp only [hpin] at h; cases h
  have hio0 : ∀ g, ¬ (⟨P, w, fun _ => False, 0, fun _ => none, []⟩ : Ctx).io g := by rintro g ⟨i, c, h⟩; cases h
  simp only [lightH, Bool.and_eq_true] at hl
  have hid : ∀ b, hE hr b ≠ none → b.1 = 2 ∨ b.1 = 1 := by
    rintro ⟨k, i⟩ hb
    by_cases h1 : k = 1
    · exact .inr h1
    · by_cases h2 : k = 2
      · exact .inl h2
      · exact absurd (hE_ne hr k i h1 h2) hb
  refine ⟨fun g hg => ⟨hMx g hg, hio g⟩, fun b x hb => ?_, hm.hi, fun b x g c h1 h2 h3 => (hm.hf b x g c h1 h2 h3).imp_right fun h => (hio0 g h).elim, ?_, fun i x h1 h2 => ?_⟩
  · rcases hm.hb b x hb with rfl | ⟨g, c, cur, e, q1, q2, q3⟩ | q
    · exact .inl rfl
    · refine .inr (.inl ⟨g, c, cur, e, q1, q2, ?_⟩)
      have hx : lightB x = true := by
        obtain ⟨k, i⟩ := b
        by_cases h1 : k = 1
        · subst h1; rw [hE_one, hup] at hb; simp at hb
        · by_cases h2 : k = 2
          · subst h2; rw [hE_two] at hb; exact List.all_eq_true.1 hl.2 x (List.mem_of_getElem? hb)
          · rw [hE_ne _ _ _ h1 h2] at hb; cases hb
      cases x with
      | obj cs =>
        refine ⟨q3.1, fun i v hv => ?_⟩
        obtain ⟨u, u1, u2, u3⟩ := q3.2 i v hv
        exact ⟨u, u1, u2, lightN_rep 4 u3 (List.all_eq_true.1 hx v (List.mem_of_getElem? hv)) hid⟩
      | row e' sz L z =>
        obtain ⟨p1, p2, p3, p4, p5, p6, p7⟩ := q3
        refine ⟨p1, p2, p3, p4, p5, p6, fun i j xs y hi hj => ?_⟩
        obtain ⟨u, u1, u2, u3⟩ := p7 i j xs y hi hj
        exact ⟨u, u1, u2, light_rep u3 (List.all_eq_true.1 (List.all_eq_true.1 hx xs (List.mem_of_getElem? hi)) y (List.mem_of_getElem? hj))⟩
      | dead => exact q3.elim
    · exact .inr (.inr q)
  · exact ⟨hm.hw.os, hm.hw.tape, hm.hw.output, hm.hw.size, fun k hk _ => hm.hw.block k hk (hio0 k)⟩
  · rw [hE_one, hup] at h1
    simp at h1
theorem hputs_congr {b : Bid} : ∀ (l : List (Bid × Box)) {H H' : Heap}, H b = H' b → hputs H l b = hputs H' l b
  | [], H, H', h => h
  | (c, x) :: l, H, H', h => by
    simp only [hputs]
    refine hputs_congr l ?_
    simp only [hput]
    split <;> first | rfl | exact h
/-- The values handed to a callee. -/
theorem getD_args {args : Array Operand} {caps : Array Value} (f : Operand → Value) (i : Nat) : ((args.map f) ++ caps).getD i undef = if h : i < args.size then f args[i] else caps.getD (i - args.size) undef := by
  simp only [Array.getD_eq_getD_getElem?, Array.getElem?_append, Array.size_map]
  by_cases h : i < args.size
  · simp [h]
  · simp [h]
theorem sim_call (h : Rel Γ s μ a w) (hd : ∀ t, o.dst = some t → t < Γ.n) {env : Env} (henv : EnvOK Γ.P env) {f : Operand} {args : Array Operand} {ts : Array TypeId} (ho : o.op = .call ⟨.value f, args, ts⟩) {r : R}
    (hr : vCall (nid o.dst) s.H env (eva s.t f) (args.toList.map (eva s.t)) = some r) : SimR Γ s μ a w o r := by
  have hf := eva_rep h f
  cases hF : eva s.t f <;> rw [hF] at hr hf <;> simp only [vCall] at hr <;> try (cases hr; done)
  rename_i g caps
  cases hS : env.lookup g with
  | none => rw [hS] at hr; simp [callS] at hr
  | some S =>
    rw [hS] at hr
    obtain ⟨hent, hsound⟩ := henv g S hS
    generalize hfv : a.eval f = fv at hf
    cases hf with
    | fn _ _ _ vs gg hs hv hrr =>
      -- the arguments, one by one
      have hargs : ∀ i v, (args.toList.map (eva s.t) ++ caps)[i]? = some v → Rep w (forb Γ.Mx μ s.H) μ s.H v (((args.map a.eval) ++ vs).getD i undef) := by
        intro i v hi
        rw [getD_args]
        by_cases hlt : i < args.size
        · rw [List.getElem?_append_left (by simpa using hlt), List.getElem?_map] at hi
          simp only [Array.getElem?_toList, Array.getElem?_eq_getElem hlt, Option.map_some, Option.some.injEq] at hi
          rw [dif_pos hlt, ← hi]
          exact eva_rep h _
        · rw [List.getElem?_append_right (by simpa using hlt)] at hi
          simp only [List.length_map, Array.length_toList] at hi
          have hl := (List.getElem?_eq_some_iff.1 hi).1
          rw [dif_neg hlt]
          have : vs.getD (i - args.size) undef = gg (i - args.size) := by simp [Array.getD_eq_getD_getElem?, hv _ hl]
          rw [this]
          exact hrr _ _ hi
      have hsz : ((args.map a.eval) ++ vs).size = (args.toList.map (eva s.t) ++ caps).length := by simp [hs]
      have hrun : (execOp a.eval o).run Γ.P w = .ok (.enter g ((args.map a.eval) ++ vs)) w := by
        simp only [execOp, ho, resolve, hfv, Deferred.ofValue, invoke, Sem.run_bind, Sem.run_pure, Result.andThen_ok, Array.empty_append, run_callFunc hent]
      cases S with
      | p S =>
        simp only [callS] at hr
        simp only [ConOK] at hsound
        cases hrS : S ((args.toList.map (eva s.t) ++ caps).map (view s.H 3)) with
        | none => rw [hrS] at hr; simp [callR] at hr
        | some rv =>
          rw [hrS] at hr
          -- the end, whichever way the callee was told the rows
          have fin : ∀ (Mx : Nat → Prop) (H' : Heap) (up : List (Bid × Box)), H' = hputs s.H up → (∀ b, s.H b = none → ∀ p ∈ up, p.1 ≠ b) → Rel Γ ⟨s.t, H'⟩ μ a w → (∀ g, Mx g → g < w.heap.size) →
              (∀ i v, ((args.toList.map (eva s.t) ++ caps).map (view s.H 3))[i]? = some v → Rep w Mx noLay noH v (((args.map a.eval) ++ vs).getD i undef)) →
              (∀ w' v x, Below w.heap.size w w' → (∀ p, rv ≠ .pnc p) → (∀ e sz L, rv ≠ .frs e sz L) → v = rv → Rep w' Mx noLay noH v x → Rep w' (forb Γ.Mx μ H') μ H' v x) →
              (∀ w' p x, rv = .pnc p → Below w.heap.size w w' → Rep w' Mx noLay noH p x → Rep w' (forb Γ.Mx μ H') μ H' p x) →
              (∀ w' e sz L v x g, rv = .frs e sz L → (∃ xs ∈ L, v ∈ xs) → Rep w' (fun k => Mx k ∨ k = g) noLay noH v x → ∀ M, (∀ k, k ≠ g → ¬ forb Γ.Mx μ H' k → ¬ M k) → ∀ μ', Rep w' M μ' noH v x) →
              r = took (nid o.dst) up rv → SimR Γ s μ a w o r := by
            intro Mx H' up hH' hup hR hMx hvals hplain hpnc hfrs hrr
            intro H1 hH1 K Q hK hQ
            have hc := hsound _ rv hrS w Mx _ hMx (by rw [hsz]; simp) hvals
            unfold Oper.wp
            rw [hrun]
            simp only [Oper.upon]
            refine hc.mono fun e w' he => ?_
            obtain ⟨hbel, hpost⟩ := he
            rcases hpost with ⟨p, x, rfl, rfl, hp⟩ | ⟨hnp, v, rfl, hv⟩
            · subst hrr
              simp only [took, AE.hnews, Option.some.injEq] at hH1
              subst hH1
              refine hQ p rfl x μ w' ?_ ?_
              · rw [show (took (nid o.dst) up (.pnc p)).up = up from rfl, ← hH']
                exact hR.grow hbel
              · rw [show (took (nid o.dst) up (.pnc p)).up = up from rfl, ← hH']
                exact hpnc w' p x rfl hbel hp
            · by_cases hfr : ∃ e sz L, rv = .frs e sz L
              · obtain ⟨e, sz, L, rfl⟩ := hfr
                subst hrr
                obtain ⟨g', c, cur, rfl, hge, hcell, hbox⟩ := hv
                simp only [took, AE.hnews] at hH1
                split at hH1
                · rename_i hn
                  cases hH1
                  have hn' : s.H (nid o.dst) = none := by simpa using hn
                  have hHn : H' (nid o.dst) = none := by rw [hH', hputs_at _ _ (hup _ hn')]; exact hn'
                  refine hK rfl (lput μ (nid o.dst) (some (g', c))) _ _ ?_
                  have hst : hputs (hput s.H (nid o.dst) (.row e sz L false)) up = hput H' (nid o.dst) (.row e sz L false) := by rw [hputs_out _ _ (hup _ hn'), hH']
                  simp only [took]
                  rw [hst]
                  obtain ⟨_, c1, c2, c3, c4, c5, c6⟩ := hbox
                  have hRn := hR.newbox hHn rfl hbel hge hcell (c := c) (x := .row e sz L false) (fun M μ' H'' hM hle hμ' => ⟨rfl, c1, c2, c3, c4, c5, fun i j xs y hi hj => by
                    obtain ⟨uu, u1, u2, u3⟩ := c6 i j xs y hi hj
                    refine ⟨uu, u1, u2, ?_⟩
                    by_cases hlt : True
                    · exact (hfrs w' e sz L y uu g' rfl ⟨xs, List.mem_of_getElem? hi, List.mem_of_getElem? hj⟩ u3 (fun k => M k ∧ k < w'.heap.size) (fun k hk hf hh => hM k hh.2 hk hf hh.1) noLay).mono (fun k hk hh => ⟨fun hm => hh ⟨hm, hk⟩, rfl⟩) (HLe.refl _) (fun b hb => absurd rfl hb)
                    · exact absurd trivial hlt⟩)
                  refine hRn.put hd ?_
                  have := @Rep.own w' (forb Γ.Mx (lput μ (nid o.dst) (some (g', c))) (hput H' (nid o.dst) (.row e sz L false))) (lput μ (nid o.dst) (some (g', c))) (hput H' (nid o.dst) (.row e sz L false)) (nid o.dst) L.length _ _ _ _ (hput_same _ _ _) (Nat.le_refl _)
                  simpa [lput, sliceV] using this
                · cases hH1
              · have hnf : ∀ e sz L, rv ≠ .frs e sz L := fun e sz L he => hfr ⟨e, sz, L, he⟩
                have hv' : Rep w' Mx noLay noH rv v := by cases rv <;> first | exact hv | exact absurd rfl (hnf _ _ _)
                have htook : took (nid o.dst) up rv = ⟨rv, [], up, [], none⟩ := by cases rv <;> first | rfl | exact absurd rfl (hnf _ _ _) | exact absurd rfl (hnp _)
                rw [htook] at hrr
                subst hrr
                simp only [AE.hnews, Option.some.injEq] at hH1
                subst hH1
                refine hK rfl μ _ _ ?_
                simp only []
                rw [← hH']
                exact (hR.grow hbel).put hd (hplain w' rv v hbel hnp hnf rfl hv')
          simp only [callR] at hr
          split at hr
          · rename_i hl
            cases hr
            refine fin (fun _ => False) s.H [] rfl (by simp) h (fun g hg => hg.elim) ?_ ?_ ?_ ?_ rfl
            · intro i v hi
              rw [List.getElem?_map, Option.map_eq_some_iff] at hi
              obtain ⟨v', hv', rfl⟩ := hi
              exact view_rep h 3 v' _ (hargs i v' hv') noLay noH
            · intro w' v x _ h1 h2 hvv hx
              subst hvv
              exact lightR_rep hx hl
            · intro w' p x hp _ hx
              subst hp
              obtain ⟨t, v, rfl, hl⟩ : ∃ t v, p = .ifc t v ∧ lightA v = true := by cases p <;> first | exact ⟨_, _, rfl, hl⟩ | (simp [lightR, lightA, light] at hl)
              cases hx with
              | ifc _ _ _ y hr => exact .ifc _ _ _ _ (lightA_rep hr hl)
            · intro w' e sz L v x g he hmem hx M _ μ'
              subst he
              obtain ⟨xs, hxs, hvx⟩ := hmem
              simp only [lightR, List.all_eq_true] at hl
              exact light_rep hx (hl xs hxs v hvx)
          · split at hr
            · rename_i hp
              cases hr
              obtain ⟨H', hH', hR', hrep⟩ := frz_rep h 2 hp
              refine fin (forb Γ.Mx μ H') H' _ hH' (fun b hb => frzs_ids hb _) hR' (fun g hg => ?_) ?_ ?_ ?_ ?_ rfl
              · rcases hg with hg | ⟨b, y, c, q1, q2, q3⟩
                · exact Nat.lt_of_lt_of_le (h.hx g hg).1 h.hw.size
                · exact hR'.lt q1 (hot_live q2) q3
              · intro i v hi
                rw [List.getElem?_map, Option.map_eq_some_iff] at hi
                obtain ⟨v', hv', rfl⟩ := hi
                exact hrep v' _ (List.mem_of_getElem? hv') (hargs i v' hv') noLay noH
              · intro w' v x _ _ _ _ hx; exact hx.ofNo
              · intro w' p x _ _ hx; exact hx.ofNo
              · intro w' e sz L v x g _ _ hx M hM μ'
                exact hx.mono (fun k hk hh => ⟨fun hm => hh (by
                  by_cases hkg : k = g
                  · exact .inr hkg
                  · by_cases hf : forb Γ.Mx μ H' k
                    · exact .inl hf
                    · exact absurd hm (hM k hkg hf)), rfl⟩) (HLe.refl _) (fun b hb => absurd rfl hb)
            · cases hr
      | h S =>
        simp only [callS, runH] at hr
        simp only [ConOK] at hsound
        have hbs : OkB s.H ((args.toList.map (eva s.t) ++ caps).foldl (coll s.H 6) []) := foldl_ok (fun acc v => coll_ok 6 acc v) _ _ (OkB.nil _)
        generalize hbl : (args.toList.map (eva s.t) ++ caps).foldl (coll s.H 6) [] = bs at hr hbs
        cases hrS : S ((args.toList.map (eva s.t) ++ caps).map (told s.H bs 5)) (boxC s.H bs) with
        | none => rw [show (bs.map fun b => renB (told s.H bs 5) ((s.H b).getD .dead)) = boxC s.H bs from rfl, hrS] at hr; simp [callH] at hr
        | some hv =>
          rw [show (bs.map fun b => renB (told s.H bs 5) ((s.H b).getD .dead)) = boxC s.H bs from rfl, hrS] at hr
          obtain ⟨hgo, hs2⟩ := hsound _ _ hv hrS
          have hc := hs2 w (MxC Γ s.H μ bs) (pinC bs μ) ((args.map a.eval) ++ vs) (layC bs μ) ⟨start_mem h hbs, by rw [hsz]; simp, fun i v hi => by
            rw [List.getElem?_map, Option.map_eq_some_iff] at hi
            obtain ⟨v', hv', rfl⟩ := hi
            exact told_rep h hbs 5 v' _ (hargs i v' hv'), fun x hx => by
            obtain ⟨i, hi⟩ := List.mem_iff_getElem?.1 hx
            obtain ⟨b, y, _, _, q, rfl⟩ := boxC_at hbs hi
            rw [renB_hot]; exact q⟩ (fun i hi => by
            have : bs.length ≤ i := by simpa [boxC] using hi
            simp [pinC, List.getElem?_eq_none this])
          have hup : r.nw = labB (nid o.dst) 0 (hv.nw.map (renB (back bs (nid o.dst) 5))) ∧ r.up = bs.zip (hv.up.map (renB (back bs (nid o.dst) 5))) ∧ ((∃ p, hv.v = .pnc p ∧ r.pan = some (back bs (nid o.dst) 5 p)) ∨ ((∀ p, hv.v ≠ .pnc p) ∧ r.pan = none ∧ r.v = back bs (nid o.dst) 5 hv.v)) := by
            obtain ⟨v, up, nw⟩ := hv
            cases v <;> simp only [callH, Option.some.injEq] at hr <;> subst hr <;> refine ⟨rfl, rfl, ?_⟩ <;> first | exact .inl ⟨_, rfl, rfl⟩ | exact .inr ⟨(by simp), rfl, rfl⟩
          obtain ⟨hu1, hu2, hu3⟩ := hup
          intro H1 hH1 K Q hK hQ
          rw [hu1] at hH1
          have hA := after_of (up := hv.up) hbs hH1
          rw [← hu2] at hA
          unfold Oper.wp
          rw [hrun]
          simp only [Oper.upon]
          refine hc.mono fun e w' he => ?_
          obtain ⟨μ', hm, hpost⟩ := he
          obtain ⟨μ'', hR, hback⟩ := end_rel h hbs hgo (b0 := nid o.dst) rfl hm hA
          rcases hu3 with ⟨p, hp, hpan⟩ | ⟨hnp, hpan, hvv⟩
          · rcases hpost with ⟨p', x, q1, rfl, q2⟩ | ⟨q1, _⟩
            · rw [hp] at q1; cases q1
              exact hQ _ hpan x μ'' w' hR (hback 5 p x q2)
            · exact absurd hp (q1 p)
          · rcases hpost with ⟨p', x, q1, _⟩ | ⟨q1, v, rfl, q2⟩
            · exact absurd q1 (hnp p')
            · refine hK hpan μ'' _ _ ?_
              rw [hvv]
              exact hR.put hd (hback 5 hv.v v q2)
      | v S =>
        simp only [callS] at hr
        simp only [ConOK] at hsound
        cases hrS : S ((args.toList.map (eva s.t) ++ caps).map (view s.H 3)) [] with
        | none => rw [hrS] at hr; simp [callV] at hr
        | some hv =>
          rw [hrS] at hr
          obtain ⟨hgo, hs2⟩ := hsound _ _ hv hrS
          have hup : hv.up = [] := by
            have := (goOns_at hgo).1
            exact List.eq_nil_of_length_eq_zero (by simpa using this.symm)
          have hB0 : hB [] = noH := rfl
          -- the yield
          have yield : ∀ r0, callH (nid o.dst) [] (some hv) = some r0 → r0.nw = labB (nid o.dst) 0 (hv.nw.map (renB (back [] (nid o.dst) 5))) ∧ r0.up = [] ∧ ((∃ p, hv.v = .pnc p ∧ r0.pan = some (back [] (nid o.dst) 5 p)) ∨ ((∀ p, hv.v ≠ .pnc p) ∧ r0.pan = none ∧ r0.v = back [] (nid o.dst) 5 hv.v)) := by
            intro r0 h0
            obtain ⟨v, up, nw⟩ := hv
            cases v <;> simp only [callH, Option.some.injEq] at h0 <;> subst h0 <;> refine ⟨rfl, rfl, ?_⟩ <;> first | exact .inl ⟨_, rfl, rfl⟩ | exact .inr ⟨(by simp), rfl, rfl⟩
          -- the end
          have fin : ∀ (H' : Heap) (hR : Rel Γ ⟨s.t, H'⟩ μ a w), (∀ H1, hnews s.H r.nw = some H1 → After H' [] (nid o.dst) [] hv.nw (back [] (nid o.dst) 5) (hputs H1 r.up)) →
              ((∃ p, hv.v = .pnc p ∧ r.pan = some (back [] (nid o.dst) 5 p)) ∨ ((∀ p, hv.v ≠ .pnc p) ∧ r.pan = none ∧ r.v = back [] (nid o.dst) 5 hv.v)) →
              Calls Γ.P g ((args.map a.eval) ++ vs) w (fun e w' => ∃ μ', Mem ⟨Γ.P, w, MxC Γ H' μ [], 0, pinC [] μ, []⟩ (hE hv) μ' w' ∧ ((∃ p x, hv.v = .pnc p ∧ e = .panicked [{ v := x, recovered := false }] ∧ Rep w' (forb (MxC Γ H' μ []) μ' (hE hv)) μ' (hE hv) p x) ∨ ((∀ p, hv.v ≠ .pnc p) ∧ ∃ v, e = .returned v ∧ Rep w' (forb (MxC Γ H' μ []) μ' (hE hv)) μ' (hE hv) hv.v v))) → SimR Γ s μ a w o r := by
            intro H' hR hA hu3 hc H1 hH1 K Q hK hQ
            have hA := hA H1 hH1
            unfold Oper.wp
            rw [hrun]
            simp only [Oper.upon]
            refine hc.mono fun e w' he => ?_
            obtain ⟨μ', hm, hpost⟩ := he
            obtain ⟨μ'', hRR, hback⟩ := end_rel (hr := hv) hR (OkB.nil _) hgo (b0 := nid o.dst) rfl hm (by rw [hup]; exact hA)
            rcases hu3 with ⟨p, hp, hpan⟩ | ⟨hnp, hpan, hvv⟩
            · rcases hpost with ⟨p', x, q1, rfl, q2⟩ | ⟨q1, _⟩
              · rw [hp] at q1; cases q1
                exact hQ _ hpan x μ'' w' hRR (hback 5 p x q2)
              · exact absurd hp (q1 p)
            · rcases hpost with ⟨p', x, q1, _⟩ | ⟨q1, v, rfl, q2⟩
              · exact absurd q1 (hnp p')
              · refine hK hpan μ'' _ _ ?_
                rw [hvv]
                exact hRR.put hd (hback 5 hv.v v q2)
          simp only [callV] at hr
          split at hr
          · rename_i hl
            obtain ⟨y1, y2, y3⟩ := yield r hr
            refine fin s.H h (fun H1 hH1 => ?_) y3 ?_
            · rw [y1] at hH1
              rw [y2]
              exact after_of (up := []) (OkB.nil _) hH1
            · have hc := hs2 w (fun _ => False) (fun _ => none) ((args.map a.eval) ++ vs) noLay ⟨⟨fun g hg => hg.elim, fun b x hx => (by cases hx), fun b b' x x' g c c' hx => (by cases hx), fun b x g c hx => (by cases hx), BelowX.refl _ _ _, fun i x hx => (by cases hx)⟩, by rw [hsz]; simp, fun i v hi => by
                rw [List.getElem?_map, Option.map_eq_some_iff] at hi
                obtain ⟨v', hv', rfl⟩ := hi
                exact (view_rep h 3 v' _ (hargs i v' hv') noLay noH).mono (fun g _ hg => ⟨(fun hh => hh.elim hg fun ⟨b, x, c, hx, _⟩ => by cases hx), rfl⟩) (HLe.refl _) (fun b hb => absurd rfl hb), by simp⟩ (fun _ _ => rfl)
              refine hc.mono fun e w' he => ?_
              obtain ⟨μ', hm, hpost⟩ := he
              have hid : ∀ b, hE hv b ≠ none → b.1 = 2 ∨ b.1 = 1 := by
                rintro ⟨k, i⟩ hb
                by_cases h1 : k = 1
                · exact .inr h1
                · by_cases h2 : k = 2
                  · exact .inl h2
                  · exact absurd (hE_ne hv k i h1 h2) hb
              have hl1 : lightN 5 hv.v = true := by simp only [lightH, Bool.and_eq_true] at hl; exact hl.1
              refine ⟨μ', mem_light hm (fun i => by simp [pinC]) hl hup (fun g hg => ?_), ?_⟩
              · rcases hg.1 with hx | ⟨b, y, c, q1, q2, q3⟩
                · exact Nat.lt_of_lt_of_le (h.hx g hx).1 h.hw.size
                · exact h.lt q1 (hot_live q2) q3
              · rcases hpost with ⟨p, x, q1, q2, q3⟩ | ⟨q1, v, q2, q3⟩
                · rw [q1] at hl1
                  exact .inl ⟨p, x, q1, q2, lightN_rep 4 q3 hl1 hid⟩
                · exact .inr ⟨q1, v, q2, lightN_rep 5 q3 hl1 hid⟩
          · split at hr
            · rename_i hp
              cases h0 : callH (nid o.dst) [] (some hv) with
              | none => rw [h0] at hr; cases hr
              | some r0 =>
                rw [h0] at hr
                simp only [withUp, Option.some.injEq] at hr
                obtain ⟨y1, y2, y3⟩ := yield r0 h0
                obtain ⟨H', hH', hR', hrep⟩ := frz_rep h 2 hp
                subst hr
                refine fin H' hR' (fun H1 hH1 => ?_) y3 ?_
                · simp only at hH1 ⊢
                  rw [y1] at hH1
                  obtain ⟨q1, q2⟩ := hnews_labB _ _ _ _ hH1
                  simp only [Nat.zero_add] at q1 q2
                  refine ⟨fun i b x hb => by simp at hb, fun j x hx => ?_, fun b _ hn => ?_⟩
                  · obtain ⟨t1, t2⟩ := q1 j (renB (back [] (nid o.dst) 5) x) (by rw [List.getElem?_map, hx]; rfl)
                    rw [hputs_at _ _ (frzs_ids t2 _), hH', hputs_at _ _ (frzs_ids t2 _)]
                    exact ⟨t1, t2⟩
                  · rw [hH']
                    exact hputs_congr _ (q2 b fun i hi => hn i (by simpa using hi))
                · have hst := start_mem hR' (OkB.nil H')
                  refine (hs2 w (MxC Γ H' μ []) (pinC [] μ) ((args.map a.eval) ++ vs) (layC [] μ) ⟨hst, by rw [hsz]; simp, fun i v hi => ?_, by simp⟩ (fun i _ => by simp [pinC]))
                  rw [List.getElem?_map, Option.map_eq_some_iff] at hi
                  obtain ⟨v', hv', rfl⟩ := hi
                  exact (hrep v' _ (List.mem_of_getElem? hv') (hargs i v' hv') noLay noH).mono (fun g _ hg => ⟨fun hh => hg (forbC (s := ⟨s.t, H'⟩) (OkB.nil H') hh), rfl⟩) (HLe.noH _) (fun b hb => absurd rfl hb)
            · cases hr
end
end Go.Proofs.Ytebflegkdfhoaaa.AE
