/-
  A plain machine for the code of functions, and its soundness: part AE15. Conditions: none; every lemma names its own.
-/
import Derived.Test.YtikhhmdmmgkakaaAE14
namespace Go.Proofs.Ytikhhmdmmgkakaa.AE
open Go Go.RowKit
set_option linter.unusedVariables false
/-! ## Calls -/
def noLay : Lay := fun _ => none
/-- What a call hands back. -/
def RRep (w w' : World) (Mx : Nat → Prop) : AV → Value → Prop
  | .frs e sz L, v => ∃ (g c : Nat) (cur : Array Value), v = .slice (some ⟨g, 0, none⟩) L.length c ∧ w.heap.size ≤ g ∧ w'.heap[g]? = some (.cells cur e (0, 0)) ∧ BoxC w' (fun k => Mx k ∨ k = g) noLay noH cur e c (.row e sz L false)
  | r, v => Rep w' Mx noLay noH r v
/-- How a call ends. -/
def CPost (w : World) (Mx : Nat → Prop) (r : AV) (e : Ending) (w' : World) : Prop :=
  Below w.heap.size w w' ∧ ((∃ p x, r = .pnc p ∧ e = .panicked [{ v := x, recovered := false }] ∧ Rep w' Mx noLay noH p x) ∨ ((∀ p, r ≠ .pnc p) ∧ ∃ v, e = .returned v ∧ RRep w w' Mx r v))
/-- A function does what is told of it, whenever something is; all memory that was there stays. -/
def Sound (P : Program) (f : FuncId) (S : Spec) : Prop :=
  ∀ (args : List AV) (r : AV), S args = some r → ∀ (w : World) (Mx : Nat → Prop) (vals : Array Value), (∀ g, Mx g → g < w.heap.size) → vals.size = args.length → (∀ i v, args[i]? = some v → Rep w Mx noLay noH v (vals.getD i undef)) → Calls P f vals w (CPost w Mx r)
/-- Is it a function with a body of its own? -/
def entersB (P : Program) (f : FuncId) : Bool := match P.funcs[f]? with
  | some fn => fn.name != "runtime.NumGoroutine" && fn.body.isSome
  | none => false
def EnvOK (P : Program) (env : Env) : Prop := ∀ g S, env.lookup g = some S → entersB P g = true ∧ Sound P g S
theorem EnvOK.nil (P : Program) : EnvOK P [] := fun g S h => by simp at h
theorem EnvOK.cons {P : Program} {g : FuncId} {S : Spec} {env : Env} (h1 : entersB P g = true) (h2 : Sound P g S) (h : EnvOK P env) : EnvOK P ((g, S) :: env) := by
  intro g' S' h'
  by_cases e : g' = g
  · subst e
    simp [List.lookup] at h'
    subst h'
    exact ⟨h1, h2⟩
  · have : (g' == g) = false := by simpa using e
    simp only [List.lookup, this] at h'
    exact h g' S' h'
section
variable {Γ : Ctx} {s : St} {μ : Lay} {a : Act} {w : World} {o : Oper}
theorem run_callFunc {P : Program} {f : FuncId} (h : entersB P f = true) (args : Array Value) : (callFunc f args).run P w = .ok (.enter f args) w := by
  unfold entersB at h
  cases hf : P.funcs[f]? with
  | none => rw [hf] at h; cases h
  | some fn =>
    rw [hf] at h
    simp only [Bool.and_eq_true, bne_iff_ne, ne_eq] at h
    have hb : fn.body.isNone = false := by cases hh : fn.body <;> simp_all
    have hn : (fn.name == "runtime.NumGoroutine") = false := by simpa using h.1
    simp only [callFunc, Sem.run_bind, run_program, Result.andThen_ok, hf, hn, hb, Bool.false_eq_true, if_false, Sem.run_pure]
theorem light_rep {M M' H H' μ' μ''} {w' : World} {v : AV} {x : Value} (h : Rep w' M μ' H v x) (hl : light v = true) : Rep w' M' μ'' H' v x := by
  cases h with
  | int => exact .int _ _ _
  | bool => exact .bool _ _
  | str => exact .str _ _
  | nils => exact .nils _
  | nilp => exact .nilp _
  | nili => exact .nili _
  | sl _ k L a c f hc hm hk hv hr =>
    cases L with
    | nil => exact @Rep.sl w' M' μ'' H' k [] a c f hc hm hk (fun i j hi _ => by simp at hi) (fun i j cs x hi _ => by simp at hi)
    | cons => simp [light] at hl
  | _ => simp [light] at hl
theorem lightA_rep {M M' H H' μ' μ''} {w' : World} {v : AV} {x : Value} (h : Rep w' M μ' H v x) (hl : lightA v = true) : Rep w' M' μ'' H' v x := by
  cases v with
  | agg cs =>
    have h' := h
    cases h with
    | agg _ _ vs f hs hv hr => exact .agg _ _ _ f hs hv fun i c hc => light_rep (hr i c hc) (List.all_eq_true.1 hl c (List.mem_of_getElem? hc))
  | _ => exact light_rep h hl
theorem lightR_rep {M M' H H' μ' μ''} {w' : World} {v : AV} {x : Value} (h : Rep w' M μ' H v x) (hl : lightR v = true) : Rep w' M' μ'' H' v x := by
  cases v with
  | tup vs =>
    cases h with
    | tup _ _ ys g hs hv hr => exact .tup _ _ _ g hs hv fun i c hc => lightA_rep (hr i c hc) (List.all_eq_true.1 hl c (List.mem_of_getElem? hc))
  | frs e sz L => cases h
  | pnc v => cases h
  | _ => exact lightA_rep h hl
/-- The values handed to a callee. -/
theorem getD_args {args : Array Operand} {caps : Array Value} (f : Operand → Value) (i : Nat) : ((args.map f) ++ caps).getD i undef = if h : i < args.size then f args[i] else caps.getD (i - args.size) undef := by
  simp only [Array.getD_eq_getD_getElem?, Array.getElem?_append, Array.size_map]
  by_cases h : i < args.size
  · simp [h]
  · simp [h]
theorem sim_call (h : Rel Γ s μ a w) (hd : ∀ t, o.dst = some t → t < Γ.n) {env : Env} (henv : EnvOK Γ.P env) {f : Operand} {args : Array Operand} {ts : Array TypeId} (ho : o.op = .call ⟨.value f, args, ts⟩) {r : R}
    (hr : vCall (nid o.dst) s.H env (eva s.t f) (args.toList.map (eva s.t)) = some r) : SimR Γ s μ a w o r := by
  have hf := eva_rep h f
  cases hF : eva s.t f <;> rw [hF] at hr hf <;> simp only [vCall] at hr <;> try (cases hr; done)
  rename_i g caps
  cases hS : env.lookup g with
  | none => rw [hS] at hr; simp [callS] at hr
  | some S =>
    rw [hS] at hr
    simp only [callS] at hr
    obtain ⟨hent, hsound⟩ := henv g S hS
    generalize hfv : a.eval f = fv at hf
    cases hf with
    | fn _ _ _ vs gg hs hv hrr =>
      -- the arguments, one by one
      have hargs : ∀ i v, (args.toList.map (eva s.t) ++ caps)[i]? = some v → Rep w (forb Γ.Mx μ s.H) μ s.H v (((args.map a.eval) ++ vs).getD i undef) := by
        intro i v hi
        rw [getD_args]
        by_cases hlt : i < args.size
        · rw [List.getElem?_append_left (by simpa using hlt), List.getElem?_map] at hi
          simp only [Array.getElem?_toList, Array.getElem?_eq_getElem hlt, Option.map_some, Option.some.injEq] at hi
          rw [dif_pos hlt, ← hi]
          exact eva_rep h _
        · rw [List.getElem?_append_right (by simpa using hlt)] at hi
          simp only [List.length_map, Array.length_toList] at hi
          have hl := (List.getElem?_eq_some_iff.1 hi).1
          rw [dif_neg hlt]
          have : vs.getD (i - args.size) undef = gg (i - args.size) := by simp [Array.getD_eq_getD_getElem?, hv _ hl]
          rw [this]
          exact hrr _ _ hi
      have hsz : ((args.map a.eval) ++ vs).size = (args.toList.map (eva s.t) ++ caps).length := by simp [hs]
      have hrun : (execOp a.eval o).run Γ.P w = .ok (.enter g ((args.map a.eval) ++ vs)) w := by
        simp only [execOp, ho, resolve, hfv, Deferred.ofValue, invoke, Sem.run_bind, Sem.run_pure, Result.andThen_ok, Array.empty_append, run_callFunc hent]
      cases hrS : S ((args.toList.map (eva s.t) ++ caps).map (view s.H 3)) with
      | none => rw [hrS] at hr; simp [callR] at hr
      | some rv =>
        rw [hrS] at hr
        -- the end, whichever way the callee was told the rows
        have fin : ∀ (Mx : Nat → Prop) (H' : Heap) (up : List (Bid × Box)), H' = hputs s.H up → (∀ b, s.H b = none → ∀ p ∈ up, p.1 ≠ b) → Rel Γ ⟨s.t, H'⟩ μ a w → (∀ g, Mx g → g < w.heap.size) →
            (∀ i v, ((args.toList.map (eva s.t) ++ caps).map (view s.H 3))[i]? = some v → Rep w Mx noLay noH v (((args.map a.eval) ++ vs).getD i undef)) →
            (∀ w' v x, Below w.heap.size w w' → (∀ p, rv ≠ .pnc p) → (∀ e sz L, rv ≠ .frs e sz L) → v = rv → Rep w' Mx noLay noH v x → Rep w' (forb Γ.Mx μ H') μ H' v x) →
            (∀ w' p x, rv = .pnc p → Below w.heap.size w w' → Rep w' Mx noLay noH p x → Rep w' (forb Γ.Mx μ H') μ H' p x) →
            (∀ w' e sz L v x g, rv = .frs e sz L → (∃ xs ∈ L, v ∈ xs) → Rep w' (fun k => Mx k ∨ k = g) noLay noH v x → ∀ M, (∀ k, k ≠ g → ¬ forb Γ.Mx μ H' k → ¬ M k) → ∀ μ', Rep w' M μ' noH v x) →
            r = took (nid o.dst) up rv → SimR Γ s μ a w o r := by
          intro Mx H' up hH' hup hR hMx hvals hplain hpnc hfrs hrr
          intro H1 hH1 K Q hK hQ
          have hc := hsound _ rv hrS w Mx _ hMx (by rw [hsz]; simp) hvals
          unfold Oper.wp
          rw [hrun]
          simp only [Oper.upon]
          refine hc.mono fun e w' he => ?_
          obtain ⟨hbel, hpost⟩ := he
          rcases hpost with ⟨p, x, rfl, rfl, hp⟩ | ⟨hnp, v, rfl, hv⟩
          · subst hrr
            simp only [took, AE.hnews, Option.some.injEq] at hH1
            subst hH1
            refine hQ p rfl x μ w' ?_ ?_
            · rw [show (took (nid o.dst) up (.pnc p)).up = up from rfl, ← hH']
              exact hR.grow hbel
            · rw [show (took (nid o.dst) up (.pnc p)).up = up from rfl, ← hH']
              exact hpnc w' p x rfl hbel hp
          · by_cases hfr : ∃ e sz L, rv = .frs e sz L
            · obtain ⟨e, sz, L, rfl⟩ := hfr
              subst hrr
              obtain ⟨g', c, cur, rfl, hge, hcell, hbox⟩ := hv
              simp only [took, AE.hnews] at hH1
              split at hH1
              · rename_i hn
                cases hH1
                have hn' : s.H (nid o.dst) = none := by simpa using hn
                have hHn : H' (nid o.dst) = none := by rw [hH', hputs_at _ _ (hup _ hn')]; exact hn'
                refine hK rfl (lput μ (nid o.dst) (some (g', c))) _ _ ?_
                have hst : hputs (hput s.H (nid o.dst) (.row e sz L false)) up = hput H' (nid o.dst) (.row e sz L false) := by rw [hputs_out _ _ (hup _ hn'), hH']
                simp only [took]
                rw [hst]
                obtain ⟨_, c1, c2, c3, c4, c5, c6⟩ := hbox
                have hRn := hR.newbox hHn hbel hge hcell (c := c) (x := .row e sz L false) (fun M μ' H'' hM hle hμ' => ⟨rfl, c1, c2, c3, c4, c5, fun i j xs y hi hj => by
                  obtain ⟨uu, u1, u2, u3⟩ := c6 i j xs y hi hj
                  refine ⟨uu, u1, u2, ?_⟩
                  by_cases hlt : True
                  · exact (hfrs w' e sz L y uu g' rfl ⟨xs, List.mem_of_getElem? hi, List.mem_of_getElem? hj⟩ u3 (fun k => M k ∧ k < w'.heap.size) (fun k hk hf hh => hM k hh.2 hk hf hh.1) noLay).mono (fun k hk hh => ⟨fun hm => hh ⟨hm, hk⟩, rfl⟩) (HLe.refl _) (fun b hb => absurd rfl hb)
                  · exact absurd trivial hlt⟩)
                refine hRn.put hd ?_
                have := @Rep.own w' (forb Γ.Mx (lput μ (nid o.dst) (some (g', c))) (hput H' (nid o.dst) (.row e sz L false))) (lput μ (nid o.dst) (some (g', c))) (hput H' (nid o.dst) (.row e sz L false)) (nid o.dst) L.length _ _ _ _ (hput_same _ _ _) (Nat.le_refl _)
                simpa [lput, sliceV] using this
              · cases hH1
            · have hnf : ∀ e sz L, rv ≠ .frs e sz L := fun e sz L he => hfr ⟨e, sz, L, he⟩
              have hv' : Rep w' Mx noLay noH rv v := by cases rv <;> first | exact hv | exact absurd rfl (hnf _ _ _)
              have htook : took (nid o.dst) up rv = ⟨rv, [], up, [], none⟩ := by cases rv <;> first | rfl | exact absurd rfl (hnf _ _ _) | exact absurd rfl (hnp _)
              rw [htook] at hrr
              subst hrr
              simp only [AE.hnews, Option.some.injEq] at hH1
              subst hH1
              refine hK rfl μ _ _ ?_
              simp only []
              rw [← hH']
              exact (hR.grow hbel).put hd (hplain w' rv v hbel hnp hnf rfl hv')
        simp only [callR] at hr
        split at hr
        · rename_i hl
          cases hr
          refine fin (fun _ => False) s.H [] rfl (by simp) h (fun g hg => hg.elim) ?_ ?_ ?_ ?_ rfl
          · intro i v hi
            rw [List.getElem?_map, Option.map_eq_some_iff] at hi
            obtain ⟨v', hv', rfl⟩ := hi
            exact view_rep h 3 v' _ (hargs i v' hv') noLay noH
          · intro w' v x _ h1 h2 hvv hx
            subst hvv
            exact lightR_rep hx hl
          · intro w' p x hp _ hx
            subst hp
            obtain ⟨t, v, rfl, hl⟩ : ∃ t v, p = .ifc t v ∧ lightA v = true := by cases p <;> first | exact ⟨_, _, rfl, hl⟩ | (simp [lightR, lightA, light] at hl)
            cases hx with
            | ifc _ _ _ y hr => exact .ifc _ _ _ _ (lightA_rep hr hl)
          · intro w' e sz L v x g he hmem hx M _ μ'
            subst he
            obtain ⟨xs, hxs, hvx⟩ := hmem
            simp only [lightR, List.all_eq_true] at hl
            exact light_rep hx (hl xs hxs v hvx)
        · split at hr
          · rename_i hp
            cases hr
            obtain ⟨H', hH', hR', hrep⟩ := frz_rep h 2 hp
            refine fin (forb Γ.Mx μ H') H' _ hH' (fun b hb => frzs_ids hb _) hR' (fun g hg => ?_) ?_ ?_ ?_ ?_ rfl
            · rcases hg with hg | ⟨b, y, c, q1, q2, q3⟩
              · exact Nat.lt_of_lt_of_le (h.hx g hg) h.hw.size
              · exact hR'.lt q1 (hot_live q2) q3
            · intro i v hi
              rw [List.getElem?_map, Option.map_eq_some_iff] at hi
              obtain ⟨v', hv', rfl⟩ := hi
              exact hrep v' _ (List.mem_of_getElem? hv') (hargs i v' hv') noLay noH
            · intro w' v x _ _ _ _ hx; exact hx.ofNo
            · intro w' p x _ _ hx; exact hx.ofNo
            · intro w' e sz L v x g _ _ hx M hM μ'
              exact hx.mono (fun k hk hh => ⟨fun hm => hh (by
                by_cases hkg : k = g
                · exact .inr hkg
                · by_cases hf : forb Γ.Mx μ H' k
                  · exact .inl hf
                  · exact absurd hm (hM k hkg hf)), rfl⟩) (HLe.refl _) (fun b hb => absurd rfl hb)
          · cases hr
end
end Go.Proofs.Ytikhhmdmmgkakaa.AE
