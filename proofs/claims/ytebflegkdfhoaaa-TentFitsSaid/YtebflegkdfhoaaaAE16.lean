/-
  A plain machine for the code of functions, and its soundness: part AE16. Conditions: none; every lemma names its own.
-/
import Derived.Test.YtebflegkdfhoaaaAE15
namespace Go.Proofs.Ytebflegkdfhoaaa.AE
open Go Go.RowKit
set_option linter.unusedVariables false
/-! ## Operations, and regions in the order of the text -/
/-- What is to be seen of an operation without running it. -/
def opOK (P : Program) (n : Nat) (o : Oper) : Bool :=
  (match o.dst with | some d => decide (d < n) | none => true) &&
  match o.op with
  | .store _ _ _ => o.dst.isNone
  | .convert t _ _ => (P.underlying t).isSome
  | .makeInterface t _ => (match P.underlying t with | some (.interface _) => false | some _ => true | none => false)
  | _ => true
theorem opOK_dst {P : Program} {n : Nat} {o : Oper} (h : opOK P n o = true) : ∀ t, o.dst = some t → t < n := by
  intro t ht
  simp only [opOK, ht, Bool.and_eq_true, decide_eq_true_eq] at h
  exact h.1
section
variable {Γ : Ctx} {s : St} {μ : Lay} {a : Act} {w : World} {o : Oper} {env : Env}
theorem sim_val (h : Rel Γ s μ a w) (hok : opOK Γ.P Γ.n o = true) (henv : EnvOK Γ.P env) {r : R} (hr : aVal (TI.of Γ.P) env o.dst o.op (eva s.t) s.H = some r) : SimR Γ s μ a w o r := by
  have hd := opOK_dst hok
  generalize hop : o.op = op at hr
  unfold aVal at hr
  split at hr
  · cases val_inj hr; exact sim_move h hd hop
  · cases val_inj hr; exact sim_assign h hd hop
  · exact sim_pick h hd hop hr
  · exact sim_alloc h hd hop hr
  · exact sim_box h hd hop hr
  · exact sim_build h hd hop hr
  · exact sim_buildSlice h hd hop hr
  · exact sim_load h hd hop hr
  · refine sim_store h ?_ hop hr
    simp only [opOK, hop, Bool.and_eq_true] at hok
    simpa using hok.2
  · exact sim_nil h hd hop hr
  · exact sim_binOp h hd hop hr
  · rename_i uo _ _
    cases uo <;> simp only [vUn] at hr <;> first | exact sim_not h hd hop hr | exact sim_neg h hd hop hr | (cases hr; done)
  · refine sim_conv h hd hop hr ?_
    simp only [opOK, hop, Bool.and_eq_true] at hok
    exact hok.2
  · simp only [opOK, hop, Bool.and_eq_true] at hok
    have hok2 := hok.2
    split at hok2
    · cases hok2
    · rename_i d hni hu; exact sim_iface h hd hop hr hu (fun ms he => hni ms he)
    · cases hok2
  · exact sim_panic h hop hr
  · rename_i fn first caps
    generalize hfl : first.toList = fl at hr
    unfold vFunc at hr
    split at hr
    · cases val_inj hr
      have : first = #[] := by cases first; simp at hfl; rw [hfl]
      subst this
      exact sim_makeFunc h hd hop
    · cases hr
  · rename_i t x lo hi mx
    cases mx with
    | none => exact sim_slice h hd hop hr
    | some m => cases hr
  · exact sim_fieldAddr h hd hop hr
  · exact sim_field h hd hop hr
  · exact sim_indexAddr h hd hop hr
  · exact sim_extract h hd hop hr
  · rename_i c
    obtain ⟨callee, args, ts⟩ := c
    simp only at hr
    cases callee with
    | invoke r m => cases hr
    | value f => exact sim_call h hd henv hop hr
    | builtin b =>
      simp only [vCallC] at hr
      generalize hal : args.toList = al at hr
      generalize htl : ts.toList = tl at hr
      have hargs : args = al.toArray := by rw [← hal]
      have hts : ts = tl.toArray := by rw [← htl]
      subst hargs
      subst hts
      unfold vBuiltin at hr
      split at hr
      · exact sim_len h hd hop hr
      · exact sim_max h hd hop hr
      · exact sim_max4 h hd hop hr
      · exact sim_min h hd hop hr
      · split at hr
        · rename_i he; subst he; exact sim_append h hd hop hr
        · exact sim_zeros h hd hop hr
      · exact sim_cap h hd hop hr
      · cases hr
  · cases hr
/-- What follows a step. -/
def StepK (Γ : Ctx) (out : Out) (K : Act → World → Prop) (Q : Exit → Act → World → Prop) : Prop :=
  (out.pan = none → ∀ μ' a' w', Rel Γ out.s μ' a' w' → K a' w') ∧
  (∀ v, out.pan = some v → ∀ x μ' a' w', Rel Γ out.s μ' a' w' → Rep w' (forb Γ.Mx μ' out.s.H) μ' out.s.H v x → Q (.panic [{ v := x, recovered := false }]) a' w')
theorem fin_some {d : Option Tmp} {s : St} {x : Option R} {out : Out} (h : fin d s x = some out) : ∃ r H1, x = some r ∧ hnews s.H r.nw = some H1 ∧ out = ⟨⟨match r.pan with | none => tput s.t d r.v | some _ => s.t, hputs H1 r.up⟩, r.up.map (·.1), r.fp, r.pan⟩ := by
  cases x with
  | none => cases h
  | some r =>
    simp only [fin] at h
    cases hn : hnews s.H r.nw with
    | none => rw [hn] at h; cases h
    | some H1 => rw [hn] at h; simp only [finH, Option.some.injEq] at h; exact ⟨r, H1, rfl, hn, h.symm⟩
theorem sim_fin (h : Rel Γ s μ a w) (hok : opOK Γ.P Γ.n o = true) (henv : EnvOK Γ.P env) {out : Out} (hs : fin o.dst s (aVal (TI.of Γ.P) env o.dst o.op (eva s.t) s.H) = some out) {K : Act → World → Prop} {Q : Exit → Act → World → Prop} (hk : StepK Γ out K Q) : o.wp Γ.P a w K Q := by
  obtain ⟨r, H1, h1, h2, rfl⟩ := fin_some hs
  refine sim_val h hok henv h1 H1 h2 K Q (fun hp μ' a' w' hR => hk.1 hp μ' a' w' ?_) (fun v hp x μ' w' hR hv => hk.2 v hp x μ' a w' ?_ ?_)
  · simp only [hp]; exact hR
  · simp only [hp]; exact hR
  · exact hv
theorem guard_ud (h : Rel Γ s μ a w) {ops : Array Oper} {j : Nat} (hg : guardV ops j s.t = .tup []) : yielded ops a.tmps j = none := by
  unfold guardV at hg
  cases hd : (ops[j]?).bind (·.dst) with
  | none => rw [hd] at hg; cases hg
  | some d =>
    rw [hd] at hg
    simp only at hg
    have hr := h.ht d
    rw [hg] at hr
    have hv : a.tmps.getD d undef = undef := by
      generalize a.tmps.getD d undef = v at hr
      cases hr with
      | tup _ _ vs g hs hv hr =>
        have : vs = #[] := Array.eq_empty_of_size_eq_zero (by simpa using hs)
        rw [this]; rfl
    unfold yielded
    rw [hd, Option.bind_some]
    rw [Array.getD_eq_getD_getElem?] at hv
    cases hh : a.tmps[d]? with
    | none => rfl
    | some y => rw [hh] at hv; simp only [Option.getD_some] at hv; rw [hv]; rfl
theorem guard_ok (h : Rel Γ s μ a w) {ops : Array Oper} {j : Nat} {b : Bool} (hg : guardV ops j s.t = .bool b) : yielded ops a.tmps j = some b := by
  unfold guardV at hg
  unfold yielded
  cases hd : (ops[j]?).bind (·.dst) with
  | none => rw [hd] at hg; cases hg
  | some d =>
    rw [hd] at hg
    simp only at hg
    have := h.ht d
    rw [hg] at this
    have hv := this.bool_inv
    have : a.tmps[d]? = some (.bool b) := by
      rw [Array.getD_eq_getD_getElem?] at hv
      cases hh : a.tmps[d]? with
      | none => rw [hh] at hv; simp [undef] at hv
      | some y => rw [hh] at hv; simp at hv; rw [hv]
    simp [this]
/-- One operation with its guard, as it comes up. -/
theorem sim_step (h : Rel Γ s μ a w) (hok : opOK Γ.P Γ.n o = true) (henv : EnvOK Γ.P env) {ops : Array Oper} {out : Out} (hs : aStep (TI.of Γ.P) env ops o s = some out) {K : Act → World → Prop} {Q : Exit → Act → World → Prop} (hk : StepK Γ out K Q) :
    if Region.wanted o (yielded ops a.tmps) then o.wp Γ.P a w K Q else K (a.put o.dst undef) w := by
  unfold aStep at hs
  cases hg : o.guard with
  | none =>
    rw [hg] at hs
    rw [if_pos (by simp [Region.wanted, hg])]
    exact sim_fin h hok henv hs hk
  | some jw =>
    obtain ⟨j, want⟩ := jw
    rw [hg] at hs
    simp only at hs
    have hskip : Rep w (forb Γ.Mx μ s.H) μ s.H (.tup []) undef := .tup _ _ _ (fun _ => default) rfl (fun i hi => absurd hi (by simp)) (fun i c hc => by simp at hc)
    by_cases hud : guardV ops j s.t = .tup []
    · rw [hud] at hs
      simp only [guarded, Option.some.injEq] at hs
      subst hs
      rw [if_neg (by simp [Region.wanted, hg, guard_ud h hud])]
      exact hk.1 rfl μ _ _ (h.put (opOK_dst hok) hskip)
    have hex : ∃ b, guardV ops j s.t = .bool b := by
      cases hv : guardV ops j s.t with
      | bool b => exact ⟨b, rfl⟩
      | tup l => cases l with
        | nil => exact absurd hv hud
        | cons x l => rw [hv] at hs; cases hs
      | _ => rw [hv] at hs; cases hs
    obtain ⟨b, hv⟩ := hex
    rw [hv] at hs
    simp only [guarded] at hs
    have hy := guard_ok h hv
    split at hs
    · rename_i hb
      rw [if_pos (by simp [Region.wanted, hg, hy, hb])]
      exact sim_fin h hok henv hs hk
    · rename_i hb
      rw [if_neg (by simp [Region.wanted, hg, hy, hb])]
      cases hs
      exact hk.1 rfl μ _ _ (h.put (opOK_dst hok) hskip)
/-- What follows a region. -/
def RunK (Γ : Ctx) (rn : Run) (Q : Exit → Act → World → Prop) : Prop := match rn with
  | .done s' _ => ∀ μ' a' w', Rel Γ s' μ' a' w' → Q .normal a' w'
  | .pan s' v => ∀ x μ' a' w', Rel Γ s' μ' a' w' → Rep w' (forb Γ.Mx μ' s'.H) μ' s'.H v x → Q (.panic [{ v := x, recovered := false }]) a' w'
  | .bad => False
theorem sim_list {ops : Array Oper} (henv : EnvOK Γ.P env) {Q : Exit → Act → World → Prop} : ∀ (l : List Oper) (s : St) (μ : Lay) (a : Act) (w : World), (∀ o ∈ l, opOK Γ.P Γ.n o = true) → Rel Γ s μ a w → RunK Γ (aRun (TI.of Γ.P) env ops l s) Q → wpList Γ.P ops Q l a w
  | [], s, μ, a, w, _, h, hk => hk μ a w h
  | o :: l, s, μ, a, w, hok, h, hk => by
    refine wpList_step fun K hK => ?_
    simp only [aRun] at hk
    cases hs : aStep (TI.of Γ.P) env ops o s with
    | none => rw [hs] at hk; exact hk.elim
    | some out =>
      rw [hs] at hk
      refine sim_step h (hok o (by simp)) henv hs ⟨fun hp μ' a' w' hR => hK _ _ ?_, fun v hp x μ' a' w' hR hx => ?_⟩
      · obtain ⟨s', c, f, pan⟩ := out
        simp only at hp
        subst hp
        simp only at hk
        refine sim_list henv l s' μ' a' w' (fun o ho => hok o (by simp [ho])) hR ?_
        cases hrn : aRun (TI.of Γ.P) env ops l s' with
        | done s'' tr => rw [hrn] at hk; exact hk
        | pan s'' v => rw [hrn] at hk; exact hk
        | bad => rw [hrn] at hk; exact hk
      · obtain ⟨s', c, f, pan⟩ := out
        simp only at hp
        subst hp
        simp only at hk
        exact hk x μ' a' w' hR hx
/-- A state that a step leads to is one that there is. -/
theorem step_exists (h : Rel Γ s μ a w) (hok : opOK Γ.P Γ.n o = true) (henv : EnvOK Γ.P env) {ops : Array Oper} {out : Out} (hs : aStep (TI.of Γ.P) env ops o s = some out) : ∃ μ' a' w', Rel Γ out.s μ' a' w' := by
  by_cases hex : ∃ μ' a' w', Rel Γ out.s μ' a' w'
  · exact hex
  · exfalso
    have := sim_step (K := fun _ _ => False) (Q := fun _ _ _ => False) h hok henv hs ⟨fun _ μ' a' w' hR => hex ⟨μ', a', w', hR⟩, fun _ _ _ μ' a' w' hR _ => hex ⟨μ', a', w', hR⟩⟩
    split at this
    · unfold Oper.wp at this
      generalize (execOp a.eval o).run Γ.P w = res at this
      cases res with
      | ok n w' =>
        cases n <;> simp only [Oper.upon] at this
        · obtain ⟨e, w'', fr, hR, _⟩ := this []
          cases e with
          | returned v => exact hR
          | panicked c => exact hR
          | outgrown => obtain ⟨_, _, hR⟩ := hR; exact hR
        · obtain ⟨_, _, hR, _⟩ := this default []
          exact hR
      | halt x w' => cases x <;> simp only [Oper.upon] at this
    · exact this
end
end Go.Proofs.Ytebflegkdfhoaaa.AE
