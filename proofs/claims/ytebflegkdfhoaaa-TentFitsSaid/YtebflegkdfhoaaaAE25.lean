/-
  A plain machine for the code of functions, and its soundness: part AE25. Conditions: none; every lemma names its own.
-/
import Derived.Test.YtebflegkdfhoaaaAE24
namespace Go.Proofs.Ytebflegkdfhoaaa.AE
open Go Go.RowKit
set_option linter.unusedVariables false
/-! ## Functions that may write to boxes passed -/
def outL (hr : HR) : List (Bid × Box) := lab 1 0 hr.up ++ lab 2 0 hr.nw
@[go_sem] theorem outL_at (v up nw) : outL ⟨v, up, nw⟩ = lab 1 0 up ++ lab 2 0 nw := rfl
def resH (T : TypeId → Option TI) (s : St) (H : Heap) (ρ : Ren) (r : AV) : List ResultVar → Prop
  | [x] => match resV T s x with
    | some v => le s.H H ρ r v
    | none => False
  | l => match catV (l.map (resV T s)), r with
    | some vs, .tup rs => le.leC s.H H ρ rs vs
    | _, _ => False
def finW (T : TypeId → Option TI) (rs : List ResultVar) (hr : HR) (ρ : Ren) : X → St → Prop
  | .normal, s => renOK ρ ∧ boxesOK (hOf (outL hr)) ρ s.H (outL hr) ∧ resH T s (hOf (outL hr)) ρ hr.v rs ∧ (∀ p, hr.v ≠ .pnc p)
  | .ret, s => renOK ρ ∧ boxesOK (hOf (outL hr)) ρ s.H (outL hr) ∧ resH T s (hOf (outL hr)) ρ hr.v rs ∧ (∀ p, hr.v ≠ .pnc p)
  | .pan v, s => renOK ρ ∧ boxesOK (hOf (outL hr)) ρ s.H (outL hr) ∧ ∃ p, hr.v = .pnc p ∧ le s.H (hOf (outL hr)) ρ p v
  | _, _ => False
def finWQ (T : TypeId → Option TI) (rs : List ResultVar) (hr : HR) (x : X) (s : St) : Prop := ∃ ρ, finW T rs hr ρ x s
section
variable {Γ : Ctx} {s : St} {μ : Lay} {a : Act} {w : World}
theorem resH_run (h : Rel Γ s μ a w) {H : Heap} {μ' : Lay} {ρ : Ren} (hrep : ∀ (v : AV) (x : Value), Rep w (forb Γ.Mx μ s.H) μ s.H v x → ∀ v', le s.H H ρ v' v → Rep w (forb Γ.Mx μ' H) μ' H v' x)
    {fn : Func} {r : AV} (hr : resH (TI.of Γ.P) s H ρ r fn.results.toList) : ∃ x, (results fn a.tmps).run Γ.P w = .ok x w ∧ Rep w (forb Γ.Mx μ' H) μ' H r x := by
  generalize hl : fn.results.toList = l at hr
  have hfr : fn.results = l.toArray := by rw [← hl]
  have general : ∀ (vs : List AV), catV (l.map (resV (TI.of Γ.P) s)) = some vs → ∃ xs : List Value, xs.length = vs.length ∧ (∀ (i : Nat) (v : AV) (x : Value), vs[i]? = some v → xs[i]? = some x → Rep w (forb Γ.Mx μ s.H) μ s.H v x) ∧ (l.mapM (rvSem a)).run Γ.P w = .ok xs w := by
    intro vs hvs
    obtain ⟨c1, c2⟩ := catV_at hvs
    have hex : ∀ i : Fin l.length, ∃ (x : Value) (v : AV), (rvSem a l[i]).run Γ.P w = .ok x w ∧ vs[i.val]? = some v ∧ Rep w (forb Γ.Mx μ s.H) μ s.H v x := by
      intro i
      have h1 := c2 i.val
      simp only [List.getElem?_map, List.getElem?_eq_getElem i.isLt, Option.map_some] at h1
      cases hv : vs[i.val]? with
      | none => rw [hv] at h1; cases h1
      | some v =>
        rw [hv] at h1
        simp only [Option.map_some, Option.some.injEq] at h1
        obtain ⟨x, hx1, hx2⟩ := resV_run h h1
        exact ⟨x, v, hx1, rfl, hx2⟩
    classical
    have hall : ∃ xs : List Value, xs = List.ofFn (fun i : Fin l.length => Classical.choose (hex i)) := ⟨_, rfl⟩
    obtain ⟨xs, hxsd⟩ := hall
    have hxs : xs.length = l.length := by rw [hxsd, List.length_ofFn]
    have hat : ∀ (i : Nat) (hi : i < l.length), xs[i]? = some (Classical.choose (hex ⟨i, hi⟩)) := fun i hi => by
      rw [hxsd, List.getElem?_ofFn, dif_pos hi]
    refine ⟨xs, by rw [hxs, ← c1, List.length_map], fun i v x hv hx => ?_, mapM_run l xs hxs.symm (fun i y x hy hx => ?_)⟩
    · have hi : i < l.length := by
        have := (List.getElem?_eq_some_iff.1 hv).1
        rw [← c1, List.length_map] at this
        exact this
      rw [hat i hi] at hx
      cases hx
      obtain ⟨v', _, h2, h3⟩ := Classical.choose_spec (hex ⟨i, hi⟩)
      rw [hv] at h2
      cases h2
      exact h3
    · have hi := (List.getElem?_eq_some_iff.1 hy).1
      have hy' : l[i] = y := (List.getElem?_eq_some_iff.1 hy).2
      rw [hat i hi] at hx
      cases hx
      obtain ⟨v, h1, _, _⟩ := Classical.choose_spec (hex ⟨i, hi⟩)
      rw [← hy']
      exact h1
  unfold resH at hr
  split at hr
  · rename_i x
    cases hv : resV (TI.of Γ.P) s x with
    | none => rw [hv] at hr; exact hr.elim
    | some v =>
      rw [hv] at hr
      obtain ⟨xs, g1, g2, g3⟩ := general [v] (by simp [catV, hv])
      match xs, g1 with
      | [y], _ => exact ⟨y, run_results hfr g3, hrep v y (g2 0 v y rfl rfl) r hr⟩
  · rename_i hl1
    split at hr
    · rename_i vs rs hvs
      obtain ⟨xs, g1, g2, g3⟩ := general vs hvs
      have hne : ¬ xs.toArray.size = 1 := by
        simp only [List.size_toArray, g1]
        obtain ⟨c1, _⟩ := catV_at hvs
        rw [← c1, List.length_map]
        intro h1
        obtain ⟨x, hx⟩ := List.length_eq_one_iff.1 h1
        exact hl1 x hx
      have g4 := run_results hfr g3
      rw [dif_neg hne] at g4
      refine ⟨_, g4, ?_⟩
      obtain ⟨l1, l2⟩ := leC_at _ _ hr
      refine Rep.tup _ _ _ (fun i => xs.getD i undef) (by simp [g1, l1]) (fun i hi => ?_) (fun i c hc => ?_)
      · have : i < xs.length := by omega
        simp [this]
      · obtain ⟨v, hv1, hv2⟩ := l2 i c hc
        have hlt := (List.getElem?_eq_some_iff.1 hv1).1
        have hx : xs[i]? = some (xs.getD i undef) := by
          have : i < xs.length := by omega
          simp [this]
        exact hrep v _ (g2 i v _ hv1 hx) c hv2
    · exact hr.elim
end
/-- A function's contract, out of its body. -/
theorem sound_ofH {P : Program} {f : FuncId} {fn : Func} {c : Code} {S : HSpec} {env : Env} (hf : P.funcs[f]? = some fn) (hb : fn.body = some c) (hok : codeOK P fn.ntmps c = true) (henv : EnvOK P env)
    (h : ∀ args bx hr, S args bx = some hr → args.length ≤ fn.ntmps ∧ goOns bx hr.up ∧ ∀ (w : World) (Mx : Nat → Prop) (pin : Nat → Option (Nat × Nat)), awp ⟨P, w, Mx, fn.ntmps, pin, []⟩ env c (finWQ (TI.of P) fn.results.toList hr) ⟨argsF args, hB bx⟩) : HSound P f S := by
  intro args bx hr hS
  obtain ⟨hlen, hgo, hbody⟩ := h args bx hr hS
  refine ⟨hgo, fun w Mx pin vals μ hA hpin => ?_⟩
  have hbody := hbody w Mx pin
  refine callsIn_wide.1 (callsIn_of_wp_marks (F := Fence.wide) (n := 0) hf hb trivial (wpIn_wide.2 ?_))
  have hsz := hA.sz
  have hR : Rel ⟨P, w, Mx, fn.ntmps, pin, []⟩ ⟨argsF args, hB bx⟩ μ { tmps := vals ++ Array.replicate (fn.ntmps - vals.size) undef, defers := [] } w := by
    refine ⟨Marks.nil ⟨P, w, Mx, fn.ntmps, pin, []⟩ _, by simp; omega, hA.mem.hx, fun i => ?_, hA.mem.hb, hA.mem.hi, hA.mem.hf, hA.mem.hw, hA.mem.hp⟩
    simp only [argsF]
    by_cases hi : i < args.length
    · have hgi : args[i]? = some args[i] := List.getElem?_eq_getElem hi
      have hv := hA.rep i _ hgi
      have e1 : args.getD i .u = args[i] := by simp [hi]
      have e2 : (vals ++ Array.replicate (fn.ntmps - vals.size) undef).getD i undef = vals.getD i undef := by
        simp only [Array.getD_eq_getD_getElem?, Array.getElem?_append, show i < vals.size by omega, if_true]
      rw [e1, e2]
      exact hv
    · have e1 : args.getD i .u = .u := by simp [List.getD_eq_getElem?_getD, List.getElem?_eq_none (by omega : args.length ≤ i)]
      rw [e1]
      exact .u _ _
  have hwp := hbody henv hok μ _ w hR
  refine Code.wp_mono ?_ hwp
  intro e a' w' he
  have done : ∀ s μ', Rel ⟨P, w, Mx, fn.ntmps, pin, []⟩ s μ' a' w' → ∀ ρ, (renOK ρ ∧ boxesOK (hOf (outL hr)) ρ s.H (outL hr) ∧ resH (TI.of P) s (hOf (outL hr)) ρ hr.v fn.results.toList ∧ (∀ p, hr.v ≠ .pnc p)) → LeavesInM Fence.wide 0 P fn a'.tmps (HPost P w Mx pin hr) a'.defers .returning w' := by
    rintro s μ' hR' ρ ⟨h1, h2, h3, h4⟩
    refine leavesM (by simp) hR' rfl fun w2 ht hR2 => ?_
    obtain ⟨hm, hrep⟩ := retell hR2 ρ h1 h2
    obtain ⟨x, hx1, hx2⟩ := resH_run hR2 hrep h3
    exact ⟨x, hx1, renLay ρ μ', ⟨hm.hx, hm.hb, hm.hi, hm.hf, hm.hw, hm.hp⟩, .inr ⟨h4, x, rfl, hx2⟩⟩
  cases e with
  | normal => obtain ⟨s, μ', hR', ρ, hq⟩ := he; exact done s μ' hR' ρ hq
  | ret => obtain ⟨s, μ', hR', ρ, hq⟩ := he; exact done s μ' hR' ρ hq
  | exit i => obtain ⟨s, μ', hR', ρ, hq⟩ := he; exact hq.elim
  | goto l => exact he.elim
  | outgrown => exact he.elim
  | panic ch =>
    obtain ⟨s, μ', v, x, rfl, hR', hx, ρ, h1, h2, p, hp, h3⟩ := he
    refine leavesM (by simp) hR' rfl fun w2 ht hR2 => ?_
    obtain ⟨hm, hrep⟩ := retell hR2 ρ h1 h2
    exact ⟨renLay ρ μ', ⟨hm.hx, hm.hb, hm.hi, hm.hf, hm.hw, hm.hp⟩, .inl ⟨p, x, hp, rfl, hrep v x (hx.turned ht) p h3⟩⟩
/-- A contract that writes nothing that was passed is one of the plain kind's ends: from a heap contract to a plain one. -/
theorem HSound.plain {P : Program} {f : FuncId} {S : Spec} {T : HSpec} (h : HSound P f T) (hS : ∀ args r, S args = some r → T args [] = some ⟨r, [], []⟩) (hf : ∀ args e sz L, S args ≠ some (.frs e sz L)) : Sound P f S := by
  intro args r hr w Mx vals hMx hsz hv
  obtain ⟨_, h2⟩ := h args [] _ (hS args r hr)
  have hB0 : hB [] = noH := rfl
  have hE0 : hE ⟨r, [], []⟩ = noH := rfl
  refine (h2 w Mx (fun _ => none) vals noLay ⟨⟨fun g hg => ⟨hMx g hg, no_io⟩, fun b x hx => (by cases hx), fun b b' x x' g c c' hx => (by cases hx), fun b x g c hx => (by cases hx), BelowX.refl _ _ _, fun i x hx => (by cases hx)⟩, hsz, fun i v hi => ?_, by simp⟩ (fun _ _ => rfl)).mono fun e w' he => ?_
  · rw [hB0]
    exact (hv i v hi).mono (fun g _ hg => ⟨(fun hh => hh.elim hg fun ⟨b, x, c, hx, _⟩ => by cases hx), rfl⟩) (HLe.refl _) (fun b hb => absurd rfl hb)
  · obtain ⟨μ', hm, hpost⟩ := he
    rw [hE0] at hm hpost
    have key : ∀ v x, Rep w' (forb Mx μ' noH) μ' noH v x → Rep w' Mx noLay noH v x := fun v x hx => hx.mono (fun g _ hg => ⟨fun hh => hg (.inl hh), rfl⟩) (HLe.refl _) (fun b hb => absurd rfl hb)
    refine ⟨hm.hw.below fun _ => no_io, ?_⟩
    rcases hpost with ⟨p, x, q1, q2, q3⟩ | ⟨q1, v, q2, q3⟩
    · exact .inl ⟨p, x, q1, q2, key p x q3⟩
    · refine .inr ⟨q1, v, q2, ?_⟩
      have := key _ _ q3
      simp only at this
      unfold RRep
      split
      · exact absurd hr (hf _ _ _ _)
      · exact this
end Go.Proofs.Ytebflegkdfhoaaa.AE
