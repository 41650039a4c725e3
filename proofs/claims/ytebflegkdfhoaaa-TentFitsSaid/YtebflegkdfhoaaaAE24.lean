/-
  A plain machine for the code of functions, and its soundness: part AE24. Conditions: none; every lemma names its own.
-/
import Derived.Test.YtebflegkdfhoaaaAEm
namespace Go.Proofs.Ytebflegkdfhoaaa.AE
open Go Go.RowKit
set_option linter.unusedVariables false
/-! ## Functions -/
/-- What a call hands back tells no more than what it has. -/
def res (H : Heap) : AV → AV → Prop
  | .u, _ => True
  | .sl k L, .own b n => rowOf n (H b) = some (k, L)
  | .sl k L, .nils => L = []
  | .agg cs, .agg ds => resC H cs ds
  | .int k n, v => v = .int k n
  | .bool b, v => v = .bool b
  | .str b, v => v = .str b
  | .nils, v => v = .nils
  | .sl k L, v => v = .sl k L
  | .nilp, v => v = .nilp
  | .nili, v => v = .nili
  | _, _ => False
where
  resC (H : Heap) : List AV → List AV → Prop
  | [], [] => True
  | a :: l, b :: m => res H a b ∧ resC H l m
  | _, _ => False
theorem resC_at {H : Heap} : ∀ (l m : List AV), res.resC H l m → l.length = m.length ∧ ∀ (i : Nat) (a : AV), l[i]? = some a → ∃ b, m[i]? = some b ∧ res H a b
  | [], [], _ => ⟨rfl, fun i a h => by simp at h⟩
  | a :: l, b :: m, h => by
    simp only [res.resC] at h
    obtain ⟨h1, h2⟩ := resC_at l m h.2
    refine ⟨by simp [h1], fun i c hc => ?_⟩
    cases i with
    | zero => simp at hc; subst hc; exact ⟨b, by simp, h.1⟩
    | succ i => simp at hc ⊢; exact h2 i c hc
  | [], _ :: _, h => by simp [res.resC] at h
  | _ :: _, [], h => by simp [res.resC] at h
/-- A new slice, handed back whole. -/
def resN (H : Heap) (e : TypeId) (sz : Nat) (L : List (List AV)) : AV → Prop
  | .own b n => (match H b with | some (.row e' sz' M z) => e = e' ∧ sz = sz' ∧ z = false ∧ L = M.take n | _ => False) ∧ L ≠ []
  | _ => False
def resT (H : Heap) : AV → AV → Prop
  | .frs e sz L, v => resN H e sz L v
  | r, v => res H r v
def resV (T : TypeId → Option TI) (s : St) : ResultVar → Option AV
  | .tmp t => some (s.t t)
  | .cell a t => match T t, s.t a with
    | some i, .ref b o => match s.H b with
      | some (.obj cs) => ld i cs o
      | _ => none
    | _, _ => none
def catV : List (Option AV) → Option (List AV)
  | [] => some []
  | some v :: l => (catV l).map (v :: ·)
  | none :: _ => none
/-- The end of a function: one result, or several. -/
def finR (T : TypeId → Option TI) (s : St) (r : AV) : List ResultVar → Prop
  | [x] => match resV T s x with
    | some v => resT s.H r v
    | none => False
  | l => match catV (l.map (resV T s)), r with
    | some vs, .tup rs => res.resC s.H rs vs
    | _, _ => False
def finQ (T : TypeId → Option TI) (rs : List ResultVar) (r : AV) : X → St → Prop
  | .normal, s => finR T s r rs ∧ (∀ p, r ≠ .pnc p)
  | .ret, s => finR T s r rs ∧ (∀ p, r ≠ .pnc p)
  | .pan v, s => ∃ p, r = .pnc p ∧ res s.H p v
  | _, _ => False
def argsF (args : List AV) : Nat → AV := fun i => args.getD i .u
section
variable {Γ : Ctx} {s : St} {μ : Lay} {a : Act} {w : World}
theorem res_rep (h : Rel Γ s μ a w) : ∀ {v : AV} {x : Value} {H : Heap}, Rep w (forb Γ.Mx μ s.H) μ H v x → H = s.H → ∀ r, res s.H r v → Rep w Γ.Mx noLay noH r x := by
  have hM : ∀ g, ¬ forb Γ.Mx μ s.H g → ¬ Γ.Mx g := fun g hg hx => hg (.inl hx)
  intro v x H hx
  induction hx with
  | int H k n => intro hH r hr; cases r <;> simp [res] at hr <;> first | exact .u _ _ | (obtain ⟨rfl, rfl⟩ := hr; exact .int _ _ _)
  | bool H b => intro hH r hr; cases r <;> simp [res] at hr <;> first | exact .u _ _ | (subst hr; exact .bool _ _)
  | str H b => intro hH r hr; cases r <;> simp [res] at hr <;> first | exact .u _ _ | (subst hr; exact .str _ _)
  | nilp H => intro hH r hr; cases r <;> simp [res] at hr <;> first | exact .u _ _ | exact .nilp _
  | nili H => intro hH r hr; cases r <;> simp [res] at hr <;> first | exact .u _ _ | exact .nili _
  | nils H =>
    intro hH r hr
    cases r with
    | sl k L => simp only [res] at hr; subst hr; exact .sl _ _ _ none 0 (fun _ _ => undef) (Nat.le_refl _) (Nat.zero_le _) (by simp) (by simp) (by simp)
    | u => exact .u _ _
    | nils => exact .nils _
    | _ => simp [res] at hr
  | sl H k L a c f hc hm hk hv hr ih =>
    intro hH r hrr
    have key : Rep w Γ.Mx noLay noH (.sl k L) (.slice a L.length c) :=
      .sl _ _ _ _ _ f hc hm hk (fun i j hi hj => (hv i j hi hj).mono fun g _ hg => ⟨hM g hg, rfl⟩) fun i j cs x hi hj => (hr i j cs x hi hj).mono (fun g _ hg => ⟨hM g hg, rfl⟩) (HLe.refl _) (fun b hb => absurd rfl hb)
    cases r <;> simp [res] at hrr <;> first | exact .u _ _ | (obtain ⟨rfl, rfl⟩ := hrr; exact key)
  | agg H cs vs f hs hv hr ih =>
    intro hH r hrr
    cases r with
    | agg ds =>
      simp only [res] at hrr
      obtain ⟨l1, l2⟩ := resC_at _ _ hrr
      refine .agg _ _ _ f (by rw [l1]; exact hs) (fun i hi => hv i (by omega)) fun i c hc => ?_
      obtain ⟨d, hd1, hd2⟩ := l2 i c hc
      exact ih i d hd1 hH c hd2
    | u => exact .u _ _
    | _ => simp [res] at hrr
  | own H b n e sz L z hH hn =>
    intro hH' r hr
    subst hH'
    cases r with
    | sl k L' =>
      simp only [res, hH, rowOf, Option.some.injEq, Prod.mk.injEq] at hr
      obtain ⟨rfl, rfl⟩ := hr
      refine row_rep h hH hn hM fun g c hg hx => ?_
      obtain ⟨h1, h2⟩ := h.hx g hx
      exact (h.hf b _ g c hH hg rfl).elim (fun h => by omega) h2
    | u => exact .u _ _
    | _ => simp [res] at hr
  | ownd H b n v hH h1 =>
    intro hH' r hr
    subst hH'
    cases r with
    | sl k L' => simp [res, hH, rowOf] at hr
    | u => exact .u _ _
    | _ => simp [res] at hr
  | _ => intro hH' r hr; cases r <;> simp [res] at hr; exact .u _ _
theorem catV_at : ∀ {l : List (Option AV)} {vs : List AV}, catV l = some vs → l.length = vs.length ∧ ∀ (i : Nat), l[i]? = (vs[i]?).map some
  | [], vs, h => by cases h; exact ⟨rfl, fun i => by simp⟩
  | some v :: l, vs, h => by
    simp only [catV, Option.map_eq_some_iff] at h
    obtain ⟨ws, hw, rfl⟩ := h
    obtain ⟨h1, h2⟩ := catV_at hw
    refine ⟨by simp [h1], fun i => ?_⟩
    cases i with
    | zero => rfl
    | succ i => simpa using h2 i
  | none :: l, vs, h => by cases h
/-- A result, read at the end. -/
theorem resV_run (h : Rel Γ s μ a w) {rv : ResultVar} {v : AV} (hv : resV (TI.of Γ.P) s rv = some v) :
    ∃ x, (match rv with | .tmp t => (pure (a.tmps.getD t undef) : Sem Value) | .cell ad t => do loadVar t (← asAddr (a.tmps.getD ad undef))).run Γ.P w = .ok x w ∧ Rep w (forb Γ.Mx μ s.H) μ s.H v x := by
  cases rv with
  | tmp t => cases hv; exact ⟨_, rfl, h.ht t⟩
  | cell ad t =>
    simp only [resV] at hv
    cases hT : TI.of Γ.P t with
    | none => rw [hT] at hv; cases hv
    | some i =>
      rw [hT] at hv
      have had := h.ht ad
      cases hq : s.t ad <;> rw [hq] at hv had <;> simp only at hv <;> try (cases hv; done)
      rename_i b p
      cases hb : s.H b with
      | none => rw [hb] at hv; cases hv
      | some y =>
        rw [hb] at hv
        cases y <;> simp only at hv <;> try (cases hv; done)
        rename_i cs
        generalize hval : a.tmps.getD ad undef = av at had
        cases had with
        | ref _ _ _ cs' g c hH hμ =>
          obtain ⟨cur, e, q1, q2, q3⟩ := box_obj h hb hμ
          obtain ⟨uu, hu1, hu2⟩ := ld_rep (w := w) (μ := μ) (M := forb Γ.Mx μ s.H) (H := s.H) hT hv (g := g) (off := 0) (f := fun j => (cur[j]?).getD undef) (fun j hj => by
            obtain ⟨v', r1, r2, _⟩ := q3 j cs[j] (List.getElem?_eq_getElem hj)
            rw [Nat.zero_add, cell_heap q1, r1]
            exact ⟨rfl, r2⟩) (fun j x hx => by
            obtain ⟨v', r1, _, r3⟩ := q3 j x hx
            rw [r1]
            exact r3)
          rw [Nat.zero_add] at hu1
          exact ⟨uu, by simp only [hval, Sem.run_bind, asAddr, Sem.run_pure, Result.andThen_ok, hu1], hu2⟩
theorem mapM_run {P : Program} {α β : Type} {f : α → Sem β} : ∀ (l : List α) (xs : List β), l.length = xs.length → (∀ (i : Nat) (y : α) (x : β), l[i]? = some y → xs[i]? = some x → (f y).run P w = .ok x w) → (l.mapM f).run P w = .ok xs w
  | [], [], _, _ => rfl
  | y :: l, x :: xs, hl, h => by
    have h0 := h 0 y x rfl rfl
    have ih := mapM_run l xs (by simpa using hl) (fun i y x hy hx => h (i + 1) y x (by simpa using hy) (by simpa using hx))
    simp only [List.mapM_cons, Sem.run_bind, h0, Result.andThen_ok, ih, Sem.run_pure]
  | [], _ :: _, hl, _ => by simp at hl
  | _ :: _, [], hl, _ => by simp at hl
theorem resN_rep (h : Rel Γ s μ a w) (hio : ∀ k, ¬ Γ.io k) {e : TypeId} {sz : Nat} {L : List (List AV)} {v : AV} {x : Value} (hx : Rep w (forb Γ.Mx μ s.H) μ s.H v x) (hr : resN s.H e sz L v) : RRep Γ.w0 w Γ.Mx (.frs e sz L) x := by
  cases v <;> simp only [resN] at hr
  rename_i b n
  obtain ⟨h1, hL⟩ := hr
  cases hb : s.H b with
  | none => rw [hb] at h1; exact h1.elim
  | some y =>
    rw [hb] at h1
    cases y with
    | obj cs => exact h1.elim
    | dead => exact h1.elim
    | row e' sz' M z =>
      simp only at h1
      obtain ⟨rfl, rfl, rfl, rfl⟩ := h1
      cases hx with
      | ownd _ _ _ _ hH _ => rw [hb] at hH; cases hH
      | own _ _ _ _ _ _ _ hH hn =>
        rw [hb] at hH; cases hH
        rcases h.hb b _ hb with hbad | ⟨g, c, cur, e', q1, q2, q3⟩ | ⟨q1, e', sz', z', q2, q3⟩
        · cases hbad
        · obtain ⟨rfl, p3, p4, p5, p6, p7, p8⟩ := q3
          have hlt : (M.take n).length = n := by rw [List.length_take]; omega
          refine ⟨g, c, cur, by rw [q1, hlt]; rfl, (h.hf b _ g c hb q1 rfl).resolve_right (hio g), q2, rfl, p3, fun xs hxs => p4 xs (List.mem_of_mem_take hxs), p5, by omega, p7, fun i j xs y hi hj => ?_⟩
          rw [List.getElem?_take] at hi
          split at hi
          · obtain ⟨uu, u1, u2, u3⟩ := p8 i j xs y hi hj
            refine ⟨uu, u1, u2, (u3.mono (fun k _ hk => ⟨?_, rfl⟩) (HLe.refl _) (fun b hb => absurd rfl hb))⟩
            rintro (hx | rfl)
            · exact hk (.inl hx)
            · exact hk (.inr ⟨b, _, c, hb, rfl, q1⟩)
          · cases hi
        · cases q2
          simp at hL
def rvSem (a : Act) : ResultVar → Sem Value := fun rv => match rv with
  | .tmp t => pure (a.tmps.getD t undef)
  | .cell ad t => do loadVar t (← asAddr (a.tmps.getD ad undef))
theorem run_results {P : Program} {fn : Func} {l : List ResultVar} (hl : fn.results = l.toArray) {xs : List Value} (h : (l.mapM (rvSem a)).run P w = .ok xs w) : (results fn a.tmps).run P w = .ok (if h : xs.toArray.size = 1 then xs.toArray[0] else .tuple xs.toArray) w := by
  have e : fn.results.mapM (rvSem a) = List.toArray <$> l.mapM (rvSem a) := by rw [hl, List.mapM_toArray]
  have e2 : results fn a.tmps = (do let vs ← fn.results.mapM (rvSem a); pure (if h : vs.size = 1 then vs[0] else .tuple vs)) := rfl
  rw [e2, e]
  simp only [map_eq_pure_bind, Sem.run_bind, h, Result.andThen_ok, Sem.run_pure]
/-- The results of a function, at its end. -/
theorem finR_run (h : Rel Γ s μ a w) (hio : ∀ k, ¬ Γ.io k) {fn : Func} {r : AV} (hr : finR (TI.of Γ.P) s r fn.results.toList) (hnp : ∀ p, r ≠ .pnc p) : ∃ x, (results fn a.tmps).run Γ.P w = .ok x w ∧ RRep Γ.w0 w Γ.Mx r x := by
  generalize hl : fn.results.toList = l at hr
  have hfr : fn.results = l.toArray := by rw [← hl]
  have general : ∀ (vs : List AV), catV (l.map (resV (TI.of Γ.P) s)) = some vs → ∃ xs : List Value, xs.length = vs.length ∧ (∀ (i : Nat) (v : AV) (x : Value), vs[i]? = some v → xs[i]? = some x → Rep w (forb Γ.Mx μ s.H) μ s.H v x) ∧ (l.mapM (rvSem a)).run Γ.P w = .ok xs w := by
    intro vs hvs
    obtain ⟨c1, c2⟩ := catV_at hvs
    have hex : ∀ i : Fin l.length, ∃ (x : Value) (v : AV), (rvSem a l[i]).run Γ.P w = .ok x w ∧ vs[i.val]? = some v ∧ Rep w (forb Γ.Mx μ s.H) μ s.H v x := by
      intro i
      have h1 := c2 i.val
      simp only [List.getElem?_map, List.getElem?_eq_getElem i.isLt, Option.map_some] at h1
      cases hv : vs[i.val]? with
      | none => rw [hv] at h1; cases h1
      | some v =>
        rw [hv] at h1
        simp only [Option.map_some, Option.some.injEq] at h1
        obtain ⟨x, hx1, hx2⟩ := resV_run h h1
        exact ⟨x, v, hx1, rfl, hx2⟩
    classical
    have hall : ∃ xs : List Value, xs = List.ofFn (fun i : Fin l.length => Classical.choose (hex i)) := ⟨_, rfl⟩
    obtain ⟨xs, hxsd⟩ := hall
    have hxs : xs.length = l.length := by rw [hxsd, List.length_ofFn]
    have hat : ∀ (i : Nat) (hi : i < l.length), xs[i]? = some (Classical.choose (hex ⟨i, hi⟩)) := fun i hi => by
      rw [hxsd, List.getElem?_ofFn, dif_pos hi]
    refine ⟨xs, by rw [hxs, ← c1, List.length_map], fun i v x hv hx => ?_, mapM_run l xs hxs.symm (fun i y x hy hx => ?_)⟩
    · have hi : i < l.length := by
        have := (List.getElem?_eq_some_iff.1 hv).1
        rw [← c1, List.length_map] at this
        exact this
      rw [hat i hi] at hx
      cases hx
      obtain ⟨v', _, h2, h3⟩ := Classical.choose_spec (hex ⟨i, hi⟩)
      rw [hv] at h2
      cases h2
      exact h3
    · have hi := (List.getElem?_eq_some_iff.1 hy).1
      have hy' : l[i] = y := (List.getElem?_eq_some_iff.1 hy).2
      rw [hat i hi] at hx
      cases hx
      obtain ⟨v, h1, _, _⟩ := Classical.choose_spec (hex ⟨i, hi⟩)
      rw [← hy']
      exact h1
  unfold finR at hr
  split at hr
  · rename_i x
    cases hv : resV (TI.of Γ.P) s x with
    | none => rw [hv] at hr; exact hr.elim
    | some v =>
      rw [hv] at hr
      obtain ⟨xs, g1, g2, g3⟩ := general [v] (by simp [catV, hv])
      match xs, g1 with
      | [y], _ =>
        refine ⟨y, run_results hfr g3, ?_⟩
        have hy := g2 0 v y rfl rfl
        by_cases hfs : ∃ e sz L, r = .frs e sz L
        · obtain ⟨e, sz, L, rfl⟩ := hfs
          exact resN_rep h hio hy hr
        · have hr' : res s.H r v := by cases r <;> first | exact hr | exact absurd ⟨_, _, _, rfl⟩ hfs
          have := res_rep h hy rfl r hr'
          cases r <;> first | exact this | exact absurd ⟨_, _, _, rfl⟩ hfs
  · rename_i hl1
    split at hr
    · rename_i vs rs hvs
      obtain ⟨xs, g1, g2, g3⟩ := general vs hvs
      have hne : ¬ xs.toArray.size = 1 := by
        simp only [List.size_toArray, g1]
        obtain ⟨c1, _⟩ := catV_at hvs
        rw [← c1, List.length_map]
        intro h1
        obtain ⟨x, hx⟩ := List.length_eq_one_iff.1 h1
        exact hl1 x hx
      have g4 := run_results hfr g3
      rw [dif_neg hne] at g4
      refine ⟨_, g4, ?_⟩
      obtain ⟨l1, l2⟩ := resC_at _ _ hr
      refine Rep.tup _ _ _ (fun i => xs.getD i undef) (by simp [g1, l1]) (fun i hi => ?_) (fun i c hc => ?_)
      · have : i < xs.length := by omega
        simp [this]
      · obtain ⟨v, hv1, hv2⟩ := l2 i c hc
        have hlt := (List.getElem?_eq_some_iff.1 hv1).1
        have hx : xs[i]? = some (xs.getD i undef) := by
          have : i < xs.length := by omega
          simp [this]
        exact res_rep h (g2 i v _ hv1 hx) rfl c hv2
    · exact hr.elim
end
theorem no_io {P : Program} {w : World} {Mx : Nat → Prop} {n g : Nat} : ¬ (⟨P, w, Mx, n, fun _ => none, []⟩ : Ctx).io g := by
  rintro ⟨i, c, h⟩; cases h
/-- A function's contract, out of its body. -/
theorem sound_of {P : Program} {f : FuncId} {fn : Func} {c : Code} {S : Spec} {env : Env} (hf : P.funcs[f]? = some fn) (hb : fn.body = some c) (hok : codeOK P fn.ntmps c = true) (henv : EnvOK P env)
    (h : ∀ args r, S args = some r → args.length ≤ fn.ntmps ∧ ∀ (w : World) (Mx : Nat → Prop), awp ⟨P, w, Mx, fn.ntmps, fun _ => none, []⟩ env c (finQ (TI.of P) fn.results.toList r) ⟨argsF args, noH⟩) : Sound P f S := by
  intro args r hS w Mx vals hMx hsz hvals
  obtain ⟨hlen, hbody⟩ := h args r hS
  have hbody := hbody w Mx
  refine callsIn_wide.1 (callsIn_of_wp_marks (F := Fence.wide) (n := 0) hf hb trivial (wpIn_wide.2 ?_))
  have hR : Rel ⟨P, w, Mx, fn.ntmps, fun _ => none, []⟩ ⟨argsF args, noH⟩ noLay { tmps := vals ++ Array.replicate (fn.ntmps - vals.size) undef, defers := [] } w := by
    refine ⟨Marks.nil ⟨P, w, Mx, fn.ntmps, fun _ => none, []⟩ _, by simp; omega, fun g hg => ⟨hMx g hg, no_io⟩, fun i => ?_, fun b x hx => (by cases hx), fun b b' x x' g c c' hx => (by cases hx), fun b x g c hx => (by cases hx), BelowX.refl _ _ _, fun i x hx => (by cases hx)⟩
    simp only [argsF]
    by_cases hi : i < args.length
    · have hgi : args[i]? = some args[i] := List.getElem?_eq_getElem hi
      have hv := hvals i _ hgi
      have e1 : args.getD i .u = args[i] := by simp [hi]
      have e2 : (vals ++ Array.replicate (fn.ntmps - vals.size) undef).getD i undef = vals.getD i undef := by
        simp only [Array.getD_eq_getD_getElem?, Array.getElem?_append, show i < vals.size by omega, if_true]
      rw [e1, e2]
      exact hv.mono (fun g _ hg => ⟨(fun hh => hh.elim hg fun ⟨b, x, c, hx, _⟩ => by cases hx), rfl⟩) (HLe.refl _) (fun b hb => absurd rfl hb)
    · have e1 : args.getD i .u = .u := by simp [List.getD_eq_getElem?_getD, List.getElem?_eq_none (by omega : args.length ≤ i)]
      rw [e1]
      exact .u _ _
  have hwp := hbody henv hok noLay _ w hR
  refine Code.wp_mono ?_ hwp
  intro e a' w' he
  have done : ∀ s μ, Rel ⟨P, w, Mx, fn.ntmps, fun _ => none, []⟩ s μ a' w' → finR (TI.of P) s r fn.results.toList ∧ (∀ p, r ≠ .pnc p) → LeavesInM Fence.wide 0 P fn a'.tmps (CPost w Mx r) a'.defers .returning w' := by
    intro s μ hR' hfin
    refine leavesM (by simp) hR' rfl fun w2 ht hR2 => ?_
    obtain ⟨x, hx1, hx2⟩ := finR_run hR2 (fun _ => no_io) hfin.1 hfin.2
    exact ⟨x, hx1, hR2.hw.below fun _ => no_io, .inr ⟨hfin.2, x, rfl, hx2⟩⟩
  cases e with
  | normal => obtain ⟨s, μ, hR', hq⟩ := he; exact done s μ hR' hq
  | ret => obtain ⟨s, μ, hR', hq⟩ := he; exact done s μ hR' hq
  | exit i => obtain ⟨s, μ, hR', hq⟩ := he; exact hq.elim
  | goto l => exact he.elim
  | outgrown => exact he.elim
  | panic ch =>
    obtain ⟨s, μ, v, x, rfl, hR', hx, p, rfl, hp⟩ := he
    refine leavesM (by simp) hR' rfl fun w2 ht hR2 => ?_
    exact ⟨hR2.hw.below fun _ => no_io, .inl ⟨p, x, rfl, rfl, res_rep hR2 (hx.turned ht) rfl p hp⟩⟩
end Go.Proofs.Ytebflegkdfhoaaa.AE
