/-
  A plain machine for the code of functions, and its soundness: part AE22. Conditions: none; every lemma names its own.
-/
import Derived.Test.YtebflegkdfhoaaaAE21
namespace Go.Proofs.Ytebflegkdfhoaaa.AE
open Go Go.RowKit
set_option linter.unusedVariables false
/-! ## Code -/
def codeOK (P : Program) (n : Nat) : Code → Bool
  | .skip | .exit _ | .ret => true
  | .region _ ops d => ops.toList.all (opOK P n) && (!d || (drawOK ops && P.follows .mixedOrders))
  | .seq a b => codeOK P n a && codeOK P n b
  | .cond _ a b => codeOK P n a && codeOK P n b
  | .block _ a => codeOK P n a
  | .loop a => codeOK P n a
  | .rangeFunc _ ps a b => ps.toList.all (fun p => decide (p < n)) && codeOK P n a && codeOK P n b
  | _ => false
/-- Ends of the plain machine as ends of the code. -/
def liftX (Γ : Ctx) (Q : X → St → Prop) : Exit → Act → World → Prop
  | .normal, a, w => ∃ s μ, Rel Γ s μ a w ∧ Q .normal s
  | .exit i, a, w => ∃ s μ, Rel Γ s μ a w ∧ Q (.exit i) s
  | .ret, a, w => ∃ s μ, Rel Γ s μ a w ∧ Q .ret s
  | .panic ch, a, w => ∃ s μ v x, ch = [{ v := x, recovered := false }] ∧ Rel Γ s μ a w ∧ Rep w (forb Γ.Mx μ s.H) μ s.H v x ∧ Q (.pan v) s
  | _, _, _ => False
/-- What the plain machine shows of a piece of code. -/
def awp (Γ : Ctx) (env : Env) (c : Code) (Q : X → St → Prop) (s : St) : Prop :=
  EnvOK Γ.P env → codeOK Γ.P Γ.n c = true → ∀ μ a w, Rel Γ s μ a w → c.wp Γ.P (liftX Γ Q) a w
section
variable {Γ : Ctx} {env : Env} {Q : X → St → Prop} {s : St}
theorem liftX_mono {Q' : X → St → Prop} (h : ∀ x s, Q x s → Q' x s) : ∀ e a w, liftX Γ Q e a w → liftX Γ Q' e a w := by
  intro e a w he
  cases e with
  | normal => obtain ⟨s, μ, h1, h2⟩ := he; exact ⟨s, μ, h1, h _ _ h2⟩
  | exit i => obtain ⟨s, μ, h1, h2⟩ := he; exact ⟨s, μ, h1, h _ _ h2⟩
  | ret => obtain ⟨s, μ, h1, h2⟩ := he; exact ⟨s, μ, h1, h _ _ h2⟩
  | panic ch => obtain ⟨s, μ, v, x, h0, h1, h2, h3⟩ := he; exact ⟨s, μ, v, x, h0, h1, h2, h _ _ h3⟩
  | goto l => exact he
  | outgrown => exact he
theorem awp_mono {c : Code} {Q' : X → St → Prop} (h : ∀ x s, Q x s → Q' x s) (ha : awp Γ env c Q s) : awp Γ env c Q' s :=
  fun henv hok μ a w hR => Code.wp_mono (liftX_mono h) (ha henv hok μ a w hR)
theorem awp_skip (h : Q .normal s) : awp Γ env .skip Q s := fun _ _ μ a w hR => wp_skip ⟨s, μ, hR, h⟩
theorem awp_exit {i : Nat} (h : Q (.exit i) s) : awp Γ env (.exit i) Q s := fun _ _ μ a w hR => wp_exit ⟨s, μ, hR, h⟩
theorem awp_ret (h : Q .ret s) : awp Γ env .ret Q s := fun _ _ μ a w hR => wp_ret ⟨s, μ, hR, h⟩
theorem awp_seq' {a b : Code} (h : awp Γ env a (thenX (awp Γ env b Q) Q) s) : awp Γ env (.seq a b) Q s := by
  intro henv hok μ ac w hR
  simp only [codeOK, Bool.and_eq_true] at hok
  refine wp_seq (Code.wp_mono ?_ (h henv hok.1 μ ac w hR))
  intro e a' w' he
  cases e with
  | normal => obtain ⟨s', μ', h1, h2⟩ := he; exact h2 henv hok.2 μ' a' w' h1
  | exit i => exact he
  | ret => exact he
  | panic ch => exact he
  | goto l => exact he
  | outgrown => exact he
theorem awp_seq {a b : Code} (h : ∀ K : St → Prop, (∀ s, awp Γ env b Q s → K s) → awp Γ env a (thenX K Q) s) : awp Γ env (.seq a b) Q s := awp_seq' (h _ fun _ h => h)
theorem awp_cond {c : Operand} {x y : Code} {t : Bool} (hc : eva s.t c = .bool t) (h1 : t = true → awp Γ env x Q s) (h2 : t = false → awp Γ env y Q s) : awp Γ env (.cond c x y) Q s := by
  intro henv hok μ a w hR
  simp only [codeOK, Bool.and_eq_true] at hok
  have hv := eva_rep hR c
  rw [hc] at hv
  exact wp_cond_split hv.bool_inv (fun ht => h1 ht henv hok.1 μ a w hR) (fun ht => h2 ht henv hok.2 μ a w hR)
theorem awp_block {id : Nat} {c : Code} (h : awp Γ env c (blockX id Q) s) : awp Γ env (.block id c) Q s := by
  intro henv hok μ a w hR
  refine wp_block (Code.wp_mono ?_ (h henv hok μ a w hR))
  intro e a' w' he
  cases e with
  | normal => exact he
  | exit i =>
    obtain ⟨s', μ', h1, h2⟩ := he
    simp only [blockX] at h2
    simp only [Exit.inBlock]
    split at h2
    · rename_i hi; rw [if_pos hi]; exact ⟨s', μ', h1, h2⟩
    · rename_i hi; rw [if_neg hi]; exact ⟨s', μ', h1, h2⟩
  | ret => exact he
  | panic ch => exact he
  | goto l => exact he
  | outgrown => exact he
/-- What is left of a region's operations. -/
def opsK (Γ : Ctx) (env : Env) (ops : Array Oper) (l : List Oper) (s : St) (K : St → Trace → Prop) (Q : X → St → Prop) : Prop := runK K Q (aRun (TI.of Γ.P) env ops l s)
theorem awp_region {id : Nat} {l : List Oper} (h : opsK Γ env l.toArray l s (fun s' _ => Q .normal s') Q) : awp Γ env (.region id l.toArray false) Q s := by
  intro henv hok μ a w hR
  simp only [codeOK, Bool.and_eq_true] at hok
  refine wp_region_list ?_
  refine sim_list henv l s μ a w (fun o ho => List.all_eq_true.1 hok.1 o (by simpa using ho)) hR ?_
  unfold opsK runK at h
  unfold RunK
  split at h
  · rename_i s' tr hr; rw [hr]; exact fun μ' a' w' hR' => ⟨s', μ', hR', h⟩
  · rename_i s' v hr; rw [hr]; exact fun x μ' a' w' hR' hx => ⟨s', μ', v, x, rfl, hR', hx, h⟩
  · exact h.elim
theorem awp_draw {id : Nat} {l : List Oper} (h : opsK Γ env l.toArray l s (fun s' tr => okDraw l.toArray tr = true ∧ Q .normal s') (fun _ _ => False)) : awp Γ env (.region id l.toArray true) Q s := by
  intro henv hok μ a w hR
  simp only [codeOK, Bool.and_eq_true, Bool.not_true, Bool.false_or] at hok
  unfold opsK runK at h
  split at h
  · rename_i s' tr hr
    exact sim_draw henv hok.2.2 (fun o ho => List.all_eq_true.1 hok.1 o ho) hok.2.1 (tr := tr) (by simpa using hr) h.1 (fun μ' a' w' hR' => ⟨s', μ', hR', h.2⟩) hR
  · exact h.elim
  · exact h.elim
theorem opsK_nil {ops : Array Oper} {K} (h : K s []) : opsK Γ env ops [] s K Q := h
/-- What follows one operation. -/
def stepK (K : St → List Bid → List Bid → Prop) (Q : X → St → Prop) : Option Out → Prop
  | some ⟨s, c, f, none⟩ => K s c f
  | some ⟨s, _, _, some v⟩ => Q (.pan v) s
  | none => False
theorem opsK_cons {ops : Array Oper} {o : Oper} {l : List Oper} {K} (h : ∀ K' : St → List Bid → List Bid → Prop, (∀ s c f, opsK Γ env ops l s (fun s' tr => K s' ((c, f) :: tr)) Q → K' s c f) → stepK K' Q (aStep (TI.of Γ.P) env ops o s)) : opsK Γ env ops (o :: l) s K Q := by
  have := h (fun s c f => opsK Γ env ops l s (fun s' tr => K s' ((c, f) :: tr)) Q) (fun _ _ _ h => h)
  unfold opsK aRun
  revert this
  cases aStep (TI.of Γ.P) env ops o s with
  | none => intro h; exact h
  | some x =>
    obtain ⟨s', c, f, pan⟩ := x
    cases pan with
    | some v => intro h; exact h
    | none =>
      simp only [stepK, opsK]
      cases aRun (TI.of Γ.P) env ops l s' with
      | done s'' tr => intro h; exact h
      | pan s'' v => intro h; exact h
      | bad => intro h; exact h
/-- One state tells no more than another. -/
def Weak (Γ : Ctx) (s' s : St) : Prop := ∀ μ a w, Rel Γ s μ a w → ∃ μ', Rel Γ s' μ' a w
theorem Weak.refl (s : St) : Weak Γ s s := fun μ a w h => ⟨μ, h⟩
theorem awp_weak {c : Code} {s' : St} (hw : Weak Γ s' s) (h : awp Γ env c Q s') : awp Γ env c Q s := fun henv hok μ a w hR => by
  obtain ⟨μ', hR'⟩ := hw μ a w hR
  exact h henv hok μ' a w hR'
theorem least {p : Nat → Prop} (h : ∃ n, p n) : ∃ n, p n ∧ ∀ k, p k → n ≤ k := by
  obtain ⟨n, hn⟩ := h
  induction n using Nat.strongRecOn with
  | _ n ih =>
    by_cases h' : ∃ k, p k ∧ k < n
    · obtain ⟨k, hk, hlt⟩ := h'; exact ih k hlt hk
    · exact ⟨n, hn, fun k hk => Nat.le_of_not_lt fun hlt => h' ⟨k, hk, hlt⟩⟩
/-- A loop: what holds at the head of each round, told as states of the plain machine. -/
theorem awp_loop {ι : Type} {body : Code} (I : ι → St) (m : ι → Nat) (i0 : ι) (h0 : Weak Γ (I i0) s) (hr : ∀ i, awp Γ env body (thenX (fun s' => ∃ j, Weak Γ (I j) s' ∧ m j < m i) Q) (I i)) : awp Γ env (.loop body) Q s := by
  intro henv hok μ a w hR
  have hdec : ∀ (a : Act) (w : World), (∃ i μ, Rel Γ (I i) μ a w) → ∃ n, (∃ i μ, Rel Γ (I i) μ a w ∧ m i = n) := fun a w ⟨i, μ, h⟩ => ⟨m i, i, μ, h, rfl⟩
  classical
  -- the least measure at a state
  let meas : Act → World → Nat := fun a w => if h : ∃ n, (∃ i μ, Rel Γ (I i) μ a w ∧ m i = n) then Classical.choose (least h) else 0
  obtain ⟨μ0, hR0⟩ := h0 μ a w hR
  refine wp_loop (fun a w => ∃ i μ, Rel Γ (I i) μ a w) meas ⟨i0, μ0, hR0⟩ ?_
  intro a' w' hI
  have hex := hdec a' w' hI
  have hfind := (Classical.choose_spec (least hex)).1
  obtain ⟨i, μ', hRi, hmi⟩ := hfind
  have hmeas : meas a' w' = m i := by simp only [meas, dif_pos hex, hmi]
  refine Code.wp_mono ?_ (hr i henv hok μ' a' w' hRi)
  intro e a'' w'' he
  cases e with
  | normal =>
    obtain ⟨s', μ'', h1, j, h2, h3⟩ := he
    obtain ⟨μ3, h4⟩ := h2 μ'' a'' w'' h1
    refine ⟨⟨j, μ3, h4⟩, ?_⟩
    have hex2 : ∃ n, (∃ i μ, Rel Γ (I i) μ a'' w'' ∧ m i = n) := ⟨m j, j, μ3, h4, rfl⟩
    have : meas a'' w'' ≤ m j := by
      simp only [meas, dif_pos hex2]
      exact (Classical.choose_spec (least hex2)).2 _ ⟨j, μ3, h4, rfl⟩
    omega
  | exit i => exact he
  | ret => exact he
  | panic ch => exact he
  | goto l => exact he
  | outgrown => exact he
end
end Go.Proofs.Ytebflegkdfhoaaa.AE
