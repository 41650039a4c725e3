/-
  A plain machine for the code of functions, and its soundness: code within a round of a range over a function, part 1. Conditions: none; every lemma names its own.
-/
import Derived.Test.YtebflegkdfhoaaaAE25
import Derived.RangeFuncCalls
import Derived.TacticsIn
namespace Go.Proofs.Ytebflegkdfhoaaa.AE
open Go Go.RowKit
set_option linter.unusedVariables false
def noDefO (o : Oper) : Bool := match o.op with
  | .defer _ => false
  | _ => true
theorem noDefO_ne {o : Oper} (h : noDefO o = true) : ∀ c, o.op ≠ .defer c := by
  intro c hc
  simp [noDefO, hc] at h
section
variable {P : Program} {a : Act} {w : World} {l n : Nat}
theorem callsIn_round {f : FuncId} {args : Array Value} {R : Ending → World → Prop} (h : Calls P f args w R) : CallsIn (Fence.wide.inRound l) n P f args w R := (callsIn_wide.2 h).inRound l
theorem rowsIn_round {row : String} {args : Array Value} {R : Value → World → Prop} (h : Rows P row args w R) : RowsIn (Fence.wide.inRound l) n P row args w R := fun c cs _ =>
  let ⟨v, w', r, s⟩ := h c cs
  ⟨v, w', r, stepsIn_wide.2 s⟩
theorem wpIn_of_wp {o : Oper} {next next' : Act → World → Prop} {Q : Exit → Act → World → Prop} (hd : noDefO o = true) (hn : ∀ a w, next a w → next' a w) (h : o.wp P a w next Q) : o.wpIn (Fence.wide.inRound l) n P a w next' Q := by
  refine ⟨fun _ _ => trivial, ?_⟩
  rw [Oper.semAt_eq _ _ _ (noDefO_ne hd)]
  unfold Oper.wp at h
  revert h
  cases (execOp a.eval o).run P w with
  | ok nx w' =>
    cases nx with
    | value v => exact fun h => hn _ _ h
    | skip => exact fun h => hn _ _ h
    | defer d => exact fun h => hn _ _ h
    | enter f args =>
      intro h
      refine ⟨fun h => (by cases h), callsIn_round (Calls.mono h fun e w'' he => ?_)⟩
      cases e with
      | returned v => exact hn _ _ he
      | panicked ch => exact he
      | outgrown => exact he
    | row row args => exact fun h => ⟨fun h => (by cases h), rowsIn_round (Rows.mono h fun v w'' he => hn _ _ he)⟩
    | _ => exact fun h => h.elim
  | halt hl w' =>
    cases hl with
    | panic v => exact fun h => h
    | _ => exact fun h => h.elim
theorem wpListIn_of {ops : Array Oper} {Q : Exit → Act → World → Prop} (hQ : ¬ LetsOut Q) : ∀ (os : List Oper) (a : Act) (w : World), os.all noDefO = true → wpList P ops Q os a w → wpListIn (Fence.wide.inRound l) n P ops Q os a w
  | [], a, w, _, h => h
  | o :: os, a, w, hd, h => by
    simp only [List.all_cons, Bool.and_eq_true] at hd
    simp only [wpList] at h
    simp only [wpListIn]
    split
    · rename_i hw
      rw [if_pos hw] at h
      rcases h with h | ⟨_, h⟩
      · exact wpIn_of_wp hd.1 (fun a w => wpListIn_of hQ os a w hd.2) h
      · exact absurd h hQ
    · rename_i hw
      rw [if_neg hw] at h
      exact ⟨fun _ _ => trivial, wpListIn_of hQ os _ _ hd.2 h⟩
end
/-- Code without defer statements. -/
def noDef : Code → Bool
  | .region _ ops d => ops.toList.all noDefO && !d
  | .seq a b => noDef a && noDef b
  | .cond _ a b => noDef a && noDef b
  | .block _ a => noDef a
  | _ => true
/-- What the plain machine shows of a piece of code, within a round of loop l. -/
def awpR (Γ : Ctx) (env : Env) (l n : Nat) (c : Code) (Q : X → St → Prop) (s : St) : Prop :=
  EnvOK Γ.P env → codeOK Γ.P Γ.n c = true → noDef c = true → ∀ μ a w, Rel Γ s μ a w → c.wpIn (Fence.wide.inRound l) n Γ.P (liftX Γ Q) a w
section
variable {Γ : Ctx} {env : Env} {Q : X → St → Prop} {s : St} {l n : Nat}
theorem liftX_stays (Q : X → St → Prop) : ¬ LetsOut (liftX Γ Q) := fun ⟨_, _, h⟩ => h
theorem awpR_mono {c : Code} {Q' : X → St → Prop} (h : ∀ x s, Q x s → Q' x s) (ha : awpR Γ env l n c Q s) : awpR Γ env l n c Q' s :=
  fun henv hok hnd μ a w hR => Code.wpIn_mono (liftX_mono h) (ha henv hok hnd μ a w hR)
theorem awpR_skip (h : Q .normal s) : awpR Γ env l n .skip Q s := fun _ _ _ μ a w hR => wpIn_skip ⟨s, μ, hR, h⟩
theorem awpR_exit {i : Nat} (h : Q (.exit i) s) : awpR Γ env l n (.exit i) Q s := fun _ _ _ μ a w hR => wpIn_exit ⟨s, μ, hR, h⟩
theorem awpR_ret (h : Q .ret s) : awpR Γ env l n .ret Q s := fun _ _ _ μ a w hR => wpIn_ret ⟨s, μ, hR, h⟩
theorem awpR_seq' {a b : Code} (h : awpR Γ env l n a (thenX (awpR Γ env l n b Q) Q) s) : awpR Γ env l n (.seq a b) Q s := by
  intro henv hok hnd μ ac w hR
  simp only [codeOK, Bool.and_eq_true] at hok
  simp only [noDef, Bool.and_eq_true] at hnd
  refine wpIn_seq (Code.wpIn_mono ?_ (h henv hok.1 hnd.1 μ ac w hR))
  intro e a' w' he
  cases e with
  | normal => obtain ⟨s', μ', h1, h2⟩ := he; exact h2 henv hok.2 hnd.2 μ' a' w' h1
  | exit i => exact he
  | ret => exact he
  | panic ch => exact he
  | goto l => exact he
  | outgrown => exact he
theorem awpR_seq {a b : Code} (h : ∀ K : St → Prop, (∀ s, awpR Γ env l n b Q s → K s) → awpR Γ env l n a (thenX K Q) s) : awpR Γ env l n (.seq a b) Q s := awpR_seq' (h _ fun _ h => h)
theorem awpR_cond {c : Operand} {x y : Code} {t : Bool} (hc : eva s.t c = .bool t) (h1 : t = true → awpR Γ env l n x Q s) (h2 : t = false → awpR Γ env l n y Q s) : awpR Γ env l n (.cond c x y) Q s := by
  intro henv hok hnd μ a w hR
  simp only [codeOK, Bool.and_eq_true] at hok
  simp only [noDef, Bool.and_eq_true] at hnd
  have hv := eva_rep hR c
  rw [hc] at hv
  exact wpIn_cond_split hv.bool_inv (fun ht => h1 ht henv hok.1 hnd.1 μ a w hR) (fun ht => h2 ht henv hok.2 hnd.2 μ a w hR)
theorem awpR_block {id : Nat} {c : Code} (h : awpR Γ env l n c (blockX id Q) s) : awpR Γ env l n (.block id c) Q s := by
  intro henv hok hnd μ a w hR
  refine wpIn_block (Code.wpIn_mono ?_ (h henv hok hnd μ a w hR))
  intro e a' w' he
  cases e with
  | normal => exact he
  | exit i =>
    obtain ⟨s', μ', h1, h2⟩ := he
    simp only [blockX] at h2
    simp only [Exit.inBlock]
    split at h2
    · rename_i hi; rw [if_pos hi]; exact ⟨s', μ', h1, h2⟩
    · rename_i hi; rw [if_neg hi]; exact ⟨s', μ', h1, h2⟩
  | ret => exact he
  | panic ch => exact he
  | goto l => exact he
  | outgrown => exact he
theorem awpR_region {id : Nat} {os : List Oper} (h : opsK Γ env os.toArray os s (fun s' _ => Q .normal s') Q) : awpR Γ env l n (.region id os.toArray false) Q s := by
  intro henv hok hnd μ a w hR
  simp only [codeOK, Bool.and_eq_true] at hok
  simp only [noDef, Bool.and_eq_true] at hnd
  refine wpIn_region_list (wpListIn_of (liftX_stays Q) _ _ _ hnd.1 ?_)
  refine sim_list henv os s μ a w (fun o ho => List.all_eq_true.1 hok.1 o (by simpa using ho)) hR ?_
  unfold opsK runK at h
  unfold RunK
  split at h
  · rename_i s' tr hr; rw [hr]; exact fun μ' a' w' hR' => ⟨s', μ', hR', h⟩
  · rename_i s' v hr; rw [hr]; exact fun x μ' a' w' hR' hx => ⟨s', μ', v, x, rfl, hR', hx, h⟩
  · exact h.elim
theorem awpR_weak {c : Code} {s' : St} (hw : Weak Γ s' s) (h : awpR Γ env l n c Q s') : awpR Γ env l n c Q s := fun henv hok hnd μ a w hR => by
  obtain ⟨μ', hR'⟩ := hw μ a w hR
  exact h henv hok hnd μ' a w hR'
end
end Go.Proofs.Ytebflegkdfhoaaa.AE
