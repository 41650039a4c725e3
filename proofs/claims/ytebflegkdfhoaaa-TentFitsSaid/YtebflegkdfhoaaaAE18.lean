/-
  A plain machine for the code of functions, and its soundness: part AE18. Conditions: none; every lemma names its own.
-/
import Derived.Test.YtebflegkdfhoaaaAE17
namespace Go.Proofs.Ytebflegkdfhoaaa.AE
open Go Go.RowKit
set_option linter.unusedVariables false
/-! ## What an operation does, apart from where it is put -/
/-- An operation's yield; a skipped one yields nothing. -/
def eff (T : TypeId → Option TI) (env : Env) (ops : Array Oper) (o : Oper) (t : Nat → AV) (H : Heap) : Option R :=
  match o.guard with
  | none => aVal T env o.dst o.op (eva t) H
  | some (j, want) => match guardV ops j t with
    | .bool b => if b = want then aVal T env o.dst o.op (eva t) H else some ⟨.tup [], [], [], [], none⟩
    | .tup [] => some ⟨.tup [], [], [], [], none⟩
    | _ => none
theorem aStep_eff (T : TypeId → Option TI) (env : Env) (ops : Array Oper) (o : Oper) (s : St) : aStep T env ops o s = fin o.dst s (eff T env ops o s.t s.H) := by
  unfold aStep eff
  cases o.guard with
  | none => rfl
  | some jw =>
    obtain ⟨j, want⟩ := jw
    simp only
    cases guardV ops j s.t with
    | bool b => simp only [guarded]; split <;> rfl
    | tup l => cases l <;> rfl
    | _ => rfl
def pureOp : Op → Bool
  | .move _ | .assign _ | .pick _ _ _ | .binOp _ _ _ _ _ | .unOp _ _ _ | .convert _ _ _ | .makeInterface _ _ | .makeFunc _ _ _ | .field _ _ _ | .extract _ _ | .nilCheck _ => true
  | _ => false
def loadOp : Op → Bool
  | .load _ _ => true
  | _ => false
theorem aVal_congr {T : TypeId → Option TI} {env : Env} {dst : Option Tmp} {op : Op} {ρ ρ' : Operand → AV} {H : Heap} (h : ∀ x ∈ op.operands, ρ x = ρ' x) : aVal T env dst op ρ H = aVal T env dst op ρ' H := by
  cases op with
  | build t ps =>
    have : (ps.toList.map fun p => (p.1, ρ p.2)) = (ps.toList.map fun p => (p.1, ρ' p.2)) := by
      apply List.map_congr_left
      intro p hp
      rw [h p.2 (by simp [Op.operands]; exact ⟨p.1, by simpa using hp⟩)]
    simp only [aVal, this]
  | buildSlice t n ps =>
    have : (ps.toList.map fun p => (p.1, ρ p.2)) = (ps.toList.map fun p => (p.1, ρ' p.2)) := by
      apply List.map_congr_left
      intro p hp
      rw [h p.2 (by simp [Op.operands]; exact ⟨p.1, by simpa using hp⟩)]
    simp only [aVal, this]
  | makeFunc f first caps =>
    have : caps.toList.map ρ = caps.toList.map ρ' := by
      apply List.map_congr_left
      intro x hx
      exact h x (by simp [Op.operands]; exact .inr (by simpa using hx))
    simp only [aVal, this]
  | slice t x lo hi mx =>
    have h1 : ρ x = ρ' x := h x (by simp [Op.operands])
    have h2 : lo.map ρ = lo.map ρ' := by cases lo with | none => rfl | some l => simp [h l (by simp [Op.operands])]
    have h3 : hi.map ρ = hi.map ρ' := by cases hi with | none => rfl | some l => simp [h l (by simp [Op.operands])]
    simp only [aVal, h1, h2, h3]
  | call c =>
    obtain ⟨callee, args, ts⟩ := c
    have hargs : ∀ x ∈ args.toList, ρ x = ρ' x := fun x hx => h x (by simp [Op.operands, Call.operands]; exact .inr (by simpa using hx))
    have : args.toList.map ρ = args.toList.map ρ' := List.map_congr_left hargs
    cases callee with
    | invoke r m => rfl
    | value f =>
      have hf : ρ f = ρ' f := h f (by simp [Op.operands, Call.operands])
      simp only [aVal, vCallC, this, hf]
    | builtin b =>
      simp only [aVal, vCallC]
      generalize args.toList = al at hargs
      generalize ts.toList = tl
      unfold vBuiltin
      split
      · rw [hargs _ (by simp)]
      · rw [hargs _ (by simp), hargs _ (by simp)]
      · rename_i _ x y z uu
        rw [hargs x (by simp), hargs y (by simp), hargs z (by simp), hargs uu (by simp)]
      · rw [hargs _ (by simp), hargs _ (by simp)]
      · rename_i y x t t'
        rw [hargs y (by simp), hargs x (by simp)]
      · rw [hargs _ (by simp)]
      · rfl
  | move x => simp only [aVal, h x (by simp [Op.operands])]
  | assign x => simp only [aVal, h x (by simp [Op.operands])]
  | pick c x y => simp only [aVal, h c (by simp [Op.operands]), h x (by simp [Op.operands]), h y (by simp [Op.operands])]
  | box t x => simp only [aVal, h x (by simp [Op.operands])]
  | load t x => simp only [aVal, h x (by simp [Op.operands])]
  | store t x y => simp only [aVal, h x (by simp [Op.operands]), h y (by simp [Op.operands])]
  | nilCheck x => simp only [aVal, h x (by simp [Op.operands])]
  | binOp b t x y t' => simp only [aVal, h x (by simp [Op.operands]), h y (by simp [Op.operands])]
  | unOp b t x => simp only [aVal, h x (by simp [Op.operands])]
  | convert t t' x => simp only [aVal, h x (by simp [Op.operands])]
  | makeInterface t x => simp only [aVal, h x (by simp [Op.operands])]
  | panic x => simp only [aVal, h x (by simp [Op.operands])]
  | fieldAddr t x f => simp only [aVal, h x (by simp [Op.operands])]
  | field t x f => simp only [aVal, h x (by simp [Op.operands])]
  | indexAddr t x ix => simp only [aVal, h x (by simp [Op.operands]), h ix (by simp [Op.operands])]
  | extract x i => simp only [aVal, h x (by simp [Op.operands])]
  | _ => rfl
section
variable {T : TypeId → Option TI} {env : Env} {ops : Array Oper} {o : Oper}
theorem eva_congr {t t' : Nat → AV} {x : Operand} (h : ∀ i, x = .tmp i → t i = t' i) : eva t x = eva t' x := by
  cases x with
  | tmp i => exact h i rfl
  | _ => rfl
theorem eff_congr {t t' : Nat → AV} {H : Heap} (h : ∀ i ∈ o.looksAt ops, t i = t' i) : eff T env ops o t H = eff T env ops o t' H := by
  have h1 : aVal T env o.dst o.op (eva t) H = aVal T env o.dst o.op (eva t') H := aVal_congr fun x hx => eva_congr fun i hi => h i (by
    subst hi
    exact List.mem_append_left _ (List.mem_filterMap.2 ⟨.tmp i, by simpa using hx, rfl⟩))
  unfold eff
  cases hg : o.guard with
  | none => exact h1
  | some jw =>
    obtain ⟨j, want⟩ := jw
    have h2 : guardV ops j t = guardV ops j t' := by
      unfold guardV
      cases hd : (ops[j]?).bind (·.dst) with
      | none => rfl
      | some d => exact h d (by simp [Oper.looksAt, hg, hd])
    simp only [h1, h2]
theorem eff_ext {Γ : Ctx} {s : St} {μ : Lay} {a : Act} {w : World} (h : Rel Γ s μ a w) {H' : Heap} (hH : ∀ b, s.H b ≠ none → H' b = s.H b) : eff T env ops o s.t H' = eff T env ops o s.t s.H := by
  unfold eff
  simp only [aVal_ext h hH]
theorem aVal_pure (hp : pureOp o.op = true) (ρ : Operand → AV) (H H' : Heap) : aVal T env o.dst o.op ρ H = aVal T env o.dst o.op ρ H' := by
  cases hop : o.op <;> rw [hop] at hp <;> simp [pureOp] at hp <;> rfl
theorem val_parts {x : Option R} {r : R} (hx : x = some r) (h : ∀ r, x = some r → r.nw = [] ∧ r.up = []) : r.nw = [] ∧ r.up = [] := h r hx
theorem aVal_pure_parts (hp : pureOp o.op = true) {ρ : Operand → AV} {H : Heap} {r : R} (h : aVal T env o.dst o.op ρ H = some r) : r.nw = [] ∧ r.up = [] := by
  have hval : ∀ {v : AV} {r : R}, val v = some r → r.nw = [] ∧ r.up = [] := fun h => by cases val_inj h; exact ⟨rfl, rfl⟩
  have hoptV : ∀ {x : Option AV} {r : R}, optV x = some r → r.nw = [] ∧ r.up = [] := fun {x} {r} h => by cases x with | none => cases h | some v => exact hval h
  have hoptB : ∀ {n : Bool} {x : Option Bool} {r : R}, optB n x = some r → r.nw = [] ∧ r.up = [] := fun {n} {x} {r} h => by cases x with | none => cases h | some v => exact hval h
  cases hop : o.op <;> rw [hop] at hp h <;> simp [pureOp] at hp <;> simp only [aVal] at h
  case move => exact hval h
  case assign => exact hval h
  case pick c x y => cases hc : ρ c <;> rw [hc] at h <;> simp only [vPick] at h <;> first | exact hval h | (cases h; done)
  case nilCheck x => cases hc : ρ x <;> rw [hc] at h <;> simp only [vNil] at h <;> first | exact hval h | (cases h; done)
  case binOp b t x y t' =>
    unfold vBin at h
    split at h
    · split at h
      · exact hoptV h
      · cases h
    · have hO : ∀ neg, eqO neg (ρ x) (ρ y) (T t) = some r → r.nw = [] ∧ r.up = [] := by
        intro neg h
        unfold eqO at h
        split at h
        · split at h
          · exact hval h
          · cases h
        · exact hoptB h
        · cases h
      split at h <;> first | exact hO _ h | (cases h; done)
  case unOp b t x => cases b <;> cases hc : ρ x <;> rw [hc] at h <;> simp only [vUn, vNot, vNeg] at h <;> first | exact hval h | (cases h; done)
  case convert t t' x =>
    cases hT : T t' with
    | none => rw [hT] at h; cases ρ x <;> cases h
    | some i =>
      rw [hT] at h
      cases hc : ρ x <;> rw [hc] at h <;> simp only [vConv] at h <;> try (cases h; done)
      cases hk : i.kind <;> rw [hk] at h <;> simp only [convK] at h <;> first | exact hval h | (cases h; done)
  case makeInterface t x => cases hc : ρ x <;> rw [hc] at h <;> simp only [vIface] at h <;> first | exact hval h | (cases h; done)
  case makeFunc f first caps => unfold vFunc at h; split at h <;> first | exact hval h | (cases h; done)
  case field t x f =>
    cases hT : T t with
    | none => rw [hT] at h; cases ρ x <;> cases h
    | some i =>
      rw [hT] at h
      cases hc : ρ x <;> rw [hc] at h <;> simp only [vField] at h <;> try (cases h; done)
      unfold fieldV at h
      split at h
      · split at h
        · split at h
          · exact hval h
          · cases h
        · exact hoptV h
      · cases h
  case extract x i => cases hc : ρ x <;> rw [hc] at h <;> simp only [vExtract] at h <;> first | exact hoptV h | (cases h; done)
theorem eff_pure (hp : pureOp o.op = true) (t : Nat → AV) (H H' : Heap) : eff T env ops o t H = eff T env ops o t H' := by
  unfold eff
  simp only [aVal_pure hp (eva t) H H']
theorem eff_pure_parts (hp : pureOp o.op = true) {t : Nat → AV} {H : Heap} {r : R} (h : eff T env ops o t H = some r) : r.nw = [] ∧ r.up = [] := by
  unfold eff at h
  split at h
  · exact aVal_pure_parts hp h
  · split at h
    · split at h
      · exact aVal_pure_parts hp h
      · cases h; exact ⟨rfl, rfl⟩
    · cases h; exact ⟨rfl, rfl⟩
    · cases h
theorem aVal_load (hp : loadOp o.op = true) {ρ : Operand → AV} {H : Heap} {r : R} (h : aVal T env o.dst o.op ρ H = some r) : r.nw = [] ∧ r.up = [] ∧ (∀ H', (∀ b ∈ r.fp, H' b = H b) → aVal T env o.dst o.op ρ H' = some r) ∧ (∀ b ∈ r.fp, ∃ x ∈ o.op.operands, (∃ p, ρ x = .ref b p) ∨ ∃ i p, ρ x = .eref b i p) := by
  cases hop : o.op <;> rw [hop] at hp h <;> simp [loadOp] at hp
  rename_i t x
  simp only [aVal] at h ⊢
  cases hT : T t with
  | none => rw [hT] at h; simp [vLoad] at h
  | some i =>
    rw [hT] at h
    cases hx : ρ x <;> rw [hx] at h <;> simp only [vLoad] at h <;> try (cases h; done)
    · rename_i b p
      cases hb : H b with
      | none => rw [hb] at h; cases h
      | some y =>
        rw [hb] at h
        cases y <;> simp only [loadB] at h <;> try (cases h; done)
        obtain ⟨v, hv, rfl⟩ := Option.map_eq_some_iff.1 h
        refine ⟨rfl, rfl, fun H' hH => ?_, fun b' hb' => ?_⟩
        · simp only [vLoad, hH b (by simp), hb, loadB, hv, Option.map_some]
        · simp only [List.mem_singleton] at hb'
          subst hb'
          exact ⟨x, by simp [Op.operands], .inl ⟨p, hx⟩⟩
    · rename_i b j p
      cases hb : nthRow j (H b) with
      | none => rw [hb] at h; cases h
      | some cs =>
        rw [hb] at h
        simp only [loadE] at h
        obtain ⟨v, hv, rfl⟩ := Option.map_eq_some_iff.1 h
        refine ⟨rfl, rfl, fun H' hH => ?_, fun b' hb' => ?_⟩
        · simp only [vLoad, hH b (by simp), hb, loadE, hv, Option.map_some]
        · simp only [List.mem_singleton] at hb'
          subst hb'
          exact ⟨x, by simp [Op.operands], .inr ⟨j, p, hx⟩⟩
    · cases hl : ld i _ _ with
      | none => rw [hl] at h; cases h
      | some v =>
        rw [hl] at h
        cases val_inj h
        exact ⟨rfl, rfl, fun H' _ => by simp only [vLoad, hl]; rfl, fun b hb => by simp at hb⟩
theorem eff_load {Γ : Ctx} {s : St} {μ : Lay} {a : Act} {w : World} (h : Rel Γ s μ a w) (hp : loadOp o.op = true) {H : Heap} {r : R} (he : eff T env ops o s.t H = some r) :
    r.nw = [] ∧ r.up = [] ∧ (∀ H', (∀ b ∈ r.fp, H' b = H b) → eff T env ops o s.t H' = some r) ∧ (∀ b ∈ r.fp, s.H b ≠ none) := by
  have live : ∀ {r : R}, aVal T env o.dst o.op (eva s.t) H = some r → r.nw = [] ∧ r.up = [] ∧ (∀ H', (∀ b ∈ r.fp, H' b = H b) → aVal T env o.dst o.op (eva s.t) H' = some r) ∧ (∀ b ∈ r.fp, s.H b ≠ none) := by
    intro r hr
    obtain ⟨h1, h2, h3, h4⟩ := aVal_load hp hr
    refine ⟨h1, h2, h3, fun b hb => ?_⟩
    obtain ⟨x, _, hx⟩ := h4 b hb
    have := eva_rep h x
    rcases hx with ⟨p, hx⟩ | ⟨i, p, hx⟩
    · rw [hx] at this; exact rep_ref this
    · rw [hx] at this; exact rep_eref this
  unfold eff at he ⊢
  split at he
  · exact live he
  · split at he
    · split at he
      · rename_i hb
        obtain ⟨h1, h2, h3, h4⟩ := live he
        exact ⟨h1, h2, fun H' hH => by simp only [*, if_true]; exact h3 H' hH, h4⟩
      · rename_i hb
        cases he
        exact ⟨rfl, rfl, fun H' _ => by simp only [*, if_false], fun b hb => by simp at hb⟩
    · cases he
      exact ⟨rfl, rfl, fun H' _ => by simp only [*], fun b hb => by simp at hb⟩
    · cases he
end
end Go.Proofs.Ytebflegkdfhoaaa.AE
