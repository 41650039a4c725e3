/-
  A plain machine for the code of functions, and its soundness: part AE20. Conditions: none; every lemma names its own.
-/
import Derived.Test.YtebflegkdfhoaaaAE19
namespace Go.Proofs.Ytebflegkdfhoaaa.AE
open Go Go.RowKit
set_option linter.unusedVariables false
/-! ## Whatever order is drawn -/
def preds (o : Oper) : List Nat := (o.after.toList.filter (Region.binds .any)).map (·.on)
def maskB (acc : List Nat) : List Nat → Nat → Nat
  | [], m => m
  | k :: l, m => maskB acc l (m ||| 2 ^ k ||| acc.getD k 0)
/-- For each operation, those that the edges put ahead of it. -/
def befL : List Nat → List Oper → List Nat
  | acc, [] => acc
  | acc, o :: l => befL (acc ++ [maskB acc (preds o) 0]) l
theorem maskB_bit (acc : List Nat) : ∀ (l : List Nat) (m j : Nat), (maskB acc l m).testBit j = true → m.testBit j = true ∨ ∃ k ∈ l, k = j ∨ (acc.getD k 0).testBit j = true
  | [], m, j, h => .inl h
  | k :: l, m, j, h => by
    rcases maskB_bit acc l _ j h with h' | ⟨k', hk', h'⟩
    · simp only [Nat.testBit_or, Bool.or_eq_true] at h'
      rcases h' with (h' | h') | h'
      · exact .inl h'
      · right
        refine ⟨k, by simp, .inl ?_⟩
        rw [Nat.testBit_two_pow] at h'
        simpa using h'
      · exact .inr ⟨k, by simp, .inr h'⟩
    · exact .inr ⟨k', by simp [hk'], h'⟩
theorem befL_pre : ∀ (l : List Oper) (acc : List Nat), ∃ r, befL acc l = acc ++ r ∧ r.length = l.length
  | [], acc => ⟨[], by simp [befL]⟩
  | o :: l, acc => by
    obtain ⟨r, h1, h2⟩ := befL_pre l (acc ++ [maskB acc (preds o) 0])
    exact ⟨maskB acc (preds o) 0 :: r, by rw [befL, h1]; simp, by simp [h2]⟩
theorem befL_at (l : List Oper) : ∀ (acc : List Nat) (i : Nat) (o : Oper), l[i]? = some o → (befL acc l)[acc.length + i]? = some (maskB ((befL acc l).take (acc.length + i)) (preds o) 0) := by
  induction l with
  | nil => intro acc i o h; simp at h
  | cons o l ih =>
    intro acc i o' h
    generalize hm : maskB acc (preds o) 0 = m
    have hb : befL acc (o :: l) = befL (acc ++ [m]) l := by rw [← hm]; rfl
    rw [hb]
    cases i with
    | zero =>
      simp only [List.getElem?_cons_zero, Option.some.injEq] at h
      subst h
      obtain ⟨r, h1, h2⟩ := befL_pre l (acc ++ [m])
      rw [h1, Nat.add_zero, List.append_assoc, List.getElem?_append_right (Nat.le_refl _), List.take_append_of_le_length (Nat.le_refl _), List.take_length, hm]
      simp
    | succ i =>
      have := ih (acc ++ [m]) i o' (by simpa using h)
      rw [List.length_append, List.length_singleton] at this
      rw [show acc.length + (i + 1) = acc.length + 1 + i from by omega]
      exact this
/-- A region that may draw its order: edges go back; operations that no edge orders share no temporary. -/
def drawOK (ops : Array Oper) : Bool :=
  let b := befL [] ops.toList
  (List.range ops.size).all fun j => match ops[j]? with
    | some oj => (preds oj).all (fun k => decide (k < j)) && (List.range j).all fun i => (b.getD j 0).testBit i || (match ops[i]? with | some oi => oi.apart ops oj | none => true)
    | none => true
/-- Pairs that no edge orders and that are not plain. -/
def loosePairs (ops : Array Oper) : List (Nat × Nat) :=
  let b := befL [] ops.toList
  (List.range ops.size).flatMap fun j => (List.range j).filterMap fun i =>
    match ops[i]?, ops[j]? with
    | some oi, some oj => if (b.getD j 0).testBit i || pureOp oi.op || pureOp oj.op then none else some (i, j)
    | _, _ => none
def okDraw (ops : Array Oper) (tr : Trace) : Bool :=
  tr.all (fun x => x.1.isEmpty) || (loosePairs ops).all fun p => match ops[p.1]?, ops[p.2]? with
    | some oi, some oj => pairOK oi oj (tr.getD p.1 ([], [])) (tr.getD p.2 ([], []))
    | _, _ => true
section
variable {Γ : Ctx} {s : St} {μ : Lay} {a : Act} {w : World} {env : Env} {ops : Array Oper}
/-- The operations of a list of places, one after the other; what each changes and looks at is told ahead. -/
def iRun (T : TypeId → Option TI) (env : Env) (ops : Array Oper) (τ : Nat → List Bid × List Bid) : List Nat → St → Option St
  | [], s => some s
  | i :: l, s => match ops[i]? with
    | none => none
    | some o => match aStep T env ops o s with
      | some ⟨s', c, f, none⟩ => if τ i = (c, f) then iRun T env ops τ l s' else none
      | _ => none
theorem iRun_cons {T : TypeId → Option TI} {τ : Nat → List Bid × List Bid} {i : Nat} {l : List Nat} {s s' : St} (h : iRun T env ops τ (i :: l) s = some s') :
    ∃ o s1, ops[i]? = some o ∧ aStep T env ops o s = some ⟨s1, (τ i).1, (τ i).2, none⟩ ∧ iRun T env ops τ l s1 = some s' := by
  simp only [iRun] at h
  cases ho : ops[i]? with
  | none => rw [ho] at h; cases h
  | some o =>
    rw [ho] at h
    simp only at h
    cases hs : aStep T env ops o s with
    | none => rw [hs] at h; cases h
    | some out =>
      obtain ⟨s1, c, f, pan⟩ := out
      rw [hs] at h
      cases pan with
      | some v => cases h
      | none =>
        simp only at h
        split at h
        · rename_i ht; rw [ht]; exact ⟨o, s1, rfl, hs, h⟩
        · cases h
theorem iRun_mk {T : TypeId → Option TI} {τ : Nat → List Bid × List Bid} {i : Nat} {l : List Nat} {s s1 s' : St} {o : Oper} (h1 : ops[i]? = some o) (h2 : aStep T env ops o s = some ⟨s1, (τ i).1, (τ i).2, none⟩) (h3 : iRun T env ops τ l s1 = some s') :
    iRun T env ops τ (i :: l) s = some s' := by
  simp only [iRun, h1, h2, if_true, h3]
theorem move_front (henv : EnvOK Γ.P env) (hok : ∀ (i : Nat) (o : Oper), ops[i]? = some o → opOK Γ.P Γ.n o = true) {τ : Nat → List Bid × List Bid} {i : Nat} {post : List Nat} : ∀ (pre : List Nat) (s : St) (μ : Lay) (a : Act) (w : World) (sf : St), Rel Γ s μ a w →
    (∀ j ∈ pre, ∀ oj oi, ops[j]? = some oj → ops[i]? = some oi → oj.apart ops oi = true ∧ pairOK oj oi (τ j) (τ i) = true) → iRun (TI.of Γ.P) env ops τ (pre ++ i :: post) s = some sf → iRun (TI.of Γ.P) env ops τ (i :: (pre ++ post)) s = some sf
  | [], s, μ, a, w, sf, h, _, hr => hr
  | j :: pre, s, μ, a, w, sf, h, hp, hr => by
    obtain ⟨oj, s1, ho, hs, hr'⟩ := iRun_cons hr
    obtain ⟨μ1, a1, w1, h1⟩ := step_exists h (hok j oj ho) henv hs
    have := move_front henv hok pre s1 μ1 a1 w1 sf h1 (fun j' hj' => hp j' (by simp [hj'])) hr'
    obtain ⟨oi, s2, ho2, hs2, hr2⟩ := iRun_cons this
    obtain ⟨p1, p2⟩ := hp j (by simp) oj oi ho ho2
    obtain ⟨s1', q1, q2⟩ := commute h p1 hs hs2 p2
    exact iRun_mk ho2 q1 (iRun_mk ho q2 hr2)
theorem before_listed {listed : Array Bool} (hclosed : ∀ i o, ops[i]? = some o → listed.getD i true = true → ∀ k ∈ preds o, listed.getD k false = true) :
    ∀ (i : Nat) (o : Oper), ops[i]? = some o → (∀ k ∈ preds o, k < i) → (∀ k ∈ preds o, listed.getD k false = true) → (∀ (k : Nat) (ok : Oper), ops[k]? = some ok → ∀ k' ∈ preds ok, k' < k) → ∀ j, ((befL [] ops.toList).getD i 0).testBit j = true → listed.getD j false = true := by
  intro i
  induction i using Nat.strongRecOn with
  | _ i ih =>
    intro o ho hlt hpl hback j hj
    have hat := befL_at ops.toList [] i o (by simpa using ho)
    simp only [List.length_nil, Nat.zero_add] at hat
    rw [List.getD_eq_getElem?_getD, hat] at hj
    simp only [Option.getD_some] at hj
    rcases maskB_bit _ _ _ _ hj with h0 | ⟨k, hk, h'⟩
    · simp at h0
    · rcases h' with rfl | h'
      · exact hpl k hk
      · have hki := hlt k hk
        rw [List.getD_eq_getElem?_getD, List.getElem?_take, if_pos hki, ← List.getD_eq_getElem?_getD] at h'
        have hkl := hpl k hk
        cases hok : ops[k]? with
        | none =>
          exfalso
          rw [Array.getElem?_eq_none_iff] at hok
          have := (Array.getElem?_eq_some_iff.1 ho).1
          omega
        | some ok =>
          refine ih k hki ok hok (hback k ok hok) ?_ hback j h'
          refine hclosed k ok hok ?_
          rw [Array.getD_eq_getD_getElem?] at hkl ⊢
          cases hh : listed[k]? with
          | none => rw [hh] at hkl; simp at hkl
          | some y => rw [hh] at hkl; simpa using hkl
end
end Go.Proofs.Ytebflegkdfhoaaa.AE
