/-
  A plain machine for the code of functions, and its soundness: part AE21. Conditions: none; every lemma names its own.
-/
import Derived.Test.YtebflegkdfhoaaaAE20
namespace Go.Proofs.Ytebflegkdfhoaaa.AE
open Go Go.RowKit
set_option linter.unusedVariables false
section
variable {Γ : Ctx} {env : Env} {ops : Array Oper}
theorem drawOK_at (hd : drawOK ops = true) {j : Nat} {oj : Oper} (hj : ops[j]? = some oj) : (∀ k ∈ preds oj, k < j) ∧ ∀ i oi, i < j → ops[i]? = some oi → ((befL [] ops.toList).getD j 0).testBit i = false → oi.apart ops oj = true := by
  have hlt := (Array.getElem?_eq_some_iff.1 hj).1
  simp only [drawOK, List.all_eq_true, List.mem_range] at hd
  have := hd j hlt
  rw [hj] at this
  simp only [Bool.and_eq_true, List.all_eq_true, decide_eq_true_eq, List.mem_range, Bool.or_eq_true] at this
  refine ⟨this.1, fun i oi hij hoi hb => ?_⟩
  rcases this.2 i hij with h' | h'
  · rw [hb] at h'; cases h'
  · rw [hoi] at h'; exact h'
theorem any_order (henv : EnvOK Γ.P env) (hok : ∀ (i : Nat) (o : Oper), ops[i]? = some o → opOK Γ.P Γ.n o = true) (hd : drawOK ops = true) {τ : Nat → List Bid × List Bid}
    (hpair : ∀ i j oi oj, i < j → ops[i]? = some oi → ops[j]? = some oj → ((befL [] ops.toList).getD j 0).testBit i = false → pairOK oi oj (τ i) (τ j) = true) {Q : Exit → Act → World → Prop} {sf : St} (hQ : ∀ μ a w, Rel Γ sf μ a w → Q .normal a w) :
    ∀ (n : Nat) (R : List Nat) (listed : Array Bool) (s : St) (μ : Lay) (a : Act) (w : World), R.length = n → Rel Γ s μ a w → listed.size = ops.size → R = (List.range ops.size).filter (fun i => !listed.getD i true) →
      (∀ i o, ops[i]? = some o → listed.getD i true = true → ∀ k ∈ preds o, listed.getD k false = true) → iRun (TI.of Γ.P) env ops τ R s = some sf → wpAny Γ.P .any ops Q n listed a w := by
  intro n
  induction n with
  | zero =>
    intro R listed s μ a w hn hR hsz hRe hcl hrun
    have hR0 : R = [] := List.eq_nil_of_length_eq_zero hn
    subst hR0
    simp only [iRun, Option.some.injEq] at hrun
    subst hrun
    refine ⟨?_, hQ μ a w hR⟩
    rw [Region.ready, List.filter_eq_nil_iff]
    intro i hi hh
    have h0 : i ∈ (List.range ops.size).filter (fun i => !listed.getD i true) := by
      rw [List.mem_filter]
      refine ⟨hi, ?_⟩
      simp only [Bool.and_eq_true] at hh
      exact hh.1
    rw [← hRe] at h0
    simp at h0
  | succ n ih =>
    intro R listed s μ a w hn hR hsz hRe hcl hrun
    have hback : ∀ (k : Nat) (ok : Oper), ops[k]? = some ok → ∀ k' ∈ preds ok, k' < k := fun k ok hk => (drawOK_at hd hk).1
    have hsorted : R.Pairwise (· < ·) := by rw [hRe]; exact List.Pairwise.filter _ List.pairwise_lt_range
    have hmem : ∀ i, i ∈ R ↔ i < ops.size ∧ listed.getD i true = false := by
      intro i; rw [hRe, List.mem_filter, List.mem_range]; simp
    have hgetf : ∀ k, k < ops.size → (listed.getD k false = true ↔ listed.getD k true = true) := by
      intro k hk
      have : k < listed.size := by omega
      simp [Array.getD_eq_getD_getElem?, this]
    refine ⟨fun hnil => ?_, fun i hi => ?_⟩
    · exfalso
      cases R with
      | nil => simp at hn
      | cons i0 rest =>
        obtain ⟨hlt, hun⟩ := (hmem i0).1 (by simp)
        have ho : ops[i0]? = some ops[i0] := Array.getElem?_eq_getElem hlt
        have hall : ∀ k, k < i0 → listed.getD k true = true := by
          intro k hk
          cases hh : listed.getD k true with
          | true => rfl
          | false =>
            have hkR := (hmem k).2 ⟨by omega, hh⟩
            rcases List.mem_cons.1 hkR with rfl | hkr
            · omega
            · have := (List.pairwise_cons.1 hsorted).1 k hkr
              omega
        have : i0 ∈ Region.ready .any ops listed := by
          rw [Region.ready, List.mem_filter]
          refine ⟨List.mem_range.2 hlt, ?_⟩
          rw [hun, ho]
          simp only [Bool.not_false, Option.map_some, Option.getD_some, Bool.true_and, Array.all_eq_true_iff_forall_mem]
          intro e he
          by_cases hb : Region.binds .any e = true
          · have hk : e.on ∈ preds ops[i0] := List.mem_map.2 ⟨e, List.mem_filter.2 ⟨by simpa using he, hb⟩, rfl⟩
            have hlt2 := hback i0 _ ho _ hk
            simp [hb, (hgetf e.on (by omega)).2 (hall _ hlt2)]
          · simp [hb]
        rw [hnil] at this
        simp at this
    · rw [Region.ready, List.mem_filter, List.mem_range] at hi
      obtain ⟨hlt, hi⟩ := hi
      simp only [Bool.and_eq_true, Bool.not_eq_true'] at hi
      obtain ⟨hun, hpl⟩ := hi
      have ho : ops[i]? = some ops[i] := Array.getElem?_eq_getElem hlt
      rw [ho] at hpl
      simp only [Option.map_some, Option.getD_some, Array.all_eq_true_iff_forall_mem] at hpl
      have hpreds : ∀ k ∈ preds ops[i], listed.getD k false = true := by
        intro k hk
        obtain ⟨e, he, rfl⟩ := List.mem_map.1 hk
        obtain ⟨he1, he2⟩ := List.mem_filter.1 he
        have := hpl e (by simpa using he1)
        simpa [he2] using this
      have hiR := (hmem i).2 ⟨hlt, hun⟩
      obtain ⟨pre, post, rfl⟩ := List.append_of_mem hiR
      have hs1 := List.pairwise_append.1 hsorted
      have hpre : ∀ j ∈ pre, j < i := fun j hj => hs1.2.2 j hj i (by simp)
      have hpost : ∀ j ∈ post, i < j := (List.pairwise_cons.1 hs1.2.1).1
      have hfront := move_front henv hok pre s μ a w sf hR (fun j hj oj oi hoj hoi => by
        have hji := hpre j hj
        have hb : ((befL [] ops.toList).getD i 0).testBit j = false := by
          cases hh : ((befL [] ops.toList).getD i 0).testBit j with
          | false => rfl
          | true =>
            have := before_listed hcl i _ ho (hback i _ ho) hpreds hback j hh
            have hju := ((hmem j).1 (by simp [hj])).2
            rw [(hgetf j (by omega))] at this
            rw [hju] at this; cases this
        exact ⟨(drawOK_at hd hoi).2 j oj hji hoj hb, hpair j i oj oi hji hoj hoi hb⟩) hrun
      obtain ⟨oi, s1, hoi, hst, hrest⟩ := iRun_cons hfront
      rw [ho] at hoi
      cases hoi
      unfold wpOp
      rw [ho]
      simp only
      have hcont := sim_step (K := wpAny Γ.P .any ops Q n (listed.setIfInBounds i true)) (Q := Q) hR (hok i _ ho) henv hst ⟨fun _ μ' a' w' hR' => ?_, fun v hv => by simp at hv⟩
      · split at hcont
        · rename_i hw; rw [if_pos hw]; exact .inl hcont
        · rename_i hw; rw [if_neg hw]; exact hcont
      · refine ih (pre ++ post) _ s1 μ' a' w' (by simp at hn ⊢; omega) hR' (by simp [hsz]) ?_ ?_ hrest
        · have hget : ∀ j, (listed.setIfInBounds i true).getD j true = if j = i then true else listed.getD j true := by
            intro j
            simp only [Array.getD_eq_getD_getElem?, Array.getElem?_setIfInBounds]
            by_cases e : i = j
            · subst e; simp [show i < listed.size by omega]
            · simp [e, Ne.symm e]
          have h1 : (List.range ops.size).filter (fun j => !(listed.setIfInBounds i true).getD j true) = ((List.range ops.size).filter (fun j => !listed.getD j true)).filter (fun j => decide (j ≠ i)) := by
            rw [List.filter_filter]
            apply List.filter_congr
            intro j _
            rw [hget]
            by_cases e : j = i <;> simp [e]
          rw [h1, ← hRe, List.filter_append, List.filter_cons]
          simp only [ne_eq, not_true_eq_false, decide_false, Bool.false_eq_true, if_false]
          rw [List.filter_eq_self.2 fun j hj => by have := hpre j hj; simp; omega, List.filter_eq_self.2 fun j hj => by have := hpost j hj; simp; omega]
        · intro k ok hk hkl k' hk'
          have hget : ∀ (d : Bool) (j : Nat), j < ops.size → (listed.setIfInBounds i true).getD j d = if j = i then true else listed.getD j d := by
            intro d j hj
            simp only [Array.getD_eq_getD_getElem?, Array.getElem?_setIfInBounds]
            by_cases e : i = j
            · subst e; simp [show i < listed.size by omega]
            · simp [e, Ne.symm e]
          have hklt := (Array.getElem?_eq_some_iff.1 hk).1
          have hk'lt : k' < ops.size := by have := hback k ok hk k' hk'; omega
          rw [hget _ _ hklt] at hkl
          rw [hget _ _ hk'lt]
          by_cases e2 : k' = i
          · simp [e2]
          · rw [if_neg e2]
            by_cases e1 : k = i
            · subst e1
              rw [ho] at hk; cases hk
              exact hpreds k' hk'
            · rw [if_neg e1] at hkl
              exact hcl k ok hk hkl k' hk'
theorem aRun_iRun {τ : Nat → List Bid × List Bid} : ∀ (l : List Oper) (k : Nat) (s sf : St) (tr : Trace), (∀ j, l[j]? = ops[k + j]?) → aRun (TI.of Γ.P) env ops l s = .done sf tr → (∀ j, j < l.length → τ (k + j) = tr.getD j ([], [])) → iRun (TI.of Γ.P) env ops τ (List.range' k l.length) s = some sf
  | [], k, s, sf, tr, _, h, _ => by simp only [aRun, Run.done.injEq] at h; simp [iRun, h.1]
  | o :: l, k, s, sf, tr, hl, h, ht => by
    simp only [aRun] at h
    cases hs : aStep (TI.of Γ.P) env ops o s with
    | none => rw [hs] at h; cases h
    | some out =>
      obtain ⟨s1, c, f, pan⟩ := out
      rw [hs] at h
      cases pan with
      | some v => cases h
      | none =>
        simp only at h
        cases hrn : aRun (TI.of Γ.P) env ops l s1 with
        | pan s' v => rw [hrn] at h; cases h
        | bad => rw [hrn] at h; cases h
        | done s' tr' =>
          rw [hrn] at h
          simp only [Run.cons, Run.done.injEq] at h
          obtain ⟨rfl, rfl⟩ := h
          have h0 := ht 0 (by simp)
          simp only [Nat.add_zero, List.getD_cons_zero] at h0
          rw [List.length_cons, List.range'_succ]
          refine iRun_mk (by simpa using (hl 0).symm) (by rw [h0]; exact hs) ?_
          refine aRun_iRun l (k + 1) s1 s' tr' (fun j => by have := hl (j + 1); simpa [Nat.add_assoc, Nat.add_comm 1 j] using this) hrn (fun j hj => ?_)
          have := ht (j + 1) (by simpa using hj)
          rw [show k + 1 + j = k + (j + 1) from by omega, this]
          simp
/-- A region that draws its order. -/
theorem sim_draw (henv : EnvOK Γ.P env) {id : Nat} (hmix : Γ.P.follows .mixedOrders = true) (hok : ∀ o ∈ ops.toList, opOK Γ.P Γ.n o = true) (hd : drawOK ops = true) {s sf : St} {tr : Trace} (hrun : aRun (TI.of Γ.P) env ops ops.toList s = .done sf tr) (htr : okDraw ops tr = true)
    {Q : Exit → Act → World → Prop} (hQ : ∀ μ a w, Rel Γ sf μ a w → Q .normal a w) {μ : Lay} {a : Act} {w : World} (h : Rel Γ s μ a w) : (Code.region id ops true).wp Γ.P Q a w := by
  refine wp_region_any hmix ?_
  have hok' : ∀ (i : Nat) (o : Oper), ops[i]? = some o → opOK Γ.P Γ.n o = true := fun i o ho => hok o (by have := Array.mem_of_getElem? ho; simpa using this)
  have hdrew : Rel Γ s μ a { w with drawn := w.drawn + 1 } := h.grow ⟨rfl, rfl, rfl, Nat.le_refl _, fun _ _ => rfl⟩
  have hir := aRun_iRun (τ := fun i => tr.getD i ([], [])) ops.toList 0 s sf tr (fun j => by simp) hrun (fun j _ => by simp)
  rw [Array.length_toList, ← List.range_eq_range'] at hir
  have := any_order (Q := Q) henv hok' hd (τ := fun i => tr.getD i ([], [])) (fun i j oi oj hij hoi hoj hb => ?_) hQ ops.size (List.range ops.size) (Array.replicate ops.size false) s μ a _ (by simp) hdrew (by simp) ?_ ?_ hir
  · exact this
  · simp only [okDraw, Bool.or_eq_true] at htr
    rcases htr with htr | htr
    · have he : ∀ k, (tr.getD k ([], [])).1.isEmpty = true := by
        intro k
        rw [List.getD_eq_getElem?_getD]
        cases hk : tr[k]? with
        | none => rfl
        | some x => exact List.all_eq_true.1 htr x (List.mem_of_getElem? hk)
      simp only [pairOK, he i, he j]
      rfl
    · by_cases hp1 : pureOp oi.op = true
      · simp [pairOK, hp1]
      · by_cases hp2 : pureOp oj.op = true
        · simp [pairOK, hp2]
        · have hjl := (Array.getElem?_eq_some_iff.1 hoj).1
          have hmem : (i, j) ∈ loosePairs ops := by
            simp only [loosePairs, List.mem_flatMap, List.mem_filterMap, List.mem_range]
            refine ⟨j, hjl, i, hij, ?_⟩
            rw [hoi, hoj]
            simp only []
            rw [if_neg (by rw [hb]; simp [hp1, hp2])]
          have := List.all_eq_true.1 htr _ hmem
          simp only [hoi, hoj] at this
          exact this
  · symm
    apply List.filter_eq_self.2
    intro i hi
    rw [List.mem_range] at hi
    simp [Array.getD_eq_getD_getElem?, hi]
  · intro i o ho hl
    have := (Array.getElem?_eq_some_iff.1 ho).1
    simp [Array.getD_eq_getD_getElem?, this] at hl
end
end Go.Proofs.Ytebflegkdfhoaaa.AE
