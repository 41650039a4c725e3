/-
  A plain machine for the code of functions, and its soundness: part AE9. Conditions: none; every lemma names its own.
-/
import Derived.Test.YtebflegkdfhoaaaAE8
namespace Go.Proofs.Ytebflegkdfhoaaa.AE
open Go Go.RowKit
set_option linter.unusedVariables false
section
variable {Γ : Ctx} {s : St} {μ : Lay} {a : Act} {w : World} {o : Oper}
theorem cells_rep {M H} {v : AV} {x : Value} (h : Rep w M μ H v x) {cs : List AV} (hc : cells v = some cs) :
    x.cells.size = cs.length ∧ ∀ (i : Nat) (c : AV), cs[i]? = some c → ∃ y, x.cells[i]? = some y ∧ y.oneCell' = true ∧ Rep w M μ H c y := by
  have one : x.oneCell' = true → cs = [v] → x.cells.size = cs.length ∧ ∀ (i : Nat) (c : AV), cs[i]? = some c → ∃ y, x.cells[i]? = some y ∧ y.oneCell' = true ∧ Rep w M μ H c y := by
    intro h1 hcs
    subst hcs
    have hxc : x.cells = #[x] := by cases x <;> first | rfl | simp [Value.oneCell'] at h1
    rw [hxc]
    refine ⟨rfl, fun i c hi => ?_⟩
    match i, hi with
    | 0, hi => cases hi; exact ⟨x, rfl, h1, h⟩
  have h' := h
  cases h with
  | u _ _ => cases hc
  | tup _ _ vs g hs hv hr => cases hc
  | agg _ _ vs f hs hv hr =>
    cases hc
    refine ⟨hs, fun i c hi => ?_⟩
    have hl := (List.getElem?_eq_some_iff.1 hi).1
    exact ⟨f i, (hv i hl).1, (hv i hl).2, hr i c hi⟩
  | own _ b n e sz L z hH hn => cases hc; exact one (by cases hq : μ b <;> rfl) rfl
  | ownd _ b n v hH h1 => cases hc; exact one h1 rfl
  | erefd _ b i o v hH h1 => cases hc; exact one h1 rfl
  | _ => cases hc; exact one rfl rfl
theorem sim_box (h : Rel Γ s μ a w) (hd : ∀ t, o.dst = some t → t < Γ.n) {x : Operand} {t : TypeId} (ho : o.op = .box t x) {r : R} (hr : vBox (nid o.dst) (cells (eva s.t x)) = some r) : SimR Γ s μ a w o r := by
  have hx := eva_rep h x
  cases hc : cells (eva s.t x) with
  | none => rw [hc] at hr; cases hr
  | some cs =>
    rw [hc] at hr
    cases hr
    obtain ⟨c1, c2⟩ := cells_rep hx hc
    intro H1 hH K Q hK _
    simp only [hnews] at hH
    split at hH
    · rename_i hn
      cases hH
      have hn' : s.H (nid o.dst) = none := by simpa using hn
      refine wp_value (x := .pointer (some ⟨w.heap.size, 0, none⟩)) (w' := w.alloc (.cells (a.eval x).cells t)) (by simp [execOp, ho, Instr.box, newVar, newRow]) (hK rfl _ _ _ ((h.newbox hn' rfl ((Below.refl _ _).alloc (Nat.le_refl _) _) (Nat.le_refl _) (heap_alloc_new w _) (c := 1) (x := .obj cs) ?_).put hd (.ref _ _ _ cs _ 1 (by simp [hput]) (by simp [lput]))))
      intro M μ' H' hM hle hμ'
      refine ⟨c1, fun i c hi => ?_⟩
      obtain ⟨y, y1, y2, y3⟩ := c2 i c hi
      exact ⟨y, y1, y2, y3.mono (fun g hg hf => ⟨hM g (by simp; omega) (by omega) hf, heap_alloc_old w _ hg⟩) hle hμ'⟩
    · cases hH
/-- The cells of a new box. -/
def ArrRep (w : World) (M : Nat → Prop) (μ : Lay) (H : Heap) (A : Array Value) (cs : List AV) : Prop :=
  A.size = cs.length ∧ ∀ (i : Nat) (c : AV), cs[i]? = some c → ∃ y, A[i]? = some y ∧ y.oneCell' = true ∧ Rep w M μ H c y
theorem Rel.newobj (h : Rel Γ s μ a w) (hd : ∀ t, o.dst = some t → t < Γ.n) (hn : s.H (nid o.dst) = none) {A : Array Value} {cs : List AV} (hA : ArrRep w (forb Γ.Mx μ s.H) μ s.H A cs) (t : TypeId) :
    Rel Γ ⟨tput s.t o.dst (.ref (nid o.dst) 0), hput s.H (nid o.dst) (.obj cs)⟩ (lput μ (nid o.dst) (some (w.heap.size, 1))) (a.put o.dst (.pointer (some ⟨w.heap.size, 0, none⟩))) (w.alloc (.cells A t)) := by
  refine (h.newbox hn rfl ((Below.refl _ _).alloc (Nat.le_refl _) _) (Nat.le_refl _) (heap_alloc_new w _) (c := 1) (x := .obj cs) ?_).put hd (.ref _ _ _ cs _ 1 (by simp [hput]) (by simp [lput]))
  intro M μ' H' hM hle hμ'
  refine ⟨hA.1, fun i c hi => ?_⟩
  obtain ⟨y, y1, y2, y3⟩ := hA.2 i c hi
  exact ⟨y, y1, y2, y3.mono (fun g hg hf => ⟨hM g (by simp; omega) (by omega) hf, heap_alloc_old w _ hg⟩) hle hμ'⟩
theorem zero_rep {P : Program} {t : TypeId} {i : TI} (hT : TI.of P t = some i) (hz : ¬ i.zero.isEmpty = true) {M H} : ∃ q z, P.info? t = some q ∧ q.zero = some z ∧ i.size = q.size ∧ z.cells.size = i.zero.length ∧ ArrRep w M μ H z.cells i.zero := by
  obtain ⟨q, d, h1, h2, _, hsz, _, hzero, _⟩ := TI.of_some hT
  cases hq : q.zero with
  | none => rw [hq] at hzero; rw [hzero] at hz; simp at hz
  | some z =>
    rw [hq] at hzero
    simp only at hzero
    split at hzero
    · rename_i hall
      refine ⟨q, z, h1, hq, hsz, by rw [hzero]; simp, by rw [hzero]; simp, fun k c hk => ?_⟩
      rw [hzero, List.getElem?_map, Option.map_eq_some_iff] at hk
      obtain ⟨y, hy, rfl⟩ := hk
      have hy' : z.cells[k]? = some y := by simpa using hy
      have : y ∈ z.cells := Array.mem_of_getElem? hy'
      exact ⟨y, hy', Array.all_eq_true_iff_forall_mem.1 hall y this, Rep.cAV y⟩
    · rw [hzero] at hz; simp at hz
theorem sim_alloc (h : Rel Γ s μ a w) (hd : ∀ t, o.dst = some t → t < Γ.n) {t : TypeId} (ho : o.op = .alloc t) {r : R} (hr : vAlloc (nid o.dst) (TI.of Γ.P t) = some r) : SimR Γ s μ a w o r := by
  cases hT : TI.of Γ.P t with
  | none => rw [hT] at hr; cases hr
  | some i =>
    rw [hT] at hr
    simp only [vAlloc] at hr
    split at hr
    · cases hr
    · rename_i hz
      cases hr
      obtain ⟨q, z, q1, q2, q3, q4, q5⟩ := zero_rep (w := w) (μ := μ) (M := forb Γ.Mx μ s.H) (H := s.H) hT hz
      intro H1 hH K Q hK _
      simp only [hnews] at hH
      split at hH
      · rename_i hn
        cases hH
        have hn' : s.H (nid o.dst) = none := by simpa using hn
        exact wp_value (x := .pointer (some ⟨w.heap.size, 0, none⟩)) (w' := w.alloc (.cells z.cells t)) (by simp [execOp, ho, Instr.alloc, newVar, newRow, run_zero' q1 q2]) (hK rfl _ _ _ (h.newobj hd hn' q5 t))
      · cases hH
/-! Parts laid over cells. -/
theorem get_fold (off : Nat) (l : List Value) : ∀ (j : Nat) (A : Array Value), off + j + l.length ≤ A.size →
    ((l.zipIdx j).foldl (fun cs (x : Value × Nat) => cs.setIfInBounds (off + x.2) x.1) A).size = A.size ∧
    ∀ k, ((l.zipIdx j).foldl (fun cs (x : Value × Nat) => cs.setIfInBounds (off + x.2) x.1) A)[k]? = if off + j ≤ k ∧ k < off + j + l.length then l[k - (off + j)]? else A[k]? := by
  induction l with
  | nil => intro j A h; refine ⟨rfl, fun k => ?_⟩; rw [if_neg (by simp)]; rfl
  | cons v l ih =>
    intro j A h
    simp only [List.length_cons] at h
    simp only [List.zipIdx_cons, List.foldl_cons]
    obtain ⟨i1, i2⟩ := ih (j + 1) (A.setIfInBounds (off + j) v) (by simp; omega)
    refine ⟨by rw [i1]; simp, fun k => ?_⟩
    rw [i2 k]
    by_cases h1 : off + j = k
    · subst h1
      rw [if_neg (by omega), if_pos (by simp), Array.getElem?_setIfInBounds_self_of_lt (by omega)]
      simp
    · by_cases h2 : off + (j + 1) ≤ k ∧ k < off + (j + 1) + l.length
      · rw [if_pos h2, if_pos (by simp; omega)]
        have : k - (off + j) = (k - (off + (j + 1))) + 1 := by omega
        rw [this]; simp
      · rw [if_neg h2, if_neg (by simp; omega), Array.getElem?_setIfInBounds_ne h1]
theorem over_get (cs d : List AV) (o i : Nat) (h : o + d.length ≤ cs.length) : (over cs o d)[i]? = if o ≤ i ∧ i < o + d.length then d[i - o]? else cs[i]? := by
  unfold over
  by_cases h1 : i < o
  · rw [if_neg (by omega), List.append_assoc, List.getElem?_append_left (by simp; omega), List.getElem?_take, if_pos h1]
  · by_cases h2 : i < o + d.length
    · rw [if_pos (by omega), List.append_assoc, List.getElem?_append_right (by simp; omega), List.getElem?_append_left (by simp; omega)]
      congr 1
      simp
      omega
    · rw [if_neg (by omega), List.getElem?_append_right (by simp; omega), List.getElem?_drop]
      congr 1
      simp
      omega
theorem over_len (cs d : List AV) (o : Nat) (h : o + d.length ≤ cs.length) : (over cs o d).length = cs.length := by
  simp [over]; omega
theorem piece_rep {M H} {A : Array Value} {cs : List AV} (hA : ArrRep w M μ H A cs) {off n : Nat} {v : AV} {x : Value} (hx : Rep w M μ H v x) {cs' : List AV} (hp : piece off n cs (cells v) = some cs') :
    x.cells.size = n ∧ off + x.cells.size ≤ A.size ∧ ArrRep w M μ H (x.cells.zipIdx.foldl (fun cs (y : Value × Nat) => cs.setIfInBounds (off + y.2) y.1) A) cs' := by
  cases hc : cells v with
  | none => rw [hc] at hp; cases hp
  | some d =>
    rw [hc] at hp
    simp only [piece] at hp
    split at hp
    · rename_i hl
      cases hp
      obtain ⟨c1, c2⟩ := cells_rep hx hc
      obtain ⟨g1, g2⟩ := get_fold off x.cells.toList 0 A (by have h9 := hA.1; simp [c1]; omega)
      have hfold : x.cells.zipIdx.foldl (fun cs (y : Value × Nat) => cs.setIfInBounds (off + y.2) y.1) A = (x.cells.toList.zipIdx 0).foldl (fun cs (y : Value × Nat) => cs.setIfInBounds (off + y.2) y.1) A := by
        rw [← Array.foldl_toList, Array.toList_zipIdx]
      refine ⟨by omega, by rw [hA.1]; omega, ?_, fun k c hk => ?_⟩
      · rw [hfold, g1, hA.1, over_len _ _ _ (by omega)]
      · rw [over_get _ _ _ _ (by omega)] at hk
        rw [hfold, g2 k]
        simp only [Array.length_toList, Nat.add_zero]
        by_cases hin : off ≤ k ∧ k < off + d.length
        · rw [if_pos hin] at hk
          rw [if_pos (by omega)]
          obtain ⟨y, y1, y2, y3⟩ := c2 _ _ hk
          exact ⟨y, by simpa using y1, y2, y3⟩
        · rw [if_neg hin] at hk
          rw [if_neg (by omega)]
          exact hA.2 k c hk
    · cases hp
end
end Go.Proofs.Ytebflegkdfhoaaa.AE
