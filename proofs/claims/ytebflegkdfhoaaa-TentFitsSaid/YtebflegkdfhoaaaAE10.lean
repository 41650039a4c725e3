/-
  A plain machine for the code of functions, and its soundness: part AE10. Conditions: none; every lemma names its own.
-/
import Derived.Test.YtebflegkdfhoaaaAE9
import Derived.Great.BuildSlice
import Derived.Laws.AppendOwn
namespace Go.Proofs.Ytebflegkdfhoaaa.AE
open Go Go.RowKit
set_option linter.unusedVariables false
section
variable {Γ : Ctx} {s : St} {μ : Lay} {a : Act} {w : World} {o : Oper}
theorem Rep.flat {M H H' μ'} {v : AV} {x : Value} (h : Rep w M μ H v x) (hf : flatC v = true) : Rep w M μ' H' v x := by
  cases h with
  | int => exact .int _ _ _
  | bool => exact .bool _ _
  | str => exact .str _ _
  | nils => exact .nils _
  | nilp => exact .nilp _
  | nili => exact .nili _
  | sl _ k L a c f hc hm hk hv hr => exact .sl _ _ _ _ _ f hc hm hk hv fun i j cs x hi hj => (hr i j cs x hi hj).ofNo
  | _ => simp [flatC] at hf
theorem hle_put {H : Heap} {b : Bid} {x y : Box} (hx : H b = some x) (hxy : match x with | .obj _ => ∃ cs, y = .obj cs | .row e sz L _ => (∃ L' z, y = .row e sz L' z ∧ L'.length = L.length) ∨ y = .dead | .dead => y = .dead) : HLe H (hput H b y) := by
  intro i
  by_cases e : i = b
  · subst e
    rw [hx]
    cases x <;> simp only at hxy ⊢ <;> simp only [hput, if_true, Option.some.injEq] <;> exact hxy
  · have : hput H b y i = H i := by simp [hput, e]
    rw [this]; exact HLe.refl H i
theorem hput_swap (H : Heap) {b b' : Bid} (x y : Box) (h : b ≠ b') : hput (hput H b x) b' y = hput (hput H b' y) b x := by
  funext i
  simp only [hput]
  by_cases h1 : i = b <;> by_cases h2 : i = b' <;> simp_all
theorem sim_store (h : Rel Γ s μ a w) (hd : o.dst = none) {ad x : Operand} {t : TypeId} (ho : o.op = .store t ad x) {r : R} (hr : vStore s.H (TI.of Γ.P t) (eva s.t ad) (eva s.t x) = some r) : SimR Γ s μ a w o r := by
  have hx := eva_rep h x
  have hax := eva_rep h ad
  generalize eva s.t ad = X at hr hax
  cases hT : TI.of Γ.P t with
  | none => rw [hT] at hr; simp [vStore] at hr
  | some i =>
    rw [hT] at hr
    obtain ⟨q, d, h1, h2, _, hsz, _⟩ := TI.of_some hT
    generalize hval : a.eval ad = y at hax
    -- the run of a store of known cells into a known block
    have run : ∀ (g p : Nat) (cur : Array Value) (e : TypeId) (cs : List AV), y = .pointer (some ⟨g, p, none⟩) → w.heap[g]? = some (.cells cur e (0, 0)) → cells (eva s.t x) = some cs → cs.length = i.size → p + i.size ≤ cur.size →
        (execOp a.eval o).run Γ.P w = .ok .skip (w.setRow g (cur.toList.take p ++ (a.eval x).cells.toList ++ cur.toList.drop (p + cs.length)).toArray) := by
      intro g p cur e cs hy hg hc hl hp
      obtain ⟨c1, c2⟩ := cells_rep hx hc
      have hst := run_storeCells_at Γ.P g p e (a.eval x).cells.toList 0 cur w hg (by simp [c1]; omega) (fun v hv => by
        obtain ⟨k, hk, rfl⟩ := List.mem_iff_getElem.1 hv
        simp at hk
        obtain ⟨y, y1, y2, _⟩ := c2 k cs[k] (List.getElem?_eq_getElem (by omega))
        have : (a.eval x).cells[k] = y := by rw [Array.getElem?_eq_getElem hk] at y1; exact Option.some.inj y1
        simp [this, y2])
      rw [Nat.add_zero, Array.length_toList, c1] at hst
      have hn : ¬ ((a.eval x).cells.size ≠ q.size) := by rw [c1, hl, hsz]; simp
      subst hy
      simp only [execOp, ho, hval, Instr.storeAt, Instr.sureAddr, storeVar, Sem.run_bind, Sem.run_pure, Result.andThen_ok, run_sizeOf' h1, Sem.run_ite, hn, if_false, hst]
    have getd : ∀ (cur : Array Value) (p : Nat) (cs : List AV) (k : Nat), cells (eva s.t x) = some cs → p + cs.length ≤ cur.size →
        (cur.toList.take p ++ (a.eval x).cells.toList ++ cur.toList.drop (p + cs.length)).toArray[k]? = if p ≤ k ∧ k < p + cs.length then (a.eval x).cells[k - p]? else cur[k]? := by
      intro cur p cs k hc hp
      obtain ⟨c1, _⟩ := cells_rep hx hc
      simp only [List.getElem?_toArray]
      by_cases h1 : k < p
      · rw [if_neg (by omega), List.append_assoc, List.getElem?_append_left (by simp; omega), List.getElem?_take, if_pos h1]; simp
      · by_cases h2 : k < p + cs.length
        · rw [if_pos (by omega), List.append_assoc, List.getElem?_append_right (by simp; omega), List.getElem?_append_left (by simp; omega)]
          simp only [List.length_take, Array.length_toList, Array.getElem?_toList]
          congr 1
          omega
        · rw [if_neg (by omega), List.getElem?_append_right (by simp; omega), List.getElem?_drop]
          simp only [List.length_append, List.length_take, Array.length_toList, Array.getElem?_toList]
          congr 1
          omega
    cases hax with
    | ref _ b p cs g c hH hμ =>
      simp only [vStore, hH] at hr
      cases hc : cells (eva s.t x) with
      | none => rw [hc] at hr; simp [storeB] at hr
      | some ds =>
        rw [hc] at hr
        simp only [storeB] at hr
        split at hr
        · rename_i hl
          obtain ⟨hl, hp⟩ := hl
          cases hr
          obtain ⟨cur, e, q1, q2, q3⟩ := box_obj h hH hμ
          obtain ⟨c1, c2⟩ := cells_rep hx hc
          intro H1 hH1 K Q hK _
          simp only [hnews, Option.some.injEq] at hH1
          subst hH1
          refine wp_skipped (run g p cur e ds rfl q1 hc hl (by omega)) ?_
          have hput : a.put o.dst undef = a := by rw [hd]; rfl
          rw [hput]
          refine hK rfl μ a _ ?_
          rw [hd]
          refine h.write hH rfl rfl hμ (hle_put hH ⟨_, rfl⟩) (setRow_heap w g cur _ e _ q1) rfl rfl rfl (by simp) (fun k hk => setRow_other w g k _ (by omega)) ⟨?_, fun k uu hu => ?_⟩
          · rw [over_len _ _ _ (by omega)]
            simp [c1]
            omega
          · rw [over_get _ _ _ _ (by omega)] at hu
            rw [getd cur p ds k hc (by omega)]
            by_cases hin : p ≤ k ∧ k < p + ds.length
            · rw [if_pos hin] at hu ⊢
              exact c2 _ _ hu
            · rw [if_neg hin] at hu ⊢
              exact q3 k uu hu
        · cases hr
    | eref _ b j p e sz L z g c hH hμ hi =>
      simp only [vStore, hH] at hr
      cases hc : cells (eva s.t x) with
      | none => rw [hc] at hr; simp [storeE] at hr
      | some ds =>
        cases z with
        | true => rw [hc] at hr; simp [storeE] at hr
        | false =>
          rw [hc] at hr
          simp only [storeE] at hr
          cases hL : L[j]? with
          | none => rw [hL] at hr; simp [storeR] at hr
          | some xs =>
            rw [hL] at hr
            simp only [storeR] at hr
            split at hr
            · rename_i hl
              obtain ⟨hl, hp, hflat⟩ := hl
              cases hr
              obtain ⟨cur, q1, q2, q3, q4, q5, q6, q7⟩ := box_row h hH hμ
              obtain ⟨c1, c2⟩ := cells_rep hx hc
              have hxs := q3 xs (List.mem_of_getElem? hL)
              have hjc : j * sz + sz ≤ cur.size := by
                rw [q4]
                calc j * sz + sz = (j + 1) * sz := (Nat.succ_mul _ _).symm
                  _ ≤ c * sz := Nat.mul_le_mul_right _ (by omega)
              have hpc : j * sz + p + i.size ≤ cur.size := by omega
              intro H1 hH1 K Q hK _
              simp only [hnews, Option.some.injEq] at hH1
              subst hH1
              refine wp_skipped (run g (j * sz + p) cur e ds rfl q1 hc hl hpc) ?_
              have hput : a.put o.dst undef = a := by rw [hd]; rfl
              rw [hput]
              refine hK rfl μ a _ ?_
              rw [hd]
              have flat_no : ∀ v uu, v ∈ ds → Rep w (forb Γ.Mx μ s.H) μ s.H v uu → Rep w (forb Γ.Mx μ s.H) μ noH v uu := by
                intro v uu hv hr
                exact hr.flat (List.all_eq_true.1 hflat v hv)
              refine h.write hH rfl rfl hμ (hle_put hH (.inl ⟨_, false, rfl, by simp⟩)) (setRow_heap w g cur _ e _ q1) rfl rfl rfl (by simp) (fun k hk => setRow_other w g k _ (by omega)) ⟨rfl, q2, ?_, ?_, by simpa using q5, q6, ?_⟩
              · intro ys hy
                rcases List.mem_or_eq_of_mem_set hy with hy | rfl
                · exact q3 ys hy
                · rw [over_len _ _ _ (by omega)]; exact hxs
              · rw [← q4]
                simp [c1]
                omega
              · intro i' k ys uu hys hu
                rw [getd cur (j * sz + p) ds (i' * sz + k) hc (by omega)]
                rw [List.getElem?_set] at hys
                by_cases hij : j = i'
                · subst hij
                  rw [if_pos rfl, if_pos hi] at hys
                  cases hys
                  have hk : k < sz := by
                    have := (List.getElem?_eq_some_iff.1 hu).1
                    rw [over_len _ _ _ (by omega)] at this
                    omega
                  rw [over_get _ _ _ _ (by omega)] at hu
                  by_cases hin : p ≤ k ∧ k < p + ds.length
                  · rw [if_pos hin] at hu
                    rw [if_pos (by omega)]
                    obtain ⟨v, v1, v2, v3⟩ := c2 _ _ hu
                    refine ⟨v, ?_, v2, flat_no _ _ (List.mem_of_getElem? hu) v3⟩
                    rw [show j * sz + k - (j * sz + p) = k - p from by omega]
                    exact v1
                  · rw [if_neg hin] at hu
                    rw [if_neg (by omega)]
                    exact q7 j k xs uu hL hu
                · rw [if_neg hij] at hys
                  have hk : k < sz := by
                    have := (List.getElem?_eq_some_iff.1 hu).1
                    rw [q3 ys (List.mem_of_getElem? hys)] at this
                    exact this
                  have hne : ¬ (j * sz + p ≤ i' * sz + k ∧ i' * sz + k < j * sz + p + ds.length) := by
                    rintro ⟨h1, h2⟩
                    rcases Nat.lt_or_gt_of_ne hij with hlt | hgt
                    · have : (j + 1) * sz ≤ i' * sz := Nat.mul_le_mul_right _ hlt
                      rw [Nat.succ_mul] at this
                      omega
                    · have : (i' + 1) * sz ≤ j * sz := Nat.mul_le_mul_right _ hgt
                      rw [Nat.succ_mul] at this
                      omega
                  rw [if_neg hne]
                  exact q7 i' k ys uu hys hu
            · cases hr
    | erefd _ b j p v hH _ =>
      simp only [vStore, hH] at hr
      cases hc : cells (eva s.t x) <;> rw [hc] at hr <;> simp [storeE] at hr
    | _ => simp only [vStore] at hr; cases hr
end
end Go.Proofs.Ytebflegkdfhoaaa.AE
