/-
  A plain machine for the code of functions, and its soundness: part AE12. Conditions: none; every lemma names its own.
-/
import Derived.Test.YtebflegkdfhoaaaAE11
namespace Go.Proofs.Ytebflegkdfhoaaa.AE
open Go Go.RowKit
set_option linter.unusedVariables false
section
variable {Γ : Ctx} {s : St} {μ : Lay} {a : Act} {w : World} {o : Oper}
/-! ## Literals -/
def genP (pl : Nat → Option (Nat × Nat × Bool)) : List (Nat × AV) → Option (List AV) → Option (List AV)
  | [], r => r
  | (j, v) :: r, cs => genP pl r (pieceO v (pl j) cs)
theorem arrP_gen (sz : Nat) : ∀ (l : List (Nat × AV)) (r : Option (List AV)), arrP sz l r = genP (fun j => some (j * sz, sz, false)) l r
  | [], r => rfl
  | (j, v) :: l, r => arrP_gen sz l _
theorem structP_gen (fs : List (Nat × Nat × Bool)) : ∀ (l : List (Nat × AV)) (r : Option (List AV)), structP fs l r = genP (fun j => fs[j]?) l r
  | [], r => rfl
  | (j, v) :: l, r => structP_gen fs l _
theorem genP_none (pl : Nat → Option (Nat × Nat × Bool)) : ∀ (l : List (Nat × AV)), genP pl l none = none
  | [] => rfl
  | (j, v) :: l => by simp only [genP]; cases pl j <;> exact genP_none pl l
theorem fill_rep {M H} (pl : Nat → Option (Nat × Nat × Bool)) (f : Operand → AV) (g : Operand → Value) : ∀ (l : List (Nat × Operand)) (hf : ∀ p ∈ l, Rep w M μ H (f p.2) (g p.2)) (cs cs' : List AV) (A : Array Value), ArrRep w M μ H A cs →
    genP pl (l.map fun p => (p.1, f p.2)) (some cs) = some cs' → ∃ A', Instr.fill (fun j => (pl j).map fun x => (x.1, x.2.1)) A (l.map fun p => (p.1, g p.2)) = some A' ∧ ArrRep w M μ H A' cs'
  | [], hf, cs, cs', A, hA, h => by cases h; exact ⟨A, rfl, hA⟩
  | (j, x) :: l, hf, cs, cs', A, hA, h => by
    simp only [List.map_cons, genP] at h
    cases hp : pl j with
    | none => rw [hp] at h; rw [show pieceO (f x) none (some cs) = none from rfl, genP_none] at h; cases h
    | some q =>
      rw [hp] at h
      simp only [pieceO] at h
      cases hq : piece q.1 q.2.1 cs (cells (f x)) with
      | none => rw [hq, genP_none] at h; cases h
      | some cs1 =>
        rw [hq] at h
        obtain ⟨e1, e2, e3⟩ := piece_rep hA (hf (j, x) (by simp)) hq
        obtain ⟨A', h1, h2⟩ := fill_rep pl f g l (fun p hp => hf p (by simp [hp])) cs1 cs' _ e3 h
        refine ⟨A', ?_, h2⟩
        simp only [List.map_cons, Instr.fill, hp, Option.map_some]
        rw [if_neg (by simp [e1]; omega)]
        exact h1
theorem places_ok {P : Program} {fs : List Field} (hok : fs.all (fun f => (P.info? f.type).isSome && (P.underlying f.type).isSome) = true) :
    fs.mapM (fun f => (P.info? f.type).map fun i => (f.offset, i.size)) = some (fs.map fun f => (f.offset, P.cellsOf f.type)) := by
  induction fs with
  | nil => rfl
  | cons f fs ih =>
    simp only [List.all_cons, Bool.and_eq_true] at hok
    obtain ⟨q, hq⟩ := Option.isSome_iff_exists.1 hok.1.1
    simp [List.mapM_cons, hq, ih hok.2, cellsOf_eq hq]
theorem sim_build (h : Rel Γ s μ a w) (hd : ∀ t, o.dst = some t → t < Γ.n) {t : TypeId} {parts : Array (Nat × Operand)} (ho : o.op = .build t parts) {r : R} (hr : vBuild (TI.of Γ.P t) (parts.toList.map fun p => (p.1, eva s.t p.2)) = some r) : SimR Γ s μ a w o r := by
  cases hT : TI.of Γ.P t with
  | none => rw [hT] at hr; cases hr
  | some i =>
    rw [hT] at hr
    simp only [vBuild] at hr
    split at hr
    · cases hr
    · rename_i hz
      simp only [not_or, Bool.not_eq_false] at hz
      obtain ⟨hz, hagg'⟩ := hz
      obtain ⟨q, z, q1, q2, q3, q4, q5⟩ := zero_rep (w := w) (μ := μ) (M := forb Γ.Mx μ s.H) (H := s.H) hT hz
      obtain ⟨q', d, h1, h2, hok, _, hagg, _, hfl, hlen, hes, _, _, _, harr, _⟩ := TI.of_some hT
      have hparts : (parts.map fun (x : Nat × Operand) => (x.1, a.eval x.2)).toList = parts.toList.map fun p => (p.1, a.eval p.2) := by simp
      have hmap : (parts.map fun (x : Nat × Operand) => match x with | (i, x) => (i, a.eval x)) = parts.map fun (x : Nat × Operand) => (x.1, a.eval x.2) := by
        apply Array.map_congr_left; intro x _; rfl
      have key : ∀ (pl : Nat → Option (Nat × Nat × Bool)) (cs : List AV), genP pl (parts.toList.map fun p => (p.1, eva s.t p.2)) (some i.zero) = some cs → (∀ A', Instr.fill (fun j => (pl j).map fun x => (x.1, x.2.1)) z.cells (parts.toList.map fun p => (p.1, a.eval p.2)) = some A' → Γ.P.built t (parts.toList.map fun p => (p.1, a.eval p.2)) = some A') →
          r = ⟨.agg cs, [], [], [], none⟩ → SimR Γ s μ a w o r := by
        intro pl cs hg hb hrr
        obtain ⟨A', e1, e2⟩ := fill_rep (w := w) pl (eva s.t) a.eval parts.toList (fun p _ => eva_rep h p.2) i.zero cs z.cells q5 hg
        have hrun := run_build (P := Γ.P) w t (parts.map fun (x : Nat × Operand) => (x.1, a.eval x.2)) A' (by rw [hparts]; exact hb A' e1)
        subst hrr
        refine simV h hd (x := .agg A') (by simp only [execOp, ho, Sem.run_bind, hrun, Result.andThen_ok, Sem.run_pure]) (.agg _ _ _ (fun k => (A'[k]?).getD undef) e2.1 (fun k hk => ?_) fun k c hk => ?_)
        · obtain ⟨y, y1, y2, _⟩ := e2.2 k cs[k] (List.getElem?_eq_getElem hk)
          rw [y1]; exact ⟨rfl, y2⟩
        · obtain ⟨y, y1, _, y3⟩ := e2.2 k c hk
          rw [y1]; exact y3
      have hopt : ∀ x : Option (List AV), optA x = some r → ∃ cs, x = some cs ∧ r = ⟨.agg cs, [], [], [], none⟩ := by
        intro x hx
        cases x with
        | none => cases hx
        | some cs => exact ⟨cs, rfl, val_inj hx⟩
      split at hr
      · rename_i ha
        obtain ⟨cs, hcs, hrr⟩ := hopt _ hr
        rw [arrP_gen] at hcs
        obtain ⟨e, qe, de, u1, u2, u3, _⟩ := array_info hT ha
        refine key _ cs hcs (fun A' hA' => ?_) hrr
        unfold Program.built
        simp only [q1, u1, q2, u2]
        simpa [u3] using hA'
      · rename_i ha
        obtain ⟨cs, hcs, hrr⟩ := hopt _ hr
        rw [structP_gen] at hcs
        have hst : ∃ fs, d = .struct fs := by
          rw [hagg] at hagg'
          cases d <;> simp [isAggD] at hagg'
          · exact absurd harr ha
          · exact ⟨_, rfl⟩
        obtain ⟨fs, rfl⟩ := hst
        refine key _ cs hcs (fun A' hA' => ?_) hrr
        unfold Program.built
        simp only [q1, h2, q2, places_ok hok]
        rw [← hA']
        congr 1
        funext j
        rw [hfl]
        simp only [fieldsD, List.getElem?_toArray, List.getElem?_map, Option.map_map]
        rfl
theorem hputs_out {b : Bid} {x : Box} : ∀ (l : List (Bid × Box)) (H : Heap), (∀ p ∈ l, p.1 ≠ b) → hputs (hput H b x) l = hput (hputs H l) b x
  | [], H, _ => rfl
  | (b', y) :: l, H, hl => by
    simp only [hputs]
    rw [← hputs_out l (hput H b' y) (fun p hp => hl p (by simp [hp]))]
    congr 1
    exact hput_swap H x y (fun e => hl (b', y) (by simp) e.symm)
theorem hputs_at {b : Bid} : ∀ (l : List (Bid × Box)) (H : Heap), (∀ p ∈ l, p.1 ≠ b) → hputs H l b = H b
  | [], H, _ => rfl
  | (b', y) :: l, H, hl => by
    simp only [hputs]
    rw [hputs_at l _ (fun p hp => hl p (by simp [hp]))]
    have : b ≠ b' := fun e => hl (b', y) (by simp) e.symm
    simp [hput, this]
theorem frzs_ids {H : Heap} {b : Bid} (hb : H b = none) : ∀ (l : List Bid), ∀ p ∈ frzs H l, p.1 ≠ b
  | [], p, hp => by simp [frzs] at hp
  | c :: l, p, hp => by
    simp only [frzs] at hp
    split at hp
    · rename_i e sz L hc
      rcases List.mem_cons.1 hp with rfl | hp
      · intro he
        simp only at he
        rw [he, hb] at hc; cases hc
      · exact frzs_ids hb l p hp
    · exact frzs_ids hb l p hp
theorem rowsIn_mem : ∀ (l : List AV) (b : Bid) (n : Nat), .own b n ∈ l → b ∈ rowsIn l
  | v :: l, b, n, h => by
    rcases List.mem_cons.1 h with rfl | h
    · simp [rowsIn]
    · have := rowsIn_mem l b n h
      cases v <;> simp [rowsIn, this]
/-- After the rows among some values were frozen: the values are told as lists. -/
theorem frz_rep (h : Rel Γ s μ a w) (d : Nat) {vs : List AV} (hp : vs.all plainA = true) : ∃ H', H' = hputs s.H (frzs s.H (rowsIn vs)) ∧ Rel Γ ⟨s.t, H'⟩ μ a w ∧ (∀ v x, v ∈ vs → Rep w (forb Γ.Mx μ s.H) μ s.H v x → ∀ μ' H'', Rep w (forb Γ.Mx μ H') μ' H'' (view s.H (d + 1) v) x) := by
  obtain ⟨i1, i2, i3, i4⟩ := frz_all (Γ := Γ) (s := s) (μ := μ) (a := a) (w := w) (rowsIn vs) s.H (FrzOf.refl _) h
  refine ⟨_, rfl, i1, fun v x hv hx μ' H'' => ?_⟩
  refine plain_rep h (fun g hg hf => hg (i2.forb hf)) d hx (List.all_eq_true.1 hp v hv) (fun b n e sz L z g c he hb hg => ?_) μ' H''
  subst he
  exact frozen_not i1 (i3 b e sz L z (rowsIn_mem _ _ _ hv) hb) hg
theorem chunk_get (k : Nat) : ∀ (n : Nat) (l : List AV) (i j : Nat) (xs : List AV) (x : AV), (chunk k n l)[i]? = some xs → xs[j]? = some x → l[i * k + j]? = some x ∧ j < k
  | 0, l, i, j, xs, x, h, _ => by simp [chunk] at h
  | n + 1, l, 0, j, xs, x, h, hx => by
    simp only [chunk, List.getElem?_cons_zero, Option.some.injEq] at h
    subst h
    rw [List.getElem?_take] at hx
    split at hx
    · rename_i hj; exact ⟨by rw [Nat.zero_mul, Nat.zero_add]; exact hx, hj⟩
    · cases hx
  | n + 1, l, i + 1, j, xs, x, h, hx => by
    simp only [chunk, List.getElem?_cons_succ] at h
    obtain ⟨h1, h2⟩ := chunk_get k n (l.drop k) i j xs x h hx
    rw [List.getElem?_drop] at h1
    refine ⟨?_, h2⟩
    rw [← h1, Nat.succ_mul]
    congr 1
    omega
theorem chunk_len (k : Nat) : ∀ (n : Nat) (l : List AV), l.length = n * k → (chunk k n l).length = n ∧ ∀ x ∈ chunk k n l, x.length = k
  | 0, l, h => by simp [chunk]
  | n + 1, l, h => by
    rw [Nat.succ_mul] at h
    obtain ⟨h1, h2⟩ := chunk_len k n (l.drop k) (by simp; omega)
    refine ⟨by simp [chunk, h1], fun x hx => ?_⟩
    simp only [chunk, List.mem_cons] at hx
    rcases hx with rfl | hx
    · simp; omega
    · exact h2 x hx
theorem slice_cell {P : Program} {t : TypeId} {i : TI} (hT : TI.of P t = some i) (hs : i.slc = true) : ∃ d, P.underlying t = some (.slice i.etype) ∧ (P.info? i.etype).isSome = true ∧ P.underlying i.etype = some d := by
  obtain ⟨e, q, d, h1, h2, _, h4, h5, _⟩ := slice_info hT hs
  exact ⟨d, by rw [h5]; exact h1, by rw [h5, h2]; rfl, by rw [h5]; exact h4⟩
theorem sim_buildSlice (h : Rel Γ s μ a w) (hd : ∀ t, o.dst = some t → t < Γ.n) {t : TypeId} {n : Nat} {parts : Array (Nat × Operand)} (ho : o.op = .buildSlice t n parts) {r : R}
    (hr : vBuildSlice (nid o.dst) n s.H (TI.of Γ.P t) ((TI.of Γ.P t).bind fun i => TI.of Γ.P i.etype) (parts.toList.map fun p => (p.1, eva s.t p.2)) = some r) : SimR Γ s μ a w o r := by
  cases hT : TI.of Γ.P t with
  | none => rw [hT] at hr; simp [vBuildSlice] at hr
  | some i =>
    rw [hT] at hr
    simp only [Option.bind_some] at hr
    cases hE : TI.of Γ.P i.etype with
    | none => rw [hE] at hr; simp [vBuildSlice] at hr
    | some ie =>
      rw [hE] at hr
      simp only [vBuildSlice] at hr
      split at hr
      · rename_i hc
        obtain ⟨hs, hzl, hpos, hsmall, hplain⟩ := hc
        obtain ⟨e, qe, de, u1, u2, u3, u4, u5, u6⟩ := slice_info hT hs
        cases hcs : arrP i.esize ((parts.toList.map fun p => (p.1, eva s.t p.2)).map fun p => (p.1, view s.H 2 p.2)) (some (List.replicate n ie.zero).flatten) with
        | none => rw [hcs] at hr; cases hr
        | some cs =>
          rw [hcs] at hr
          simp only [rowP] at hr
          split at hr
          · rename_i hf
            obtain ⟨hflat, hlen⟩ := hf
            cases hr
            intro H1 hH1 K Q hK _
            simp only [hnews] at hH1
            split at hH1
            · rename_i hn
              cases hH1
              have hn' : s.H (nid o.dst) = none := by simpa using hn
              obtain ⟨H', hH', hR', hrep⟩ := frz_rep h 1 hplain
              have hHn : H' (nid o.dst) = none := by rw [hH', hputs_at _ _ (frzs_ids hn' _)]; exact hn'
              have hz : ¬ ie.zero.isEmpty = true := by
                rw [List.isEmpty_iff]
                intro h0
                rw [h0] at hzl
                simp at hzl
                omega
              obtain ⟨q, z, q1, q2, q3, q4, q5⟩ := zero_rep (w := w) (μ := μ) (M := forb Γ.Mx μ H') (H := noH) hE hz
              rw [u5] at q1
              have hqe : q = qe := by rw [u2] at q1; exact (Option.some.inj q1).symm
              subst hqe
              have hzs : z.cells.size = i.esize := by rw [q4, hzl]
              -- the zero row
              have hrow : ArrRep w (forb Γ.Mx μ H') μ noH ((Array.range (n * q.size)).map (z.cells[· % z.cells.size]!)) (List.replicate n ie.zero).flatten := by
                refine ⟨by simp [hzl, u3], fun k c hk => ?_⟩
                have hkl : k < n * q.size := by
                  have := (List.getElem?_eq_some_iff.1 hk).1
                  simpa [hzl, u3] using this
                have hsz : q.size = ie.zero.length := by rw [← u3, hzl]
                have hk' : ie.zero[k % ie.zero.length]? = some c := by
                  have hgen : ∀ (n k : Nat), (List.replicate n ie.zero).flatten[k]? = some c → ie.zero[k % ie.zero.length]? = some c := by
                    intro n
                    induction n with
                    | zero => intro k hk; simp at hk
                    | succ n ihn =>
                      intro k hk
                      rw [List.replicate_succ, List.flatten_cons] at hk
                      by_cases hlt : k < ie.zero.length
                      · rw [List.getElem?_append_left hlt] at hk
                        rw [Nat.mod_eq_of_lt hlt]; exact hk
                      · rw [List.getElem?_append_right (by omega)] at hk
                        have := ihn _ hk
                        rw [← Nat.mod_eq_sub_mod (by omega)] at this
                        exact this
                  exact hgen n k hk
                obtain ⟨y, y1, y2, y3⟩ := q5.2 _ c hk'
                refine ⟨y, ?_, y2, y3⟩
                simp only [Array.getElem?_map, Array.getElem?_range, hkl, if_true, Option.map_some]
                rw [q4]
                have hml : k % ie.zero.length < z.cells.size := by rw [q4]; exact Nat.mod_lt _ (by omega)
                rw [Array.getElem?_eq_getElem hml] at y1
                rw [getElem!_pos z.cells _ hml]
                exact congrArg some (Option.some.inj y1)
              rw [arrP_gen] at hcs
              have hcs' : genP (fun j => some (j * i.esize, i.esize, false)) (parts.toList.map fun p => (p.1, view s.H 2 (eva s.t p.2))) (some (List.replicate n ie.zero).flatten) = some cs := by
                rw [List.map_map] at hcs; exact hcs
              obtain ⟨A', e1, e2⟩ := fill_rep (w := w) (μ := μ) (M := forb Γ.Mx μ H') (H := noH) (fun j => some (j * i.esize, i.esize, false)) (fun x => view s.H 2 (eva s.t x)) a.eval parts.toList
                (fun p hp => hrep _ _ (by simp only [List.mem_map]; exact ⟨(p.1, eva s.t p.2), ⟨p, hp, rfl⟩, rfl⟩) (eva_rep h p.2) _ _) _ cs _ hrow hcs'
              have hmap : (parts.map fun (x : Nat × Operand) => match x with | (i, x) => (i, a.eval x)).toList = parts.toList.map fun p => (p.1, a.eval p.2) := by simp
              have e1' : Instr.fill (fun j => some (j * q.size, q.size)) ((Array.range (n * q.size)).map (z.cells[· % z.cells.size]!)) (parts.map fun (x : Nat × Operand) => match x with | (i, x) => (i, a.eval x)).toList = some A' := by
                rw [hmap, ← u3]
                rw [← u3] at e1
                exact e1
              have hrun : (Instr.buildSlice t n (parts.map fun (x : Nat × Operand) => match x with | (i, x) => (i, a.eval x))).run Γ.P w = .ok (.slice (some ⟨w.heap.size, 0, none⟩) n n) (w.alloc (.cells A' e)) := by
                by_cases h0 : n * q.size = 0
                · have hm0 : ∀ f : Nat → Value, (Array.range 0).map f = #[] := fun f => by simp
                  rw [h0] at e1'
                  have e1'' : Instr.fill (fun j => some (j * q.size, q.size)) #[] (parts.map fun (x : Nat × Operand) => match x with | (i, x) => (i, a.eval x)).toList = some A' := by rw [← e1', hm0]
                  simp only [Instr.buildSlice, Sem.run_bind, run_underlying u1, Result.andThen_ok, run_sizeOf' u2, h0, Sem.run_ite, if_true, Sem.run_pure, hm0, e1'', newRow, run_newObj]
                  rfl
                · exact run_buildSlice w t e n _ A' q z u1 u2 q2 (by rw [← u3]; omega) h0 e1'
              have hL := chunk_len i.esize n cs hlen
              refine wp_value (x := .slice (some ⟨w.heap.size, 0, none⟩) n n) (w' := w.alloc (.cells A' e)) (by simp only [execOp, ho, Sem.run_bind, hrun, Result.andThen_ok, Sem.run_pure]) ?_
              have hRn := hR'.newbox (b := nid o.dst) hHn rfl ((Below.refl _ _).alloc (Nat.le_refl _) _) (Nat.le_refl _) (heap_alloc_new w (.cells A' e)) (c := n) (x := .row i.etype i.esize (chunk i.esize n cs) false) (by
                intro M μ' H'' hM hle hμ'
                refine ⟨u5, hpos, hL.2, by rw [e2.1, hlen], by omega, by unfold maxLen; exact Nat.le_trans (Nat.le_trans (Nat.le_mul_of_pos_right n hpos) hsmall) (by decide), fun k j xs x hk hj => ?_⟩
                obtain ⟨g1, g2⟩ := chunk_get _ _ _ _ _ _ _ hk hj
                obtain ⟨y, y1, y2, y3⟩ := e2.2 _ x g1
                exact ⟨y, y1, y2, y3.mono (fun g hg hf => ⟨hM g (by simp; omega) (by omega) hf, heap_alloc_old w _ hg⟩) (HLe.refl _) (fun b hb => absurd rfl hb)⟩)
              have hfin := hRn.put (d := o.dst) hd (v := .own (nid o.dst) n) (x := .slice (some ⟨w.heap.size, 0, none⟩) n n) (by
                have := @Rep.own (w.alloc (.cells A' e)) (forb Γ.Mx (lput μ (nid o.dst) (some (w.heap.size, n))) (hput H' (nid o.dst) (.row i.etype i.esize (chunk i.esize n cs) false))) (lput μ (nid o.dst) (some (w.heap.size, n))) (hput H' (nid o.dst) (.row i.etype i.esize (chunk i.esize n cs) false)) (nid o.dst) n _ _ _ _ (by simp [hput]; exact ⟨rfl, rfl, rfl, rfl⟩) (by omega)
                simpa [lput, sliceV] using this)
              have hst : hputs (hput s.H (nid o.dst) (.row i.etype i.esize (chunk i.esize n cs) false)) (frzs s.H (rowsIn ((parts.toList.map fun p => (p.1, eva s.t p.2)).map (·.2)))) = hput H' (nid o.dst) (.row i.etype i.esize (chunk i.esize n cs) false) := by
                rw [hputs_out _ _ (frzs_ids hn' _), hH']
              refine hK rfl (lput μ (nid o.dst) (some (w.heap.size, n))) _ _ ?_
              simp only []
              rw [hst]
              exact hfin
            · cases hH1
          · cases hr
      · cases hr
end
end Go.Proofs.Ytebflegkdfhoaaa.AE
