/-
  A plain machine for the code of functions, and its soundness: part AE14. Conditions: none; every lemma names its own.
-/
import Derived.Test.YtebflegkdfhoaaaAE13
import Derived.Lib.AppendZeros
namespace Go.Proofs.Ytebflegkdfhoaaa.AE
open Go Go.RowKit
set_option linter.unusedVariables false
section
variable {Γ : Ctx} {s : St} {μ : Lay} {a : Act} {w : World} {o : Oper}
/-- A row goes on under another number, in its block or in a new one; under the old number it is given up. -/
theorem Rel.moved (h : Rel Γ s μ a w) {b b' : Bid} (hn : s.H b = none) (h0 : b.1 = 0) {e0 : TypeId} {sz0 : Nat} {L0 : List (List AV)} (hb' : s.H b' = some (.row e0 sz0 L0 false)) {w' : World} {p' : Option (Nat × Nat)} {x : Box}
    (hos : w'.os = w.os) (htape : w'.tape = w.tape) (hout : w'.output = w.output) (hsize : w.heap.size ≤ w'.heap.size) (hother : ∀ k, k < w.heap.size → (∀ c, μ b' ≠ some (k, c)) → w'.heap[k]? = w.heap[k]?)
    (hp : ∀ g c, p' = some (g, c) → (∃ c', μ b' = some (g, c')) ∨ w.heap.size ≤ g)
    (hx : ∀ M μ' H', (∀ k, k < w.heap.size → ¬ forb Γ.Mx μ s.H k → ¬ M k ∧ w'.heap[k]? = w.heap[k]?) → HLe s.H H' → (∀ b, s.H b ≠ none → μ' b = μ b) → μ' b = p' → BoxAt w' M μ' H' b x) :
    Rel Γ ⟨s.t, hput (hput s.H b x) b' .dead⟩ (lput μ b p') a w' := by
  have hbb : b ≠ b' := by rintro rfl; rw [hn] at hb'; cases hb'
  have hne := lput_ne (μ := μ) (p := p') hn
  have hle : HLe s.H (hput (hput s.H b x) b' .dead) := by
    intro i
    by_cases e1 : i = b'
    · subst e1; rw [hb']; exact .inr (by simp [hput])
    · by_cases e2 : i = b
      · subst e2; rw [hn]; trivial
      · have : hput (hput s.H b x) b' .dead i = s.H i := by simp [hput, e1, e2]
        rw [this]; exact HLe.refl s.H i
  have hfb : ∀ g c, μ b' = some (g, c) → forb Γ.Mx μ s.H g := fun g c hg => .inr ⟨b', _, c, hb', rfl, hg⟩
  have hforb : ∀ k, k < w.heap.size → forb Γ.Mx (lput μ b p') (hput (hput s.H b x) b' .dead) k → forb Γ.Mx μ s.H k := by
    rintro k hk (hk' | ⟨i, y, c', q1, q2, q3⟩)
    · exact .inl hk'
    · by_cases e1 : i = b'
      · subst e1; simp only [hput, if_true, Option.some.injEq] at q1; subst q1; simp [Box.hot] at q2
      · by_cases e2 : i = b
        · subst e2
          simp only [lput, if_true] at q3
          rcases hp k c' q3 with ⟨c'', h'⟩ | h'
          · exact hfb k c'' h'
          · omega
        · simp only [hput, e1, e2, if_false] at q1
          simp only [lput, e2, if_false] at q3
          exact .inr ⟨i, y, c', q1, q2, q3⟩
  have hm : ∀ k, k < w.heap.size → ¬ forb Γ.Mx μ s.H k → ¬ forb Γ.Mx (lput μ b p') (hput (hput s.H b x) b' .dead) k ∧ w'.heap[k]? = w.heap[k]? := fun k hk hfk =>
    ⟨fun hh => hfk (hforb k hk hh), hother k hk fun c hc => hfk (hfb k c hc)⟩
  refine h.next hle hne ⟨hos, htape, hout, hsize, fun k hk hn => hother k (Nat.lt_of_lt_of_le hk h.hw.size) fun c hc => ?_⟩ hm ?_ ?_ ?_ ?_
  · exact (h.hf b' _ k c hb' hc rfl).elim (fun h => by omega) hn
  · intro i y hy
    by_cases e1 : i = b'
    · subst e1; simp only [hput, if_true, Option.some.injEq] at hy; exact .inl hy.symm
    · by_cases e2 : i = b
      · subst e2
        simp only [hput, e1, if_false, if_true, Option.some.injEq] at hy
        subst hy
        exact hx _ _ _ hm hle hne (by simp [lput])
      · simp only [hput, e1, e2, if_false] at hy
        exact (h.hb i y hy).mono hy hm hle hne fun g c hl hg => hother g (h.lt hy hl hg) fun c' hc' => e1 (h.hi b' i _ y g c' c hb' hy rfl hl hc' hg).symm
  · intro b1 b2 x1 x2 g' c1 c2 q1 q2 q3 q4 q5 q6
    by_cases d1 : b1 = b'
    · subst d1; simp only [hput, if_true, Option.some.injEq] at q1; subst q1; simp [Box.hot] at q3
    · by_cases d2 : b2 = b'
      · subst d2; simp only [hput, if_true, Option.some.injEq] at q2; subst q2; simp [Box.live] at q4
      · by_cases e1 : b1 = b <;> by_cases e2 : b2 = b
        · rw [e1, e2]
        · subst e1
          simp only [hput, d2, e2, if_false] at q2
          simp only [lput, if_true] at q5
          simp only [lput, e2, if_false] at q6
          rcases hp g' c1 q5 with ⟨c'', h'⟩ | h'
          · exact absurd (h.hi b' b2 _ x2 g' c'' c2 hb' q2 rfl q4 h' q6).symm d2
          · have := h.lt q2 q4 q6; omega
        · subst e2
          simp only [hput, d1, e1, if_false] at q1
          simp only [lput, if_true] at q6
          simp only [lput, e1, if_false] at q5
          rcases hp g' c2 q6 with ⟨c'', h'⟩ | h'
          · exact absurd (h.hi b1 b' x1 _ g' c1 c'' q1 hb' q3 rfl q5 h') d1
          · have := h.lt q1 (hot_live q3) q5; omega
        · simp only [hput, d1, d2, e1, e2, if_false] at q1 q2
          simp only [lput, e1, e2, if_false] at q5 q6
          exact h.hi b1 b2 x1 x2 g' c1 c2 q1 q2 q3 q4 q5 q6
  · intro i y g' c' q1 q2 q3
    by_cases d1 : i = b'
    · subst d1; simp only [hput, if_true, Option.some.injEq] at q1; subst q1; simp [Box.live] at q3
    · by_cases e1 : i = b
      · subst e1
        simp only [lput, if_true] at q2
        rcases hp g' c' q2 with ⟨c'', h'⟩ | h'
        · exact h.hf b' _ g' c'' hb' h' rfl
        · have := h.hw.size; omega
      · simp only [hput, d1, e1, if_false] at q1
        simp only [lput, e1, if_false] at q2
        exact h.hf i y g' c' q1 q2 q3
  · intro i y q1 q2
    have e1 : (1, i) ≠ b := by rintro rfl; cases h0
    by_cases d1 : (1, i) = b'
    · subst d1; simp only [hput, if_true, Option.some.injEq] at q1; subst q1; simp [Box.live] at q2
    · simp only [hput, d1, e1, if_false] at q1
      simp only [lput, e1, if_false]
      exact h.hp i y q1 q2
/-- A nil row. -/
theorem Rel.newnil (h : Rel Γ s μ a w) {b : Bid} (hn : s.H b = none) (h0 : b.1 = 0) {e : TypeId} {sz : Nat} (hsz : 0 < sz) : Rel Γ ⟨s.t, hput s.H b (.row e sz [] false)⟩ (lput μ b none) a w := by
  have hne := lput_ne (μ := μ) (p := none) hn
  have hforb : ∀ k, forb Γ.Mx (lput μ b none) (hput s.H b (.row e sz [] false)) k → forb Γ.Mx μ s.H k := by
    rintro k (hk' | ⟨i, y, c', q1, q2, q3⟩)
    · exact .inl hk'
    · by_cases e2 : i = b
      · subst e2; simp [lput] at q3
      · simp only [hput, e2, if_false] at q1
        simp only [lput, e2, if_false] at q3
        exact .inr ⟨i, y, c', q1, q2, q3⟩
  have hm : ∀ k, k < w.heap.size → ¬ forb Γ.Mx μ s.H k → ¬ forb Γ.Mx (lput μ b none) (hput s.H b (.row e sz [] false)) k ∧ w.heap[k]? = w.heap[k]? := fun k hk hfk => ⟨fun hh => hfk (hforb k hh), rfl⟩
  refine h.next (HLe.hput hn) hne (BelowX.refl _ _ _) hm ?_ ?_ ?_ ?_
  · intro i y hy
    by_cases e2 : i = b
    · subst e2
      simp only [hput, if_true, Option.some.injEq] at hy
      subst hy
      exact .inr (.inr ⟨by simp [lput], e, sz, false, rfl, hsz⟩)
    · simp only [hput, e2, if_false] at hy
      exact (h.hb i y hy).mono hy hm (HLe.hput hn) hne fun g c hl hg => rfl
  · intro b1 b2 x1 x2 g' c1 c2 q1 q2 q3 q4 q5 q6
    by_cases e1 : b1 = b
    · subst e1; simp [lput] at q5
    · by_cases e2 : b2 = b
      · subst e2; simp [lput] at q6
      · simp only [hput, e1, e2, if_false] at q1 q2
        simp only [lput, e1, e2, if_false] at q5 q6
        exact h.hi b1 b2 x1 x2 g' c1 c2 q1 q2 q3 q4 q5 q6
  · intro i y g' c' q1 q2 q3
    by_cases e1 : i = b
    · subst e1; simp [lput] at q2
    · simp only [hput, e1, if_false] at q1
      simp only [lput, e1, if_false] at q2
      exact h.hf i y g' c' q1 q2 q3
  · intro i y q1 q2
    have e1 : (1, i) ≠ b := by rintro rfl; cases h0
    simp only [hput, e1, if_false] at q1
    simp only [lput, e1, if_false]
    exact h.hp i y q1 q2
/-- append of nothing. -/
theorem run_append_no {P : Program} (t ty e : TypeId) (i : TypeInfo) (ht : P.underlying t = some (.slice e)) (hi : P.info? e = some i) (hts : ∀ k, P.underlying t ≠ some (.int k))
    (base : Option Addr) (n c : Nat) (hb : n ≤ c) (ad : Option Addr) (m : Nat) (hbase : base = none → n = 0) : (Builtin.append_ #[t, t] ty #[.slice base n c, .slice ad 0 m]).run P w = .ok (.slice base n c) w := by
  cases base with
  | none => cases ad <;> simp [Builtin.append_, run_underlying ht, run_sizeOf' hi, Builtin.lenOf, hb, Builtin.firstCells, loadCells, loadCellsFrom]
  | some b => cases ad <;> simp [Builtin.append_, run_underlying ht, run_sizeOf' hi, Builtin.lenOf, hb, Builtin.firstCells, loadCells, loadCellsFrom, storeCells]
theorem sim_append (h : Rel Γ s μ a w) (hd : ∀ t, o.dst = some t → t < Γ.n) {y x : Operand} {t : TypeId} (ho : o.op = .call ⟨.builtin .append, #[y, x], #[t, t]⟩) {r : R}
    (hr : vAppend s.H (nid o.dst) (eva s.t y) (TI.of Γ.P t) ((TI.of Γ.P t).bind fun i => TI.of Γ.P i.etype) (content s.H (eva s.t x)) = some r) : SimR Γ s μ a w o r := by
  have hy := eva_rep h y
  have hx := eva_rep h x
  cases hT : TI.of Γ.P t with
  | none => rw [hT] at hr; simp [vAppend] at hr
  | some i =>
    rw [hT] at hr
    simp only [Option.bind_some] at hr
    cases hE : TI.of Γ.P i.etype with
    | none => rw [hE] at hr; simp [vAppend] at hr
    | some ie =>
      rw [hE] at hr
      cases hc : content s.H (eva s.t x) with
      | none => rw [hc] at hr; simp [vAppend] at hr
      | some kM =>
        obtain ⟨k, M⟩ := kM
        rw [hc] at hr
        simp only [vAppend] at hr
        split at hr
        · rename_i hcond
          obtain ⟨hs, hzl, hpos, hk⟩ := hcond
          obtain ⟨e, qe, de, u1, u2, u3, u4, u5, u6⟩ := slice_info hT hs
          have hz : ¬ ie.zero.isEmpty = true := by
            rw [List.isEmpty_iff]
            intro h0
            rw [h0] at hzl
            simp at hzl
            omega
          obtain ⟨q, z, q1, q2, q3, q4, _⟩ := zero_rep (w := w) (μ := μ) (M := forb Γ.Mx μ s.H) (H := noH) hE hz
          rw [u5] at q1
          have hqe : q = qe := by rw [u2] at q1; exact (Option.some.inj q1).symm
          subst hqe
          obtain ⟨ad, c, news, e1, e2, e3, e4, e5, e6⟩ := content_vals h hx hc
          have hrunop : ∀ v' w', (Builtin.append_ #[t, t] o.type #[a.eval y, a.eval x]).run Γ.P w = .ok v' w' → (execOp a.eval o).run Γ.P w = .ok (.value v') w' := by
            intro v' w' hq
            simp only [execOp, ho, resolve, invoke, builtin, Sem.run_bind, Sem.run_pure, Result.andThen_ok, List.map_toArray, List.map_cons, List.map_nil, hq]
          have hnews : ∀ uu ∈ news, uu.oneCell' = true := by
            intro uu hu
            obtain ⟨j, hj, rfl⟩ := List.mem_iff_getElem.1 hu
            obtain ⟨_, _, _, h1⟩ := e5 j news[j] (List.getElem?_eq_getElem hj)
            exact h1
          -- the elements behind
          have elemsM : ∀ {Mf μ' : _} {w' : World}, (∀ g, g < w.heap.size → ¬ forb Γ.Mx μ s.H g → ¬ Mf g ∧ w'.heap[g]? = w.heap[g]?) → ∀ (j l : Nat) (xs : List AV) (v : AV), M[j]? = some xs → xs[l]? = some v → ∃ uu, news[j * k + l]? = some uu ∧ uu.oneCell' = true ∧ Rep w' Mf μ' noH v uu := by
            intro Mf μ' w' hm j l xs v hj hl
            obtain ⟨uu, r1, r2, r3⟩ := e6 j l xs v hj hl
            exact ⟨uu, r1, r2, r3.mono hm (HLe.refl _) (fun b hb => absurd rfl hb)⟩
          cases hY : eva s.t y <;> rw [hY] at hr hy <;> simp only at hr <;> try (cases hr; done)
          · split at hr
            · rename_i hb
              obtain ⟨hb1, hb2⟩ := hb
              cases hr
              have hyv := hy.nils_inv
              intro H1 hH1 K Q hK _
              simp only [AE.hnews] at hH1
              split at hH1
              · rename_i hn
                cases hH1
                have hn' : s.H (nid o.dst) = none := by simpa using hn
                by_cases hM0 : M = []
                · subst hM0
                  refine wp_value (hrunop (.slice none 0 0) w ?_) (hK rfl (lput μ (nid o.dst) none) _ _ ?_)
                  · rw [hyv, e1]
                    exact run_append_no t _ e q u1 u2 (by rw [u1]; simp) none 0 0 (Nat.le_refl _) ad c (fun _ => rfl)
                  · have hR := h.newnil hn' rfl (e := i.etype) hpos
                    refine hR.put hd ?_
                    have := @Rep.own w (forb Γ.Mx (lput μ (nid o.dst) none) (hput s.H (nid o.dst) (.row i.etype i.esize [] false))) (lput μ (nid o.dst) none) (hput s.H (nid o.dst) (.row i.etype i.esize [] false)) (nid o.dst) 0 _ _ _ _ (hput_same _ _ _) (Nat.zero_le _)
                    simpa [lput, sliceV] using this
                · have hm0 : 0 < M.length := List.length_pos_iff.2 hM0
                  have hkk : k = i.esize := hk.resolve_right hM0
                  have had : ∃ ad', ad = some ad' := by
                    have hl0 : 0 < news.length := by rw [e3, hkk]; exact Nat.mul_pos hm0 hpos
                    obtain ⟨ad', h1, _⟩ := e5 0 news[0] (List.getElem?_eq_getElem hl0)
                    exact ⟨ad', h1⟩
                  obtain ⟨ad', rfl⟩ := had
                  obtain ⟨v', w', hrun, hown, hgrow, _, _⟩ := run_append_own_at (P := Γ.P) w w.heap.size t o.type e q z i.esize i.ebytes u1 u2 q2 u3.symm u6.symm (by rw [q4, hzl]) hpos (.slice none 0 0) 0 [] (World.ownsRow_nil _ _ _ _) ad' M.length c news (by rw [e3, hkk]) (fun j uu hj => by obtain ⟨_, h1, h2, _⟩ := e5 j uu hj; cases h1; exact h2) hnews (by omega) (by simpa using hb1) (Nat.le_refl _)
                  simp only [Nat.zero_add, List.nil_append] at hown
                  rcases hown.2 with ⟨_, h0⟩ | ⟨g, cap, cur, rfl, hbg, hg, hnc, hcm, hcs, htake⟩
                  · omega
                  · have hbel : Below w.heap.size w w' := ⟨hgrow.os, hgrow.tape, hgrow.output, hgrow.size, fun k hk => hgrow.block k hk (by simp [Value.ownBlock])⟩
                    refine wp_value (hrunop _ _ (by rw [hyv, e1]; exact hrun)) (hK rfl (lput μ (nid o.dst) (some (g, cap))) _ _ ?_)
                    have hR := h.newbox hn' rfl hbel hbg hg (c := cap) (x := .row i.etype i.esize M false) (by
                      intro Mf μ' H' hMf hle hμ'
                      refine ⟨u5, hpos, fun xs hxs => (e4 xs hxs).trans hkk, hcs, hnc, hcm, fun j l xs v hj hl => ?_⟩
                      obtain ⟨uu, r1, r2, r3⟩ := elemsM (Mf := Mf) (μ' := μ') (w' := w') (fun g' hg' hf => ⟨hMf g' (Nat.lt_of_lt_of_le hg' hbel.size) (by omega) hf, hbel.block g' hg'⟩) j l xs v hj hl
                      refine ⟨uu, ?_, r2, r3⟩
                      rw [← hkk]
                      have hlt := (List.getElem?_eq_some_iff.1 r1).1
                      rw [← htake, List.getElem?_take] at r1
                      split at r1
                      · simpa using r1
                      · cases r1)
                    refine hR.put hd ?_
                    have := @Rep.own w' (forb Γ.Mx (lput μ (nid o.dst) (some (g, cap))) (hput s.H (nid o.dst) (.row i.etype i.esize M false))) (lput μ (nid o.dst) (some (g, cap))) (hput s.H (nid o.dst) (.row i.etype i.esize M false)) (nid o.dst) M.length _ _ _ _ (hput_same _ _ _) (Nat.le_refl _)
                    simpa [lput, sliceV] using this
              · cases hH1
            · cases hr
          · rename_i b' n
            split at hr
            · rename_i hb
              obtain ⟨hb1, hb2⟩ := hb
              cases hbx : s.H b' with
              | none => rw [hbx] at hr; simp [appO] at hr
              | some yb =>
                rw [hbx] at hr
                cases yb with
                | obj cs => simp [appO] at hr
                | dead => simp [appO] at hr
                | row er szr L zf =>
                  cases zf with
                  | true => simp [appO] at hr
                  | false =>
                    simp only [appO] at hr
                    split at hr
                    · rename_i hes
                      obtain ⟨rfl, rfl⟩ := hes
                      cases hr
                      intro H1 hH1 K Q hK _
                      simp only [AE.hnews] at hH1
                      split at hH1
                      · rename_i hn
                        cases hH1
                        have hn' : s.H (nid o.dst) = none := by simpa using hn
                        generalize hyval : a.eval y = yv at hy
                        cases hy with
                        | ownd _ _ _ _ hH _ => rw [hbx] at hH; cases hH
                        | own _ _ _ _ _ _ _ hH hnn =>
                          rw [hbx] at hH; cases hH
                          have hlt : (L.take n).length = n := by rw [List.length_take]; omega
                          -- what the final state needs
                          have fin : ∀ (w' : World) (p' : Option (Nat × Nat)), Rel Γ ⟨s.t, hput (hput s.H (nid o.dst) (.row i.etype i.esize (L.take n ++ M) false)) b' .dead⟩ (lput μ (nid o.dst) p') a w' →
                              Rel Γ ⟨tput s.t o.dst (.own (nid o.dst) (n + M.length)), hput (hput s.H (nid o.dst) (.row i.etype i.esize (L.take n ++ M) false)) b' .dead⟩ (lput μ (nid o.dst) p') (a.put o.dst (sliceV p' (n + M.length))) w' := by
                            intro w' p' hR
                            refine hR.put hd ?_
                            have hbb : nid o.dst ≠ b' := by intro he; rw [he, hbx] at hn'; cases hn'
                            have := @Rep.own w' (forb Γ.Mx (lput μ (nid o.dst) p') (hput (hput s.H (nid o.dst) (.row i.etype i.esize (L.take n ++ M) false)) b' .dead)) (lput μ (nid o.dst) p') (hput (hput s.H (nid o.dst) (.row i.etype i.esize (L.take n ++ M) false)) b' .dead) (nid o.dst) (n + M.length) i.etype i.esize (L.take n ++ M) false (by simp [hput, hbb]) (by rw [List.length_append, hlt]; omega)
                            simpa [lput] using this
                          rcases h.hb b' _ hbx with hbad | ⟨g, c0, cur, e0, p1, p2, p3⟩ | ⟨p1, e0, sz0, z0, p2, p3⟩
                          · cases hbad
                          · obtain ⟨rfl, p3, p4, p5, p6, p7, p8⟩ := p3
                            rw [p1] at hyval
                            by_cases hM0 : M = []
                            · subst hM0
                              refine wp_value (hrunop (sliceV (some (g, c0)) (n + 0)) w ?_) (hK rfl (lput μ (nid o.dst) (some (g, c0))) _ _ (fin w (some (g, c0)) ?_))
                              · rw [hyval, e1]
                                exact run_append_no t _ e q u1 u2 (by rw [u1]; simp) _ n c0 (by omega) ad c (by simp)
                              · refine h.moved hn' rfl hbx rfl rfl rfl (Nat.le_refl _) (fun _ _ _ => rfl) (fun g' c' hg' => by cases hg'; exact .inl ⟨c0, p1⟩) fun Mf μ' H' hMf hle hμ' hμb => ?_
                                refine .inr (.inl ⟨g, c0, cur, i.etype, hμb, p2, rfl, p3, fun xs hxs => ?_, p5, by simp; omega, p7, fun j l xs v hj hl => ?_⟩)
                                · simp only [List.append_nil] at hxs
                                  exact p4 xs (List.mem_of_mem_take hxs)
                                · simp only [List.append_nil, List.getElem?_take] at hj
                                  split at hj
                                  · obtain ⟨uu, r1, r2, r3⟩ := p8 j l xs v hj hl
                                    exact ⟨uu, r1, r2, r3.mono hMf (HLe.refl _) (fun b hb => absurd rfl hb)⟩
                                  · cases hj
                            · have hm0 : 0 < M.length := List.length_pos_iff.2 hM0
                              have hkk : k = i.esize := hk.resolve_right hM0
                              have had : ∃ ad', ad = some ad' := by
                                have hl0 : 0 < news.length := by rw [e3, hkk]; exact Nat.mul_pos hm0 hpos
                                obtain ⟨ad', h1, _⟩ := e5 0 news[0] (List.getElem?_eq_getElem hl0)
                                exact ⟨ad', h1⟩
                              obtain ⟨ad', rfl⟩ := had
                              have hnc : n ≤ c0 := by omega
                              have hown0 : w.ownsRow 0 e i.esize (.slice (some ⟨g, 0, none⟩) n c0) n (cur.toList.take (n * i.esize)) := by
                                refine ⟨?_, .inr ⟨g, c0, cur, rfl, Nat.zero_le _, by rw [← u5]; exact p2, hnc, p7, p5, rfl⟩⟩
                                have : n * i.esize ≤ cur.size := by rw [p5]; exact Nat.mul_le_mul_right _ hnc
                                simp; omega
                              obtain ⟨v', w', hrun, hown, hgrow, _, hat⟩ := run_append_own_at (P := Γ.P) w 0 t o.type e q z i.esize i.ebytes u1 u2 q2 u3.symm u6.symm (by rw [q4, hzl]) hpos _ n _ hown0 ad' M.length c news (by rw [e3, hkk]) (fun j uu hj => by obtain ⟨_, h1, h2, _⟩ := e5 j uu hj; cases h1; exact h2) hnews (by omega) hb1 (Nat.zero_le _)
                              rcases hown.2 with ⟨_, h0⟩ | ⟨g', cap, cur', rfl, hbg, hg, hncap, hcm, hcs, htake⟩
                              · omega
                              · refine wp_value (hrunop _ _ (by rw [hyval, e1]; exact hrun)) (hK rfl (lput μ (nid o.dst) (some (g', cap))) _ _ (fin w' (some (g', cap)) ?_))
                                refine h.moved hn' rfl hbx hgrow.os hgrow.tape hgrow.output hgrow.size (fun k' hk' hne => hgrow.block k' hk' (by simp only [Value.ownBlock, ne_eq, Option.some.injEq]; rintro rfl; exact hne c0 p1)) (fun g'' c'' hg'' => ?_) fun Mf μ' H' hMf hle hμ' hμb => ?_
                                · cases hg''
                                  simp only [Value.ownBlock, Option.some.injEq] at hat
                                  rcases hat with rfl | rfl
                                  · exact .inl ⟨c0, p1⟩
                                  · exact .inr (Nat.le_refl _)
                                · refine .inr (.inl ⟨g', cap, cur', i.etype, hμb, by rw [u5]; exact hg, rfl, p3, fun xs hxs => ?_, hcs, by rw [List.length_append, hlt]; omega, hcm, fun j l xs v hj hl => ?_⟩)
                                  · rcases List.mem_append.1 hxs with hxs | hxs
                                    · exact p4 xs (List.mem_of_mem_take hxs)
                                    · exact (e4 xs hxs).trans hkk
                                  · have hcell : ∀ (m : Nat) (uu : Value), (cur.toList.take (n * i.esize) ++ news)[m]? = some uu → cur'[m]? = some uu := by
                                      intro m uu hm
                                      rw [← htake, List.getElem?_take] at hm
                                      split at hm
                                      · simpa using hm
                                      · cases hm
                                    have hlen1 : (cur.toList.take (n * i.esize)).length = n * i.esize := hown0.1
                                    by_cases hjn : j < n
                                    · rw [List.getElem?_append_left (by omega), List.getElem?_take, if_pos hjn] at hj
                                      obtain ⟨uu, r1, r2, r3⟩ := p8 j l xs v hj hl
                                      have hll : l < i.esize := by
                                        have := (List.getElem?_eq_some_iff.1 hl).1
                                        rw [p4 xs (List.mem_of_getElem? hj)] at this
                                        exact this
                                      have hidx : j * i.esize + l < n * i.esize := by
                                        calc j * i.esize + l < j * i.esize + i.esize := by omega
                                          _ = (j + 1) * i.esize := (Nat.succ_mul _ _).symm
                                          _ ≤ n * i.esize := Nat.mul_le_mul_right _ hjn
                                      refine ⟨uu, hcell _ _ ?_, r2, r3.mono hMf (HLe.refl _) (fun b hb => absurd rfl hb)⟩
                                      rw [List.getElem?_append_left (by omega), List.getElem?_take, if_pos hidx]
                                      simpa using r1
                                    · rw [List.getElem?_append_right (by omega), hlt] at hj
                                      obtain ⟨uu, r1, r2, r3⟩ := elemsM (Mf := Mf) (μ' := μ') (w' := w') hMf (j - n) l xs v hj hl
                                      refine ⟨uu, hcell _ _ ?_, r2, r3⟩
                                      have hjm : j * i.esize = n * i.esize + (j - n) * i.esize := by rw [← Nat.add_mul]; congr 1; omega
                                      rw [List.getElem?_append_right (by omega), hlen1, ← r1, hkk]
                                      congr 1
                                      omega
                          · cases p2
                            have hn0 : n = 0 := by simpa using hnn
                            subst hn0
                            rw [p1] at hyval
                            by_cases hM0 : M = []
                            · subst hM0
                              refine wp_value (hrunop (sliceV none (0 + 0)) w ?_) (hK rfl (lput μ (nid o.dst) none) _ _ (fin w none ?_))
                              · rw [hyval, e1]
                                exact run_append_no t _ e q u1 u2 (by rw [u1]; simp) none 0 0 (Nat.le_refl _) ad c (fun _ => rfl)
                              · exact h.moved hn' rfl hbx rfl rfl rfl (Nat.le_refl _) (fun _ _ _ => rfl) (fun g' c' hg' => by cases hg') fun Mf μ' H' hMf hle hμ' hμb => .inr (.inr ⟨hμb, i.etype, i.esize, false, rfl, hpos⟩)
                            · have hm0 : 0 < M.length := List.length_pos_iff.2 hM0
                              have hkk : k = i.esize := hk.resolve_right hM0
                              have had : ∃ ad', ad = some ad' := by
                                have hl0 : 0 < news.length := by rw [e3, hkk]; exact Nat.mul_pos hm0 hpos
                                obtain ⟨ad', h1, _⟩ := e5 0 news[0] (List.getElem?_eq_getElem hl0)
                                exact ⟨ad', h1⟩
                              obtain ⟨ad', rfl⟩ := had
                              obtain ⟨v', w', hrun, hown, hgrow, _, _⟩ := run_append_own_at (P := Γ.P) w w.heap.size t o.type e q z i.esize i.ebytes u1 u2 q2 u3.symm u6.symm (by rw [q4, hzl]) hpos (.slice none 0 0) 0 [] (World.ownsRow_nil _ _ _ _) ad' M.length c news (by rw [e3, hkk]) (fun j uu hj => by obtain ⟨_, h1, h2, _⟩ := e5 j uu hj; cases h1; exact h2) hnews (by omega) hb1 (Nat.le_refl _)
                              rcases hown.2 with ⟨_, h0⟩ | ⟨g', cap, cur', rfl, hbg, hg, hncap, hcm, hcs, htake⟩
                              · omega
                              · refine wp_value (hrunop _ _ (by rw [hyval, e1]; exact hrun)) (hK rfl (lput μ (nid o.dst) (some (g', cap))) _ _ (fin w' (some (g', cap)) ?_))
                                refine h.moved hn' rfl hbx hgrow.os hgrow.tape hgrow.output hgrow.size (fun k' hk' hne => hgrow.block k' hk' (by simp [Value.ownBlock])) (fun g'' c'' hg'' => by cases hg''; exact .inr hbg) fun Mf μ' H' hMf hle hμ' hμb => ?_
                                refine .inr (.inl ⟨g', cap, cur', i.etype, hμb, by rw [u5]; exact hg, rfl, hpos, fun xs hxs => (e4 xs (by simpa using hxs)).trans hkk, hcs, by simp; omega, hcm, fun j l xs v hj hl => ?_⟩)
                                simp only [List.take_nil, List.nil_append] at hj
                                obtain ⟨uu, r1, r2, r3⟩ := elemsM (Mf := Mf) (μ' := μ') (w' := w') hMf j l xs v hj hl
                                refine ⟨uu, ?_, r2, r3⟩
                                rw [← hkk]
                                simp only [List.nil_append] at htake
                                rw [← htake, List.getElem?_take] at r1
                                split at r1
                                · simpa using r1
                                · cases r1
                      · cases hH1
                    · cases hr
            · cases hr
        · cases hr
theorem zeroCells_at (z : Array Value) (n i j : Nat) (hi : i < n) (hj : j < z.size) : (Builtin.zeroCells z n)[i * z.size + j]? = z[j]? := by
  have h1 : i * z.size + j < n * z.size := by
    have : (i + 1) * z.size ≤ n * z.size := Nat.mul_le_mul_right _ hi
    rw [Nat.add_mul, Nat.one_mul] at this
    omega
  have h2 : (i * z.size + j) % z.size = j := by rw [Nat.mul_comm, Nat.mul_add_mod, Nat.mod_eq_of_lt hj]
  simp only [Builtin.zeroCells, Array.getElem?_map, Array.getElem?_range, h1, if_true, Option.map_some, h2]
  rw [getElem!_pos z j hj, Array.getElem?_eq_getElem hj]
theorem sim_zeros (h : Rel Γ s μ a w) (hd : ∀ t, o.dst = some t → t < Γ.n) {y x : Operand} {t t' : TypeId} (ho : o.op = .call ⟨.builtin .append, #[y, x], #[t, t']⟩) {r : R}
    (hr : vZeros (nid o.dst) (eva s.t y) (eva s.t x) (TI.of Γ.P t) ((TI.of Γ.P t).bind fun i => TI.of Γ.P i.etype) (TI.of Γ.P t') = some r) : SimR Γ s μ a w o r := by
  have hy := eva_rep h y
  have hx := eva_rep h x
  cases hT : TI.of Γ.P t with
  | none => rw [hT] at hr; cases eva s.t y <;> cases eva s.t x <;> simp [vZeros] at hr
  | some i =>
    rw [hT] at hr
    simp only [Option.bind_some] at hr
    cases hE : TI.of Γ.P i.etype with
    | none => rw [hE] at hr; cases eva s.t y <;> cases eva s.t x <;> simp [vZeros] at hr
    | some ie =>
      rw [hE] at hr
      cases hT' : TI.of Γ.P t' with
      | none => rw [hT'] at hr; cases eva s.t y <;> cases eva s.t x <;> simp [vZeros] at hr
      | some i' =>
        rw [hT'] at hr
        cases hY : eva s.t y <;> rw [hY] at hr hy <;> simp only [vZeros] at hr <;> try (cases hr; done)
        cases hX : eva s.t x <;> rw [hX] at hr hx <;> simp only at hr <;> try (cases hr; done)
        rename_i kn n
        split at hr
        · rename_i hc
          obtain ⟨hs, hzl, hpos, hkd, hn0, hb1, hb2⟩ := hc
          obtain ⟨e, qe, de, u1, u2, u3, u4, u5, u6⟩ := slice_info hT hs
          have hz : ¬ ie.zero.isEmpty = true := by
            rw [List.isEmpty_iff]
            intro h0
            rw [h0] at hzl
            simp at hzl
            omega
          obtain ⟨q, z, q1, q2, q3, q4, q5⟩ := zero_rep (w := w) (μ := μ) (M := forb Γ.Mx μ s.H) (H := noH) hE hz
          rw [u5] at q1
          have hqe : q = qe := by rw [u2] at q1; exact (Option.some.inj q1).symm
          subst hqe
          obtain ⟨q', d', v1, v2, _, _, _, _, _, _, _, _, _, hkind, _⟩ := TI.of_some hT'
          have hint : ∃ k', Γ.P.underlying t' = some (.int k') := by
            rw [hkind] at hkd
            cases d' <;> simp at hkd
            exact ⟨_, v2⟩
          obtain ⟨k', hint⟩ := hint
          cases hr
          have hyv := hy.nils_inv
          have hxv := hx.int_inv
          obtain ⟨m, rfl⟩ : ∃ m : Nat, n = (m : Int) := ⟨n.toNat, by omega⟩
          simp only [Int.toNat_natCast] at hb1 ⊢
          have hm0 : 0 < m := by omega
          have hrun := Lib.run_append_nil_zeros (P := Γ.P) w t t' o.type e q z kn k' u1 hint u2 q2 m hm0 (by omega) (by omega) (by rw [← u6]; omega)
          have hzs : z.cells.size = i.esize := by rw [q4, hzl]
          intro H1 hH1 K Q hK _
          simp only [AE.hnews] at hH1
          split at hH1
          · rename_i hn
            cases hH1
            have hn' : s.H (nid o.dst) = none := by simpa using hn
            have hcap : m ≤ grownCap w m 0 e := grownCap_ge ..
            have hcm : grownCap w m 0 e ≤ maxLen := grownCap_le_maxLen w m 0 e (by simp only [maxLen]; omega)
            obtain ⟨o', ho'⟩ : ∃ o', o' = Obj.cells (Builtin.zeroCells z.cells m ++ Builtin.zeroCells z.cells (grownCap w m 0 e - m)) e (0, 0) := ⟨_, rfl⟩
            have hbel : Below w.heap.size w (w.drew.alloc o') := ((Below.refl _ w).drew).alloc (Nat.le_refl _) _
            have hcell : (w.drew.alloc o').heap[w.heap.size]? = some o' := heap_alloc_new w.drew o'
            have hrunop : (execOp a.eval o).run Γ.P w = .ok (.value (.slice (some ⟨w.heap.size, 0, none⟩) m (grownCap w m 0 e))) (w.drew.alloc o') := by
              simp only [execOp, ho, resolve, invoke, builtin, Sem.run_bind, Sem.run_pure, Result.andThen_ok, List.map_toArray, List.map_cons, List.map_nil, hyv, hxv, hrun, ho']
            refine wp_value hrunop (hK rfl (lput μ (nid o.dst) (some (w.heap.size, grownCap w m 0 e))) _ _ ?_)
            have hR := h.newbox hn' rfl hbel (Nat.le_refl _) (hcell.trans (by rw [ho'])) (c := grownCap w m 0 e) (x := .row i.etype i.esize (List.replicate m ie.zero) false) (by
              intro Mf μ' H' hMf hle hμ'
              refine ⟨u5, hpos, fun xs hxs => by rw [List.eq_of_mem_replicate hxs, hzl], ?_, by simpa using hcap, hcm, fun j l xs v hj hl => ?_⟩
              · rw [Array.size_append, size_zeroCells, size_zeroCells, hzs, ← Nat.add_mul]
                congr 1
                omega
              · rw [List.getElem?_replicate] at hj
                split at hj
                · rename_i hjm
                  cases hj
                  obtain ⟨uu, r1, r2, r3⟩ := q5.2 l v hl
                  have hl' : l < i.esize := by rw [← hzl]; exact (List.getElem?_eq_some_iff.1 hl).1
                  refine ⟨uu, ?_, r2, r3.mono (fun g' hg' hf => ⟨hMf g' (Nat.lt_of_lt_of_le hg' hbel.size) (by omega) hf, hbel.block g' hg'⟩) (HLe.refl _) (fun b hb => absurd rfl hb)⟩
                  rw [Array.getElem?_append_left, ← hzs, zeroCells_at _ _ _ _ hjm (by rw [hzs]; exact hl'), r1]
                  rw [size_zeroCells, hzs]
                  have : (j + 1) * i.esize ≤ m * i.esize := Nat.mul_le_mul_right _ hjm
                  rw [Nat.add_mul, Nat.one_mul] at this
                  omega
                · cases hj)
            refine hR.put hd ?_
            have := @Rep.own (w.drew.alloc o') (forb Γ.Mx (lput μ (nid o.dst) (some (w.heap.size, grownCap w m 0 e))) (hput s.H (nid o.dst) (.row i.etype i.esize (List.replicate m ie.zero) false))) (lput μ (nid o.dst) (some (w.heap.size, grownCap w m 0 e))) (hput s.H (nid o.dst) (.row i.etype i.esize (List.replicate m ie.zero) false)) (nid o.dst) m _ _ _ _ (hput_same _ _ _) (by simp)
            simpa [lput, sliceV] using this
          · cases hH1
        · cases hr
theorem sim_cap (h : Rel Γ s μ a w) (hd : ∀ t, o.dst = some t → t < Γ.n) {x : Operand} {t : TypeId} (ho : o.op = .call ⟨.builtin .cap, #[x], #[t]⟩) {r : R}
    (hr : vCap (eva s.t x) (TI.of Γ.P t) = some r) : SimR Γ s μ a w o r := by
  have hx := eva_rep h x
  cases hT : TI.of Γ.P t with
  | none => rw [hT] at hr; cases eva s.t x <;> simp [vCap] at hr
  | some i =>
    rw [hT] at hr
    cases hX : eva s.t x <;> rw [hX] at hr hx <;> simp only [vCap] at hr <;> try (cases hr; done)
    split at hr
    · rename_i hs
      have hrr := val_inj hr
      subst hrr
      obtain ⟨e, qe, de, u1, u2, u3, u4, u5, u6⟩ := slice_info hT hs
      refine simV h hd (x := .int .i64 0) ?_ (.int _ _ _)
      simp [execOp, ho, resolve, invoke, builtin, hx.nils_inv, Builtin.cap_, run_underlying u1]
      rfl
    · cases hr
end
end Go.Proofs.Ytebflegkdfhoaaa.AE
