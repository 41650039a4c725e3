/-
  A plain machine for the code of functions, and its soundness: part AE13. Conditions: none; every lemma names its own.
-/
import Derived.Test.YtebflegkdfhoaaaAE12
namespace Go.Proofs.Ytebflegkdfhoaaa.AE
open Go Go.RowKit
set_option linter.unusedVariables false
section
variable {Γ : Ctx} {s : St} {μ : Lay} {a : Act} {w : World} {o : Oper}
theorem str_type {P : Program} {t : TypeId} {i : TI} (hT : TI.of P t = some i) (ha : i.agg = false) (hk : i.kinds = some [.str]) : P.underlying t = some .string := by
  obtain ⟨q, d, h1, h2, _, _, hagg, _, _, _, _, _, _, _, _, _, _, hkinds⟩ := TI.of_some hT
  rw [hk] at hkinds
  split at hkinds
  · cases hkinds
  · have h := hkinds.symm
    unfold kindsAt at h
    rw [hagg] at ha
    split at h
    · cases h
    · rw [h2] at h
      cases d <;> simp [isAggD] at ha <;> simp at h
      exact h2
/-- A slice's value: its length, and its cells. -/
theorem content_vals (h : Rel Γ s μ a w) {x : AV} {v : Value} (hx : Rep w (forb Γ.Mx μ s.H) μ s.H x v) {k : Nat} {M : List (List AV)} (hc : content s.H x = some (k, M)) :
    ∃ (ad : Option Addr) (c : Nat) (news : List Value), v = .slice ad M.length c ∧ M.length ≤ c ∧ news.length = M.length * k ∧ (∀ xs ∈ M, xs.length = k) ∧
      (∀ j uu, news[j]? = some uu → ∃ ad', ad = some ad' ∧ w.cell? (ad'.add j) = some uu ∧ uu.oneCell' = true) ∧
      (∀ (i j : Nat) (xs : List AV) (y : AV), M[i]? = some xs → xs[j]? = some y → ∃ uu, news[i * k + j]? = some uu ∧ uu.oneCell' = true ∧ Rep w (forb Γ.Mx μ s.H) μ noH y uu) := by
  have fromSl : ∀ (a' : Option Addr) (c : Nat) (f : Nat → Nat → Value), M.length ≤ c → (∀ xs ∈ M, xs.length = k) → (∀ i j, i < M.length → j < k → ∃ g off, a' = some ⟨g, off, none⟩ ∧ w.cell? ⟨g, off + (i * k + j), none⟩ = some (f i j) ∧ (f i j).oneCell' = true) →
      (∀ i j cs x, M[i]? = some cs → cs[j]? = some x → Rep w (forb Γ.Mx μ s.H) μ noH x (f i j)) → v = .slice a' M.length c →
      ∃ (ad : Option Addr) (c : Nat) (news : List Value), v = .slice ad M.length c ∧ M.length ≤ c ∧ news.length = M.length * k ∧ (∀ xs ∈ M, xs.length = k) ∧
      (∀ j uu, news[j]? = some uu → ∃ ad', ad = some ad' ∧ w.cell? (ad'.add j) = some uu ∧ uu.oneCell' = true) ∧
      (∀ (i j : Nat) (xs : List AV) (y : AV), M[i]? = some xs → xs[j]? = some y → ∃ uu, news[i * k + j]? = some uu ∧ uu.oneCell' = true ∧ Rep w (forb Γ.Mx μ s.H) μ noH y uu) := by
    intro a' c f h1 h2 h3 h4 h5
    refine ⟨a', c, (List.range (M.length * k)).map fun n => f (n / k) (n % k), h5, h1, by simp, h2, fun j uu hj => ?_, fun i j xs y hi hj => ?_⟩
    · rw [List.getElem?_map, Option.map_eq_some_iff] at hj
      obtain ⟨n, hn, rfl⟩ := hj
      have hlt := (List.getElem?_eq_some_iff.1 hn).1
      simp at hlt
      have : n = j := by simpa [hlt] using hn.symm
      subst this
      have hk0 : 0 < k := Nat.pos_of_ne_zero fun h0 => by subst h0; simp at hlt
      obtain ⟨g, off, e1, e2, e3⟩ := h3 (n / k) (n % k) ((Nat.div_lt_iff_lt_mul hk0).2 hlt) (Nat.mod_lt _ hk0)
      refine ⟨_, e1, ?_, e3⟩
      rw [Addr.add_lit]
      have : n / k * k + n % k = n := by rw [Nat.mul_comm]; exact Nat.div_add_mod n k
      rw [this] at e2
      exact e2
    · have hil := (List.getElem?_eq_some_iff.1 hi).1
      have hjl := (List.getElem?_eq_some_iff.1 hj).1
      have hxl := h2 xs (List.mem_of_getElem? hi)
      have hk0 : 0 < k := by omega
      have hlt : i * k + j < M.length * k := by
        calc i * k + j < i * k + k := by omega
          _ = (i + 1) * k := (Nat.succ_mul _ _).symm
          _ ≤ M.length * k := Nat.mul_le_mul_right _ hil
      have hd : (i * k + j) / k = i := by rw [Nat.mul_comm, Nat.mul_add_div hk0, Nat.div_eq_of_lt (by omega)]; rfl
      have hm : (i * k + j) % k = j := by rw [Nat.mul_comm, Nat.mul_add_mod, Nat.mod_eq_of_lt (by omega)]
      refine ⟨f i j, ?_, ?_, h4 i j xs y hi hj⟩
      · simp [hlt, hd, hm]
      · obtain ⟨_, _, _, _, e3⟩ := h3 i j hil (by omega)
        exact e3
  cases x <;> simp only [content] at hc <;> try (cases hc; done)
  · cases hc
    rw [hx.nils_inv]
    exact ⟨none, 0, [], rfl, Nat.le_refl _, rfl, by simp, by simp, by simp⟩
  · cases hc
    cases hx with
    | sl _ _ _ a' c f hcc hm hk hv hr =>
      exact fromSl a' c f hcc hk (fun i j hi hj => by obtain ⟨g, off, e1, _, e3, e4⟩ := hv i j hi hj; exact ⟨g, off, e1, e3, e4⟩) hr rfl
  · rename_i b n
    cases hb : s.H b with
    | none => rw [hb] at hc; cases hc
    | some y =>
      rw [hb] at hc
      cases y <;> simp only [rowOf] at hc <;> try (cases hc; done)
      rename_i e sz L z
      cases hc
      cases hx with
      | own _ _ _ e' sz' L' z' hH hn =>
        rw [hb] at hH; cases hH
        have hl : (L.take n).length = n := by rw [List.length_take]; omega
        have hrep := row_rep h hb hn (M := fun _ => False) (fun _ _ hF => hF) (fun _ _ _ hF => hF) (μ' := μ) (H' := noH)
        generalize hgen : sliceV (μ b) n = V at hrep fromSl ⊢
        rcases h.hb b _ hb with q | ⟨g, c, cur, e1, q1, q2, q3⟩ | ⟨q1, e1, sz1, z1, q2, q3⟩
        · cases q
        · obtain ⟨rfl, r3, r4, r5, r6, r7, r8⟩ := q3
          rw [q1] at hgen
          refine fromSl (some ⟨g, 0, none⟩) c (fun i j => (cur[i * k + j]?).getD undef) (by omega) (fun xs hxs => r4 xs (List.mem_of_mem_take hxs)) (fun i j hi hj => ?_) (fun i j cs x hi hj => ?_) (by rw [← hgen, hl]; rfl)
          · have hi' : i < L.length := by rw [hl] at hi; omega
            have hxl : (L[i]).length = k := r4 _ (List.getElem_mem hi')
            obtain ⟨v', v1, v2, v3⟩ := r8 i j L[i] (L[i][j]'(by omega)) (List.getElem?_eq_getElem hi') (List.getElem?_eq_getElem (by omega))
            exact ⟨g, 0, rfl, by rw [Nat.zero_add, cell_heap q2, v1]; rfl, by rw [v1]; exact v2⟩
          · rw [List.getElem?_take] at hi
            split at hi
            · obtain ⟨v', v1, v2, v3⟩ := r8 i j cs x hi hj
              rw [v1]; exact v3
            · cases hi
        · cases q2
          rw [q1] at hgen
          have hn0 : n = 0 := by simpa using hn
          subst hn0
          subst hgen
          exact ⟨none, 0, [], rfl, Nat.le_refl _, by simp, by simp, by simp, by simp⟩
      | ownd _ _ _ _ hH _ => rw [hb] at hH; cases hH
theorem sim_len (h : Rel Γ s μ a w) (hd : ∀ t, o.dst = some t → t < Γ.n) {x : Operand} {t : TypeId} (ho : o.op = .call ⟨.builtin .len, #[x], #[t]⟩) {r : R} (hr : vLen s.H (TI.of Γ.P t) (eva s.t x) = some r) : SimR Γ s μ a w o r := by
  have hx := eva_rep h x
  cases hT : TI.of Γ.P t with
  | none => rw [hT] at hr; simp [vLen] at hr
  | some i =>
    rw [hT] at hr
    generalize eva s.t x = X at hr hx
    by_cases hstr : ∃ z, X = .str z
    · obtain ⟨z, rfl⟩ := hstr
      simp only [vLen] at hr
      split at hr
      · rename_i hc
        have hu := str_type hT hc.1 hc.2
        cases val_inj hr
        exact simV h hd (x := goInt z.size) (by simp [execOp, ho, resolve, invoke, builtin, Builtin.len_, hx.str_inv, run_underlying hu]) (.int _ _ _)
      · cases hr
    · have hr' : (if i.slc = true then lenO (content s.H X) else none) = some r := by
        cases X <;> first | exact hr | exact absurd ⟨_, rfl⟩ hstr
      split at hr'
      · rename_i hs
        cases hc : content s.H X with
        | none => rw [hc] at hr'; cases hr'
        | some kM =>
          obtain ⟨k, M⟩ := kM
          rw [hc] at hr'
          cases val_inj hr'
          obtain ⟨ad, c, news, e1, _⟩ := content_vals h hx hc
          obtain ⟨e, q, d, u1, _⟩ := slice_info hT hs
          exact simV h hd (x := goInt M.length) (by simp [execOp, ho, resolve, invoke, builtin, Builtin.len_, e1, run_underlying u1]) (.int _ _ _)
      · cases hr'
theorem sim_max (h : Rel Γ s μ a w) (hd : ∀ t, o.dst = some t → t < Γ.n) {x y : Operand} {ts : Array TypeId} (ho : o.op = .call ⟨.builtin .max, #[x, y], ts⟩) {r : R} (hr : vMax (eva s.t x) (eva s.t y) = some r) : SimR Γ s μ a w o r := by
  have hx := eva_rep h x
  have hy := eva_rep h y
  cases hqx : eva s.t x <;> rw [hqx] at hr hx <;> simp only [vMax] at hr <;> try (cases hr; done)
  cases hqy : eva s.t y <;> rw [hqy] at hr hy <;> simp only at hr <;> try (cases hr; done)
  cases val_inj hr
  exact simV h hd (by simp [execOp, ho, resolve, invoke, builtin, Builtin.max_, Builtin.max2, hx.int_inv, hy.int_inv]; rfl) (.int _ _ _)
theorem sim_max4 (h : Rel Γ s μ a w) (hd : ∀ t, o.dst = some t → t < Γ.n) {x y z uu : Operand} {ts : Array TypeId} (ho : o.op = .call ⟨.builtin .max, #[x, y, z, uu], ts⟩) {r : R} (hr : vMax4 (eva s.t x) (eva s.t y) (eva s.t z) (eva s.t uu) = some r) : SimR Γ s μ a w o r := by
  have hx := eva_rep h x
  have hy := eva_rep h y
  have hz := eva_rep h z
  have hu := eva_rep h uu
  generalize eva s.t x = X at hr hx
  generalize eva s.t y = Y at hr hy
  generalize eva s.t z = Z at hr hz
  generalize eva s.t uu = U at hr hu
  unfold vMax4 at hr
  split at hr
  · cases val_inj hr
    exact simV h hd (by simp [execOp, ho, resolve, invoke, builtin, Builtin.max_, Builtin.max2, hx.int_inv, hy.int_inv, hz.int_inv, hu.int_inv]; rfl) (.int _ _ _)
  · cases hr
theorem sim_min (h : Rel Γ s μ a w) (hd : ∀ t, o.dst = some t → t < Γ.n) {x y : Operand} {ts : Array TypeId} (ho : o.op = .call ⟨.builtin .min, #[x, y], ts⟩) {r : R} (hr : vMin (eva s.t x) (eva s.t y) = some r) : SimR Γ s μ a w o r := by
  have hx := eva_rep h x
  have hy := eva_rep h y
  cases hqx : eva s.t x <;> rw [hqx] at hr hx <;> simp only [vMin] at hr <;> try (cases hr; done)
  cases hqy : eva s.t y <;> rw [hqy] at hr hy <;> simp only at hr <;> try (cases hr; done)
  cases val_inj hr
  exact simV h hd (by simp [execOp, ho, resolve, invoke, builtin, Builtin.min_, Builtin.min2, hx.int_inv, hy.int_inv]; rfl) (.int _ _ _)
/-! ## A slice cut -/
theorem hput_same (H : Heap) (b : Bid) (x : Box) : hput H b x b = some x := by simp [hput]
theorem bnd_run {d : Option Nat} {x : Option Operand} {l : Nat} (h : Rel Γ s μ a w) (hb : bnd d (x.map (eva s.t)) = some l) : (x = none ∧ d = some l) ∨ ∃ q k n, x = some q ∧ a.eval q = .int k n ∧ 0 ≤ n ∧ n.toNat = l := by
  cases x with
  | none => exact .inl ⟨rfl, hb⟩
  | some q =>
    have hq := eva_rep h q
    simp only [Option.map_some] at hb
    cases hv : eva s.t q <;> rw [hv] at hb hq <;> simp only [bnd] at hb <;> try (cases hb; done)
    split at hb
    · rename_i hn
      cases hb
      exact .inr ⟨q, _, _, rfl, hq.int_inv, hn, rfl⟩
    · cases hb
theorem sl_cut {M H} {μ' : Lay} {k : Nat} {L : List (List AV)} {ad : Option Addr} {n c : Nat} (hx : Rep w M μ' H (.sl k L) (.slice ad n c)) {l hh sz : Nat} (h1 : l ≤ hh) (h2 : hh ≤ L.length) (hk : k = sz ∨ L = []) {μ'' H'} :
    Rep w M μ'' H' (.sl k ((L.take hh).drop l)) (.slice (if c = l then ad else ad.map (·.add (l * sz))) (hh - l) (c - l)) := by
  cases hx with
  | sl _ _ _ _ _ f hc hm hkk hv hr =>
    have hlen : ((L.take hh).drop l).length = hh - l := by simp; omega
    have := @Rep.sl w M μ'' H' k ((L.take hh).drop l) (if c = l then ad else ad.map (·.add (l * sz))) (c - l) (fun i j => f (l + i) j) (by rw [hlen]; omega) (by omega) (fun x hx => hkk x (List.mem_of_mem_take (List.mem_of_mem_drop hx))) (fun i j hi hj => by
      rw [hlen] at hi
      obtain ⟨g, off, e1, e2, e3, e4⟩ := hv (l + i) j (by omega) hj
      have hne : ¬ c = l := by omega
      have hksz : k = sz := by
        rcases hk with hk | hk
        · exact hk
        · subst hk; simp at h2; omega
      refine ⟨g, off + l * sz, ?_, e2, ?_, e4⟩
      · rw [if_neg hne, e1]; simp [Addr.add_lit]
      · rw [← e3]
        congr 2
        rw [← hksz, Nat.add_mul]
        omega) (fun i j cs x hi hj => by
      rw [List.getElem?_drop, List.getElem?_take] at hi
      split at hi
      · exact (hr _ _ _ _ hi hj).ofNo
      · cases hi)
    rw [hlen] at this
    exact this
theorem sim_slice (h : Rel Γ s μ a w) (hd : ∀ t, o.dst = some t → t < Γ.n) {x : Operand} {t : TypeId} {lo hi : Option Operand} (ho : o.op = .slice t x lo hi none) {r : R}
    (hr : vSlice s.H (eva s.t x) (TI.of Γ.P t) (content s.H (eva s.t x)) (bnd (some 0) (lo.map (eva s.t))) (bnd ((content s.H (eva s.t x)).map (·.2.length)) (hi.map (eva s.t))) = some r) : SimR Γ s μ a w o r := by
  have hx := eva_rep h x
  cases hT : TI.of Γ.P t with
  | none => rw [hT] at hr; simp [vSlice] at hr
  | some i =>
    rw [hT] at hr
    cases hc : content s.H (eva s.t x) with
    | none => rw [hc] at hr; simp [vSlice] at hr
    | some kL =>
      obtain ⟨k, L⟩ := kL
      rw [hc] at hr
      cases hl : bnd (some 0) (lo.map (eva s.t)) with
      | none => rw [hl] at hr; simp [vSlice] at hr
      | some l =>
        cases hh : bnd ((some (k, L)).map (·.2.length)) (hi.map (eva s.t)) with
        | none => rw [hl, hh] at hr; simp [vSlice] at hr
        | some hgt =>
          rw [hl, hh] at hr
          simp only [vSlice] at hr
          split at hr
          · rename_i hcond
            obtain ⟨hs, hk⟩ := hcond
            simp only [cutS] at hr
            split at hr
            · rename_i hb
              obtain ⟨hb1, hb2⟩ := hb
              obtain ⟨ad, c, news, e1, e2, _⟩ := content_vals h hx hc
              obtain ⟨e, q, d, u1, u2, u3, _⟩ := slice_info hT hs
              have hrun : (execOp a.eval o).run Γ.P w = .ok (.value (.slice (if c = l then ad else ad.map (·.add (l * i.esize))) (hgt - l) (c - l))) w := by
                have hlo := bnd_run h hl
                have hhi := bnd_run h hh
                have hbounds : (Instr.sliceBounds true L.length c (lo.map a.eval) (hi.map a.eval) none).run Γ.P w = .ok (l, hgt, c) w := by
                  have hH : ∀ q k n, hi = some q → a.eval q = .int k n → 0 ≤ n → n.toNat = hgt → (n ≤ (c : Int)) := fun q k n _ _ h0 h1 => by omega
                  have hL' : ∀ n : Int, 0 ≤ n → n.toNat = l → n ≤ (hgt : Int) := fun n h0 h1 => by omega
                  rcases hlo with ⟨rfl, hl0⟩ | ⟨q1, k1, n1, rfl, ev1, p1, p2⟩ <;> rcases hhi with ⟨rfl, hh0⟩ | ⟨q2, k2, n2, rfl, ev2, p3, p4⟩
                  · simp at hl0 hh0; subst hl0; subst hh0; simp [Instr.sliceBounds]
                  · simp at hl0; subst hl0
                    have := hH q2 k2 n2 rfl ev2 p3 p4
                    simp [Instr.sliceBounds, Instr.sliceBound, ev2, asIntOf, p3, this, p4]
                  · simp at hh0; subst hh0
                    have := hL' n1 p1 p2
                    simp [Instr.sliceBounds, Instr.sliceBound, ev1, asIntOf, p1, this, p2]
                  · have t1 := hH q2 k2 n2 rfl ev2 p3 p4
                    have t2 := hL' n1 p1 p2
                    simp [Instr.sliceBounds, Instr.sliceBound, ev1, ev2, asIntOf, p1, p2, p3, p4, t1, t2]
                simp only [execOp, ho, e1, Instr.sliceAt, Sem.run_bind, run_underlying u1, Result.andThen_ok, Instr.slice, Option.map_none, hbounds, run_sizeOf' u2, Sem.run_pure, u3]
              have plain : ∀ k', (∀ b n, eva s.t x ≠ .own b n) → eva s.t x = .sl k' L ∨ (eva s.t x = .nils ∧ L = []) → k' = k → r = ⟨.sl k ((L.take hgt).drop l), [], [], [], none⟩ → SimR Γ s μ a w o r := by
                intro k' _ hX hkk hrr
                subst hrr
                subst hkk
                refine simV h hd hrun ?_
                rcases hX with hX | ⟨hX, hL0⟩
                · rw [hX, e1] at hx
                  exact sl_cut hx hb1 hb2 hk
                · rw [hX, e1] at hx
                  subst hL0
                  have hnv := hx.nils_inv
                  simp only [Value.slice.injEq] at hnv
                  obtain ⟨rfl, _, rfl⟩ := hnv
                  refine sl_cut (μ' := μ) (H := s.H) (n := 0) (@Rep.sl w _ μ s.H k' [] none 0 (fun _ _ => undef) (Nat.le_refl _) (Nat.zero_le _) (by simp) (by simp) (by simp)) hb1 hb2 hk
              cases hX : eva s.t x with
              | own b n =>
                rw [hX] at hr hc hx
                simp only [content] at hc
                cases hbx : s.H b with
                | none => rw [hbx] at hc; cases hc
                | some y =>
                  rw [hbx] at hc
                  cases y <;> simp only [rowOf] at hc <;> try (cases hc; done)
                  rename_i et sz Lr z
                  cases hc
                  simp only at hr
                  have hx2 := hx
                  generalize hval : a.eval x = y at hx2
                  rw [e1] at hval
                  cases hx2 with
                  | ownd _ _ _ _ hH _ => rw [hbx] at hH; cases hH
                  | own _ _ _ _ _ _ _ hH hn =>
                    rw [hbx] at hH; cases hH
                    have hlt : (Lr.take n).length = n := by rw [List.length_take]; omega
                    split at hr
                    · rename_i hl0
                      subst hl0
                      cases hr
                      refine simV h hd hrun ?_
                      have hv : Value.slice (if c = 0 then ad else ad.map (·.add (0 * i.esize))) (hgt - 0) (c - 0) = sliceV (μ b) hgt := by
                        rw [hlt] at hval hb2
                        cases hμ : μ b with
                        | none =>
                          rw [hμ] at hval
                          simp only [sliceV, Value.slice.injEq] at hval
                          obtain ⟨rfl, h0, rfl⟩ := hval
                          simp [sliceV]
                          omega
                        | some gc =>
                          rw [hμ] at hval
                          simp only [sliceV, Value.slice.injEq] at hval
                          obtain ⟨rfl, _, rfl⟩ := hval
                          simp [sliceV, Addr.add_lit]
                      rw [hv]
                      exact .own _ _ _ _ _ _ _ hbx (by rw [hlt] at hb2; omega)
                    · rename_i hl0
                      rw [hbx] at hr
                      simp only [frzB] at hr
                      cases hr
                      intro H1 hH1 K Q hK _
                      simp only [hnews, Option.some.injEq] at hH1
                      subst hH1
                      refine wp_value hrun (hK rfl μ _ _ ?_)
                      have hR := h.freeze hbx
                      refine hR.put hd ?_
                      have hrow := row_rep (Γ := Γ) (s := ⟨s.t, hput s.H b (.row et k Lr true)⟩) hR (b := b) (hput_same _ _ _) hn (M := forb Γ.Mx μ (hput s.H b (.row et k Lr true))) (fun g hg => hg) (fun g c hg => frozen_not hR (b := b) (hput_same _ _ _) hg) (μ' := μ) (H' := s.H)
                      rw [← hval] at hrow
                      exact sl_cut hrow hb1 hb2 hk
              | sl k' L' => rw [hX] at hr hc; simp only [content] at hc; cases hc; exact plain k (by rw [hX]; simp) (.inl hX) rfl (val_inj hr)
              | nils =>
                rw [hX] at hr hc hx
                simp only [content] at hc
                cases hc
                have hrr := val_inj hr
                subst hrr
                refine simV h hd hrun ?_
                have hnv := hx.nils_inv
                rw [e1] at hnv
                simp only [Value.slice.injEq] at hnv
                obtain ⟨rfl, _, rfl⟩ := hnv
                have : hgt - l = 0 := by simp at hb2; omega
                rw [this]
                simp only [Option.map_none, ite_self, Nat.zero_sub]
                exact .nils _
              | _ => rw [hX] at hc; simp only [content] at hc; cases hc
            · cases hr
          · cases hr
end
end Go.Proofs.Ytebflegkdfhoaaa.AE
