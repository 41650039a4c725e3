/-
  A plain machine for the code of functions, and its soundness: part AE6. Conditions: none; every lemma names its own.
-/
import Derived.Test.YtebflegkdfhoaaaAE5
namespace Go.Proofs.Ytebflegkdfhoaaa.AE
open Go Go.RowKit
set_option linter.unusedVariables false
section
variable {Γ : Ctx} {s : St} {μ : Lay} {a : Act} {w : World} {o : Oper}
theorem eqvs_scal : ∀ (l m : List AV) (b : Bool), eqvs l m = some b → (∀ x ∈ l, (kd x).isSome = true) ∧ (∀ x ∈ m, (kd x).isSome = true)
  | [], [], _, _ => by simp
  | x :: l, y :: m, b, h => by
    simp only [eqvs] at h
    cases hr : eqvs l m with
    | none => rw [hr] at h; cases hx : eqv x y <;> rw [hx] at h <;> simp [both] at h
    | some b' =>
      obtain ⟨i1, i2⟩ := eqvs_scal l m b' hr
      cases hx : eqv x y with
      | none => rw [hx, hr] at h; simp [both] at h
      | some b0 =>
        have : (kd x).isSome = true ∧ (kd y).isSome = true := by
          cases x <;> first | (cases hx; done) | (cases y <;> first | (cases hx; done) | exact ⟨rfl, rfl⟩)
        exact ⟨by simpa using ⟨this.1, i1⟩, by simpa using ⟨this.2, i2⟩⟩
  | [], _ :: _, _, h => by simp [eqvs] at h
  | _ :: _, [], _, h => by simp [eqvs] at h
theorem Rep.scal {M H} {x : AV} {v : Value} (h : Rep w M μ H x v) (hk : (kd x).isSome = true) : v = toV x := by
  cases h <;> first | rfl | simp [kd] at hk
/-- A struct of plain cells, as a value. -/
theorem Rep.aggK {M H} {l : List AV} {v : Value} (h : Rep w M μ H (.agg l) v) (hk : ∀ x ∈ l, (kd x).isSome = true) : v = .agg (l.map toV).toArray := by
  cases h with
  | agg _ _ vs f hs hv hr =>
    congr 1
    apply Array.ext_getElem?
    intro i
    by_cases hi : i < l.length
    · have h1 := hr i l[i] (List.getElem?_eq_getElem hi)
      have h2 := h1.scal (hk _ (List.getElem_mem hi))
      rw [(hv i hi).1, h2]
      simp [hi]
    · rw [Array.getElem?_eq_none (by omega), Array.getElem?_eq_none (by simp; omega)]
theorem kinds_agg {P : Program} {t : TypeId} {d : Nat} {ks : List Kd} (h : kindsAt P d t = some ks) {D : TypeDesc} (hu : P.underlying t = some D) (hD : isAggD D = true) (l : List AV) : valK P t l = .agg (l.map toV).toArray := by
  unfold valK
  rw [hu]
  cases D <;> simp [isAggD] at hD <;> rfl
theorem kinds_one {P : Program} {t : TypeId} {D : TypeDesc} (hu : P.underlying t = some D) (hD : isAggD D = false) (x : AV) : valK P t [x] = toV x := by
  unfold valK
  rw [hu]
  cases D <;> simp [isAggD] at hD <;> rfl
theorem eqGuard_agg {P : Program} {t : TypeId} (hg : P.eqGuardType P.depth t = false) (op : BinOp) (p q : Operand) (l m : Array Value) : (eqGuard op t p q (.agg l) (.agg m)).run P w = .ok () w := by
  have : ∀ op : BinOp, (eqGuard op t p q (.agg l) (.agg m)).run P w = if (!(op matches .eql | .neq)) = true then .ok () w else (if (!P.eqGuardType P.depth t) = true then .ok () w else (do if ← Op.eqGuardIn Op.maxDepth t (.agg l) (.agg m) then unsupported (.noEntry "binop/eql: two nil values of an interface type with methods, in a part of a struct or an array") : Sem Unit).run P w) := by
    intro op
    cases op <;> first | rfl | (simp only [eqGuard]; simp; done) | (simp only [eqGuard, Sem.run_bind, run_program, Result.andThen_ok, Sem.run_ite]; rfl)
  rw [this, hg]
  simp
theorem equal_slice {P : Program} {t e : TypeId} (h : P.underlying t = some (.slice e)) (d n c m k : Nat) : (Op.equalIn (d + 1) t (.slice none n c) (.slice none m k)).run P w = .ok true w := by
  simp [Op.equalIn, run_underlying h]
theorem equal_slice' {P : Program} {t e : TypeId} (h : P.underlying t = some (.slice e)) (d n c m k : Nat) (a : Addr) : (Op.equalIn (d + 1) t (.slice (some a) n c) (.slice none m k)).run P w = .ok false w := by
  simp [Op.equalIn, run_underlying h]
theorem equal_ptr {P : Program} {t e : TypeId} (h : P.underlying t = some (.pointer e)) (d : Nat) : (Op.equalIn (d + 1) t (.pointer none) (.pointer none)).run P w = .ok true w := by
  simp [Op.equalIn, run_underlying h]
theorem equal_ptr' {P : Program} {t e : TypeId} (h : P.underlying t = some (.pointer e)) (d : Nat) (a : Addr) : (Op.equalIn (d + 1) t (.pointer (some a)) (.pointer none)).run P w = .ok false w := by
  simp [Op.equalIn, run_underlying h]
theorem aEq_run {P : Program} {t : TypeId} {i : TI} (hT : TI.of P t = some i) {x y : AV} {vx vy : Value} {M H} (hx : Rep w M μ H x vx) (hy : Rep w M μ H y vy) {b : Bool} (h : aEq i x y = some b) (hns : ∀ s, x ≠ .str s) :
    (Op.equal t vx vy).run P w = .ok b w ∧ ∀ op p q, (eqGuard op t p q vx vy).run P w = .ok () w := by
  obtain ⟨q, d, h1, h2, _, _, hagg, _, _, _, _, _, _, _, _, hslc, hptr, hkinds⟩ := TI.of_some hT
  unfold aEq at h
  split at h
  · rename_i l m
    split at h
    · rename_i ha
      rw [hagg] at ha
      cases hk : i.kinds with
      | none => rw [hk] at h; simp [eqK] at h
      | some ks =>
        rw [hk] at h
        simp only [eqK] at h
        split at h
        · rename_i hkd
          obtain ⟨s1, s2⟩ := eqvs_scal l m b h
          rw [hx.aggK s1, hy.aggK s2]
          rw [hk] at hkinds
          split at hkinds
          · cases hkinds
          · rename_i hg
            have := equal_k (P := P) w (9994) 6 t ks l m b hkinds.symm hkd h
            rw [kinds_agg hkinds.symm h2 ha, kinds_agg hkinds.symm h2 ha] at this
            exact ⟨this, fun op p q => eqGuard_agg (by simpa using hg) _ _ _ _ _⟩
        · cases h
    · cases h
  · split at h
    · rename_i hs
      cases h
      rw [hx.nils_inv, hy.nils_inv] at *
      rw [hslc] at hs
      cases d <;> simp at hs
      exact ⟨equal_slice h2 9999 _ _ _ _, fun op p q => by cases op <;> rfl⟩
    · cases h
  · split at h
    · rename_i hs
      cases h
      rw [hx.nilp_inv, hy.nilp_inv] at *
      rw [hptr] at hs
      cases d <;> simp at hs
      exact ⟨equal_ptr h2 9999, fun op p q => by cases op <;> rfl⟩
    · cases h
  · split at h
    · rename_i hs
      cases h
      rw [hy.nilp_inv] at *
      rw [hptr] at hs
      cases hx with
      | ref _ _ _ cs g c hH hμ =>
        cases d <;> simp at hs
        exact ⟨equal_ptr' h2 9999 _, fun op p q => by cases op <;> rfl⟩
    · cases h
  · split at h
    · rename_i hs
      cases h
      rw [hy.nilp_inv] at *
      rw [hptr] at hs
      cases hx with
      | iref _ cs o g off f hv hr =>
        cases d <;> simp at hs
        exact ⟨equal_ptr' h2 9999 _, fun op p q => by cases op <;> rfl⟩
    · cases h
  · rename_i b1 b2
    split at h
    · cases h
    · rename_i ha
      rw [hagg] at ha
      cases hk : i.kinds with
      | none => rw [hk] at h; simp [eqK] at h
      | some ks =>
        rw [hk] at h
        simp only [eqK] at h
        split at h
        · rename_i hkd
          rw [hk] at hkinds
          split at hkinds
          · cases hkinds
          · rw [hx.bool_inv, hy.bool_inv] at *
            have := equal_k (P := P) w (9994) 6 t ks _ _ b hkinds.symm hkd h
            rw [kinds_one h2 (by simpa using ha), kinds_one h2 (by simpa using ha)] at this
            exact ⟨this, fun op p q => by cases op <;> rfl⟩
        · cases h
  · exact absurd rfl (hns _)
  · cases h
theorem binOp_eql {t : TypeId} {vx vy : Value} (h1 : ∀ k n, vx ≠ .int k n) (h2 : ∀ n, vx ≠ .string n) (h3 : ∀ k n, vx ≠ .float k n) (h4 : ∀ k n m, vx ≠ .complex k n m) :
    binOp .eql t vx vy = (do pure (.bool (← Op.equal t vx vy))) ∧ binOp .neq t vx vy = (do pure (.bool (!(← Op.equal t vx vy)))) := by
  cases vx <;> first | exact ⟨rfl, rfl⟩ | exact absurd rfl (h1 _ _) | exact absurd rfl (h2 _) | exact absurd rfl (h3 _ _) | exact absurd rfl (h4 _ _ _)
theorem aEq_forms {i : TI} {x y : AV} {b : Bool} (h : aEq i x y = some b) {vx : Value} {M H} (hx : Rep w M μ H x vx) (hns : ∀ s, x ≠ .str s) : (∀ k n, vx ≠ .int k n) ∧ (∀ n, vx ≠ .string n) ∧ (∀ k n, vx ≠ .float k n) ∧ (∀ k n m, vx ≠ .complex k n m) := by
  unfold aEq at h
  split at h <;> first | (cases hx <;> simp; done) | (exact absurd rfl (hns _)) | (cases h; done)
theorem sim_binOp (h : Rel Γ s μ a w) (hd : ∀ t, o.dst = some t → t < Γ.n) {op : BinOp} {t t' : TypeId} {x y : Operand} (ho : o.op = .binOp op t x y t') {r : R} (hr : vBin (TI.of Γ.P t) op (eva s.t x) (eva s.t y) = some r) : SimR Γ s μ a w o r := by
  have hx := eva_rep h x
  have hy := eva_rep h y
  generalize hqx : eva s.t x = X at hr hx
  generalize hqy : eva s.t y = Y at hr hy
  unfold vBin at hr
  split at hr
  · rename_i k n k' m
    have ex := hx.int_inv
    have ey := hy.int_inv
    have hg : ∀ op, (eqGuard op t x y (.int k n) (.int k' m)).run Γ.P w = .ok () w := by
      intro op
      unfold eqGuard
      split <;> rfl
    split at hr
    · rename_i hk
      cases hv : aInt op k n m with
      | none => rw [hv] at hr; cases hr
      | some v =>
        rw [hv] at hr
        cases val_inj hr
        have key : ∃ uu, (binOp op t (.int k n) (.int k' m)).run Γ.P w = .ok uu w ∧ Rep w (forb Γ.Mx μ s.H) μ s.H v uu := by
          cases op <;> simp only [aInt] at hv <;> try (cases hv; done)
          all_goals first
            | (cases hv
               have hkk : k = k' := by simpa using hk
               subst hkk
               exact ⟨_, by simp [binOp, Op.intArith, Op.intCmp]; rfl, by first | exact .int _ _ _ | exact .bool _ _⟩)
            | (cases hv
               have hkk : k = k' := by simpa using hk
               subst hkk
               exact ⟨_, by simp only [binOp, Op.intArith, Op.intCmp]; rfl, by first | exact .int _ _ _ | exact .bool _ _⟩)
            | (split at hv
               · cases hv
               · rename_i hz
                 cases hv
                 have hkk : k = k' := by simpa using hk
                 subst hkk
                 exact ⟨_, by first | (simp [binOp, Op.intDiv, hz]; done) | (simp [binOp, Op.intDiv, hz]; rfl), .int _ _ _⟩)
            | (split at hv
               · cases hv
               · rename_i hz
                 cases hv
                 exact ⟨_, by first | (simp [binOp, Op.shift, hz]; done) | (simp [binOp, Op.shift, hz]; rfl), .int _ _ _⟩)
        obtain ⟨uu, hu1, hu2⟩ := key
        exact simV h hd (x := uu) (by simp only [execOp, ho, ex, ey, Sem.run_bind, hg, Result.andThen_ok, hu1]; rfl) hu2
    · cases hr
  · rename_i hni
    have main : ∀ (i : TI) (b : Bool), TI.of Γ.P t = some i → aEq i X Y = some b → (∀ z, X ≠ .str z) → ∀ neg : Bool, op = (if neg then .neq else .eql) → r = ⟨.bool (b != neg), [], [], [], none⟩ → SimR Γ s μ a w o r := by
      intro i b hi hb hns neg hop hrr
      obtain ⟨e1, e2⟩ := aEq_run hi hx hy hb hns
      obtain ⟨f1, f2, f3, f4⟩ := aEq_forms hb hx hns
      obtain ⟨g1, g2⟩ := binOp_eql (t := t) (vy := a.eval y) f1 f2 f3 f4
      subst hrr
      subst hop
      cases neg
      · exact simV h hd (x := .bool b) (by simp only [execOp, ho, Bool.false_eq_true, if_false, Sem.run_bind, e2, Result.andThen_ok, g1, e1, Sem.run_pure]) (by cases b <;> exact .bool _ _)
      · exact simV h hd (x := .bool !b) (by simp only [execOp, ho, if_true, Sem.run_bind, e2, Result.andThen_ok, g2, e1, Sem.run_pure]) (by cases b <;> exact .bool _ _)
    have strs : ∀ (i : TI) (b : Bool) (z : ByteArray), X = .str z → aEq i X Y = some b → ∀ neg : Bool, op = (if neg then .neq else .eql) → r = ⟨.bool (b != neg), [], [], [], none⟩ → SimR Γ s μ a w o r := by
      intro i b z hz hb neg hop hrr
      subst hz
      cases Y <;> simp only [aEq] at hb <;> try (cases hb; done)
      rename_i z'
      cases hb
      have ex := hx.str_inv
      have ey := hy.str_inv
      subst hrr
      subst hop
      cases neg
      · exact simV h hd (x := .bool (z.toList == z'.toList)) (by simp [execOp, ho, ex, ey, eqGuard, binOp, Op.stringOp]) (by cases (z.toList == z'.toList) <;> exact .bool _ _)
      · exact simV h hd (x := .bool !(z.toList == z'.toList)) (by simp [execOp, ho, ex, ey, eqGuard, binOp, Op.stringOp]) (by cases (z.toList == z'.toList) <;> exact .bool _ _)
    have both' : ∀ (neg : Bool), op = (if neg then .neq else .eql) → eqO neg X Y (TI.of Γ.P t) = some r → SimR Γ s μ a w o r := by
      intro neg hop he
      cases hi : TI.of Γ.P t with
      | none => rw [hi] at he; unfold eqO at he; split at he <;> first | (rename_i hh; cases hh; done) | cases he
      | some i =>
        rw [hi] at he
        by_cases hsl : ∃ k L, X = .sl k L ∧ Y = .nils
        · obtain ⟨k, L, rfl, rfl⟩ := hsl
          simp only [eqO] at he
          split at he
          · rename_i hs
            have hrr := val_inj he
            subst hrr
            obtain ⟨q, d, h1, h2, _, _, _, _, _, _, _, _, _, _, _, hslc, _, _⟩ := TI.of_some hi
            rw [hslc] at hs
            have hy' := hy.nils_inv
            generalize hvx : a.eval x = vx at hx
            cases hx with
            | sl _ _ _ a' c f hc hm hk hv hrr =>
              obtain ⟨hs, hk0⟩ := hs
              have key : ∃ b, (Op.equal t (.slice a' L.length c) (.slice none 0 0)).run Γ.P w = .ok b w ∧ Rep w (forb Γ.Mx μ s.H) μ s.H (nilB neg L) (.bool (b != neg)) := by
                cases d <;> simp at hs
                cases ha : a' with
                | none =>
                  refine ⟨true, equal_slice h2 9999 _ _ _ _, ?_⟩
                  cases L with
                  | nil => exact .ub _ _
                  | cons z L => obtain ⟨g, off, hbad, _⟩ := hv 0 0 (by simp) (by omega); rw [ha] at hbad; cases hbad
                | some ad =>
                  refine ⟨false, equal_slice' h2 9999 _ _ _ _ _, ?_⟩
                  cases L with
                  | nil => exact .ub _ _
                  | cons z L => cases neg <;> exact .bool _ _
              obtain ⟨b, k1, k2⟩ := key
              obtain ⟨g1, g2⟩ := binOp_eql (t := t) (vx := .slice a' L.length c) (vy := a.eval y) (by simp) (by simp) (by simp) (by simp)
              have e2 : ∀ op p q, (eqGuard op t p q (.slice a' L.length c) (a.eval y)).run Γ.P w = .ok () w := fun op p q => by cases op <;> rfl
              rw [← hy'] at k1
              subst hop
              cases neg
              · exact simV h hd (x := .bool (b != false)) (by cases b <;> simp only [execOp, ho, hvx, Bool.false_eq_true, if_false, Sem.run_bind, e2, Result.andThen_ok, g1, k1, Sem.run_pure] <;> rfl) k2
              · exact simV h hd (x := .bool (b != true)) (by cases b <;> simp only [execOp, ho, hvx, if_true, Sem.run_bind, e2, Result.andThen_ok, g2, k1, Sem.run_pure] <;> rfl) k2
          · cases he
        have he : optB neg (aEq i X Y) = some r := by
          revert he
          unfold eqO
          split
          · intro _; exact absurd ⟨_, _, rfl, rfl⟩ hsl
          · rename_i h1 h2; cases h2; exact fun h => h
          · rename_i h2; cases h2
        cases hb : aEq i X Y with
        | none => rw [hb] at he; cases he
        | some b =>
          rw [hb] at he
          have hrr := val_inj he
          by_cases hz : ∃ z, X = .str z
          · obtain ⟨z, hz⟩ := hz; exact strs i b z hz hb neg hop hrr
          · exact main i b hi hb (fun z hz' => hz ⟨z, hz'⟩) neg hop hrr
    split at hr
    · exact both' false rfl hr
    · exact both' true rfl hr
    · cases hr
end
end Go.Proofs.Ytebflegkdfhoaaa.AE
