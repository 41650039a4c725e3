/-
  The reference of chapter 16: changes of an order. Conditions: none; every contract names its own.
-/
import Derived.Test.YtiifcalgolkpiaaPh
set_option linter.constructorNameAsVariable false
namespace Go.Proofs.Ytiifcalgolkpiaa.AE
open Go Go.Proofs Go.RowKit
set_option linter.unusedVariables false
set_option linter.unusedSimpArgs false
set_option maxRecDepth 100000
set_option maxHeartbeats 4000000
/-- What a change of an order does. -/
def ordR (b : Bk) (os : List Ord) (c : Chg) (x : Ord) : Bk × List Ord × List Eff :=
  if c.kind = 4 then ({ b with st := b.st.put x.item.toNat (b.st.at x.item.toNat + x.qty - c.n) }, putL os (chgS (chgQ x c.n) 1), [⟨2, x.item, c.n, x.id⟩])
  else if c.kind = 5 then (if x.state = 2 then
      ({ b with st := b.st.put x.item.toNat (b.st.at x.item.toNat + x.qty), pu := b.pu.put x.buyer.toNat (b.pu.at x.buyer.toNat + x.cost) }, putL os (chgS x 4), [⟨3, x.item, x.qty, x.id⟩, ⟨10, x.buyer, x.cost, x.id⟩, ⟨7, x.buyer, 2, x.id⟩])
    else ({ b with st := b.st.put x.item.toNat (b.st.at x.item.toNat + x.qty) }, putL os (chgS x 4), [⟨3, x.item, x.qty, x.id⟩, ⟨7, x.buyer, 2, x.id⟩]))
  else if c.kind = 6 then ({ b with pu := b.pu.put x.buyer.toNat (b.pu.at x.buyer.toNat - x.qty * b.pr.at x.item.toNat) }, putL os (chgS (chgK x (x.qty * b.pr.at x.item.toNat)) 2), [⟨4, x.buyer, x.qty * b.pr.at x.item.toNat, x.id⟩, ⟨9, x.buyer, x.qty * b.pr.at x.item.toNat, x.id⟩])
  else if c.kind = 7 then (b, putL os (chgS x 3), [⟨5, x.item, x.qty, x.id⟩, ⟨6, x.item, x.qty, x.id⟩, ⟨11, x.item, x.qty, x.id⟩, ⟨7, x.buyer, 3, x.id⟩])
  else ({ b with pu := b.pu.put x.buyer.toNat (b.pu.at x.buyer.toNat + x.cost) }, putL os (chgS x 5), [⟨10, x.buyer, x.cost, x.id⟩])
def ordAt (os : List Ord) (c : Chg) : Ord := (findL os c.ref).getD zOrd
theorem about0_4 {b : Bk} {c : Chg} {x : Ord} (h : aboutR b c x = 0) (k : c.kind = 4) : x.state = 1 ∧ ¬ b.st.at x.item.toNat < c.n - x.qty ∧ ¬ 1099511627776 < b.st.at x.item.toNat + x.qty - c.n := by
  by_cases s : x.state = 1 <;> by_cases p : b.st.at x.item.toNat < c.n - x.qty <;> by_cases q : 1099511627776 < b.st.at x.item.toNat + x.qty - c.n <;> simp [aboutR, k, s, p, q] at h ⊢
theorem about0_5 {b : Bk} {c : Chg} {x : Ord} (h : aboutR b c x = 0) (k : c.kind = 5) : (x.state = 1 ∨ x.state = 2) ∧ ¬ 1099511627776 < b.st.at x.item.toNat + x.qty ∧ ¬ (x.state = 2 ∧ 1099511627776 < b.pu.at x.buyer.toNat + x.cost) := by
  by_cases s : x.state = 1 ∨ x.state = 2
  · by_cases p : 1099511627776 < b.st.at x.item.toNat + x.qty ∨ (x.state = 2 ∧ 1099511627776 < b.pu.at x.buyer.toNat + x.cost)
    · have e : aboutR b c x = 7 := (if_neg (by omega)).trans ((if_pos k).trans ((if_pos s).trans (if_pos p)))
      rw [e] at h; cases h
    · exact ⟨s, fun h => p (.inl h), fun h => p (.inr h)⟩
  · have e : aboutR b c x = 9 := (if_neg (by omega)).trans ((if_pos k).trans (if_neg s))
    rw [e] at h; cases h
theorem about0_6 {b : Bk} {c : Chg} {x : Ord} (h : aboutR b c x = 0) (k : c.kind = 6) : x.state = 1 ∧ ¬ 1099511627776 < x.qty * b.pr.at x.item.toNat ∧ ¬ b.pu.at x.buyer.toNat < x.qty * b.pr.at x.item.toNat := by
  by_cases s : x.state = 1 <;> by_cases p : 1099511627776 < x.qty * b.pr.at x.item.toNat <;> by_cases q : b.pu.at x.buyer.toNat < x.qty * b.pr.at x.item.toNat <;> simp [aboutR, k, s, p, q] at h ⊢
theorem about0_7 {b : Bk} {c : Chg} {x : Ord} (h : aboutR b c x = 0) (k : c.kind = 7) : x.state = 2 := by
  by_cases s : x.state = 2 <;> simp [aboutR, k, s] at h ⊢
theorem about0_8 {b : Bk} {c : Chg} {x : Ord} (h : aboutR b c x = 0) (k : c.kind = 8) : x.state = 3 ∧ ¬ 1099511627776 < b.pu.at x.buyer.toNat + x.cost := by
  by_cases s : x.state = 3 <;> by_cases p : 1099511627776 < b.pu.at x.buyer.toNat + x.cost <;> simp [aboutR, k, s, p] at h ⊢
theorem chgQ' (x : Ord) (q : Int) : cOrd { id := x.id, buyer := x.buyer, item := x.item, qty := q, cost := x.cost, state := x.state } = cOrd (chgQ x q) := rfl
theorem chgK' (x : Ord) (q : Int) : cOrd { id := x.id, buyer := x.buyer, item := x.item, qty := x.qty, cost := q, state := x.state } = cOrd (chgK x q) := rfl
@[go_sem] theorem chgQ_buyer (o : Ord) (k : Int) : (chgQ o k).buyer = o.buyer := rfl
@[go_sem] theorem chgK_cost (o : Ord) (k : Int) : (chgK o k).cost = k := rfl
@[go_sem] theorem chgK_item (o : Ord) (k : Int) : (chgK o k).item = o.item := rfl

structure ord16X where
  b : Bk
  os : List Ord
  os' : AV
  c : Chg
  h_os : SlA 7 cOrd os os'
  hL : FairB b ∧ FairO os ∧ os.length ≤ 40000 ∧ (4 ≤ c.kind ∧ c.kind ≤ 8) ∧ (∃ x, findL os c.ref = some x ∧ aboutR b c x = 0) ∧ (c.kind = 4 → 1 ≤ c.n ∧ c.n ≤ 1000)
/-- ref16.order -/
noncomputable def ord16S : HSpec := mkH (ι := ord16X) (fun ⟨b, os, os', c, h_os, hL⟩ => ([.agg (cBk b os'), .agg (cChg c)], [])) fun ⟨b, os, os', c, h_os, hL⟩ => resR (ordR b os c (ordAt os c)).1 (ordR b os c (ordAt os c)).2.1 (ordR b os c (ordAt os c)).2.2
theorem ord16S_atG (b : Bk) (os : List Ord) (os' : AV) (c : Chg) (h_os : SlA 7 cOrd os os') (hL : FairB b ∧ FairO os ∧ os.length ≤ 40000 ∧ (4 ≤ c.kind ∧ c.kind ≤ 8) ∧ (∃ x, findL os c.ref = some x ∧ aboutR b c x = 0) ∧ (c.kind = 4 → 1 ≤ c.n ∧ c.n ≤ 1000)) : ord16S [.agg (cBk b os'), .agg (cChg c)] [] = some (resR (ordR b os c (ordAt os c)).1 (ordR b os c (ordAt os c)).2.1 (ordR b os c (ordAt os c)).2.2) :=
  mkH_at (ι := ord16X) (A := fun ⟨b, os, os', c, h_os, hL⟩ => ([.agg (cBk b os'), .agg (cChg c)], [])) (R := fun ⟨b, os, os', c, h_os, hL⟩ => resR (ordR b os c (ordAt os c)).1 (ordR b os c (ordAt os c)).2.1 (ordR b os c (ordAt os c)).2.2) (fun i j h => by obtain ⟨b, os, os', c, h_os, hL⟩ := i; obtain ⟨b2, os2, os'2, c2, h_os2, hL2⟩ := j; simp [and_assoc, cBk_eq_iff, cId_eq_iff, cOrd_eq_iff, cChg_eq_iff, cEff_eq_iff, cKey_eq_iff, cReq_eq_iff, cV_eq_iff, cOp_eq_iff, cOc_eq_iff] at h; obtain ⟨rfl, rfl, rfl⟩ := h; obtain rfl := SlA.inj (fun x y h => cOrd_inj h) h_os h_os2; rfl) ⟨b, os, os', c, h_os, hL⟩
theorem ord16S_at (b : Bk) (os : List Ord) (c : Chg) (hL : FairB b ∧ FairO os ∧ os.length ≤ 40000 ∧ (4 ≤ c.kind ∧ c.kind ≤ 8) ∧ (∃ x, findL os c.ref = some x ∧ aboutR b c x = 0) ∧ (c.kind = 4 → 1 ≤ c.n ∧ c.n ≤ 1000)) : ord16S [.agg (cBk b (.sl 7 (rows cOrd os))), .agg (cChg c)] [] = some (resR (ordR b os c (ordAt os c)).1 (ordR b os c (ordAt os c)).2.1 (ordR b os c (ordAt os c)).2.2) := ord16S_atG b os _ c .sl hL

theorem ord16_ok : HSound Try.prog 54 ord16S := by
  refine sound_ofE (fn := Try.f54) rfl rfl (by kernel_rfl) fun args bx hr hS => ?_
  obtain ⟨⟨b, os, os', c, h_os, hL⟩, rfl, rfl, rfl⟩ := mkH_of hS
  clear hS
  refine ⟨_, (EnvOK.consV (g := 17) (by kernel_rfl) findRf_ok (EnvOK.consV (g := 84) (by kernel_rfl) eff16_ok (EnvOK.consH (g := 83) (by kernel_rfl) put16_ok (EnvOK.nil _)))), by simp [Try.f54], by simp [resR, go_sem], fun w Mx pin => ?_⟩
  simp only [hB_at, lab_nil, lab_cons, hOf_nil, hOf_cons]
  refine awp_weak (s' := ⟨ofL [(0, .agg (cBk b (.sl 7 (rows cOrd os)))), (1, .agg (cChg c))], hOf []⟩) ?_ ?_
  · cases h_os <;> exact weak_of [] (by simp [go_sem]) (by simp [go_sem]) (by simp [go_sem])
  clear h_os
  obtain ⟨hF, hO, hlen, hk, ⟨x, hfx, hab⟩, hn⟩ := hL
  have he : ordAt os c = x := by unfold ordAt; rw [hfx]; rfl
  obtain ⟨h1, hf⟩ | ⟨kk, y, hk0, hkk, hx, _, hf⟩ := place_cases os c.ref
  · rw [hf] at hfx; cases hfx
  obtain rfl : y = x := by rw [hf] at hfx; cases hfx; rfl
  clear hfx
  obtain ⟨⟨a0, a1⟩, ⟨a2, a3⟩, ⟨a4, a5⟩, ⟨a6, a7⟩, _⟩ := hO y (List.mem_of_getElem? hx)
  obtain ⟨x, rfl⟩ : ∃ x, x = y := ⟨_, rfl⟩
  have i0 : 0 ≤ x.item := a2
  have i5 : x.item.toNat < 8 := by omega
  have i8 : x.item < 8 := by omega
  have i24 : x.item ≤ 24 := by omega
  have j24 : 8 + x.item.toNat ≤ 24 := by omega
  have k24 : 16 + x.item.toNat ≤ 24 := by omega
  have u0 : 0 ≤ x.buyer := a0
  have u5 : x.buyer.toNat < 8 := by omega
  have u8 : x.buyer < 8 := by omega
  have u24 : x.buyer ≤ 24 := by omega
  have v24 : 16 + x.buyer.toNat ≤ 24 := by omega
  obtain ⟨f1, f2, f3, f4, _, _⟩ := hF x.item.toNat i5
  obtain ⟨_, _, _, _, f5, f6⟩ := hF x.buyer.toNat u5
  obtain ⟨m1, m2⟩ := mul_rng a4 a5 f3 f4
  refine awp_seq fun K1 hK1 => ?_
  refine awp_region ?_
  iterate 4
    refine opsK_cons fun J hJ => ?_
    simp [go_sem]
    refine hJ _ _ _ ?_
    clear hJ J
  refine opsK_nil ?_
  refine hK1 _ ?_
  clear hK1
  refine awp_seq fun K2 hK2 => ?_
  refine awp_draw ?_
  iterate 10
    refine opsK_cons fun J hJ => ?_
    simp [go_sem, findRfS_at b os c.ref (show os.length ≤ 100000 by omega), hkk, hx]
    refine hJ _ _ _ ?_
    clear hJ J
  refine opsK_nil ?_
  refine ⟨rfl, ?_⟩
  refine hK2 _ ?_
  clear hK2
  refine awp_seq fun K3 hK3 => ?_
  refine awp_region ?_
  iterate 4
    refine opsK_cons fun J hJ => ?_
    simp [go_sem]
    refine hJ _ _ _ ?_
    clear hJ J
  refine opsK_nil ?_
  refine hK3 _ ?_
  clear hK3
  refine awp_seq fun K4 hK4 => ?_
  refine awp_seq fun K5 hK5 => ?_
  rcases (show c.kind = 4 ∨ c.kind = 5 ∨ c.kind = 6 ∨ c.kind = 7 ∨ c.kind = 8 by omega) with k | k | k | k | k
  · skip
    obtain ⟨s1, z1, z2⟩ := about0_4 hab k
    obtain ⟨n1, n2⟩ := hn k
    have hr : ordR b os c x = _ := if_pos k
    refine awp_region ?_
    iterate 3
      refine opsK_cons fun J hJ => ?_
      simp [go_sem, k]
      refine hJ _ _ _ ?_
      clear hJ J
    refine opsK_nil ?_
    refine hK5 _ ?_
    clear hK5
    refine awp_condT rfl ?_
    refine awp_seq fun K7 hK7 => ?_
    refine awp_draw ?_
    iterate 16
      refine opsK_cons fun J hJ => ?_
      simp [go_sem, i0, i5, i8, i24, j24, k24, u0, u5, u8, u24, v24, wrap_at (n := b.st.at x.item.toNat + x.qty) (by omega), wrap_at (n := b.st.at x.item.toNat + x.qty - c.n) (by omega)]
      refine hJ _ _ _ ?_
      clear hJ J
    refine opsK_nil ?_
    refine ⟨rfl, ?_⟩
    refine hK7 _ ?_
    clear hK7
    refine awp_seq fun K8 hK8 => ?_
    refine awp_region ?_
    iterate 4
      refine opsK_cons fun J hJ => ?_
      simp [go_sem, chgQ']
      refine hJ _ _ _ ?_
      clear hJ J
    refine opsK_nil ?_
    refine hK8 _ ?_
    clear hK8
    refine awp_seq fun K9 hK9 => ?_
    refine awp_draw ?_
    iterate 12
      refine opsK_cons fun J hJ => ?_
      simp [go_sem, put16S_at _ os (chgQ x c.n) 1 (show os.length ≤ 50000 by omega), ↓eff16S_at 2 x.item c.n x.id]
      refine hJ _ _ _ ?_
      clear hJ J
    refine opsK_nil ?_
    refine ⟨rfl, ?_⟩
    refine hK9 _ ?_
    clear hK9
    refine awp_ret ?_
    rw [he, hr]
    refine finWQ_of [] ?_
    simp [go_sem, Try.f54, resR]
  · skip
    obtain ⟨s1, z1, z2⟩ := about0_5 hab k
    refine awp_region ?_
    iterate 3
      refine opsK_cons fun J hJ => ?_
      simp [go_sem, k]
      refine hJ _ _ _ ?_
      clear hJ J
    refine opsK_nil ?_
    refine hK5 _ ?_
    clear hK5
    refine awp_condF rfl ?_
    refine awp_skip ?_
    refine hK4 _ ?_
    clear hK4
    refine awp_seq fun K10 hK10 => ?_
    refine awp_seq fun K11 hK11 => ?_
    refine awp_region ?_
    iterate 3
      refine opsK_cons fun J hJ => ?_
      simp [go_sem, k]
      refine hJ _ _ _ ?_
      clear hJ J
    refine opsK_nil ?_
    refine hK11 _ ?_
    clear hK11
    refine awp_condT rfl ?_
    refine awp_seq fun K13 hK13 => ?_
    refine awp_region ?_
    iterate 8
      refine opsK_cons fun J hJ => ?_
      simp [go_sem, ↓eff16S_at 3 x.item x.qty x.id]
      refine hJ _ _ _ ?_
      clear hJ J
    refine opsK_nil ?_
    refine hK13 _ ?_
    clear hK13
    refine awp_seq fun K14 hK14 => ?_
    refine awp_draw ?_
    iterate 13
      refine opsK_cons fun J hJ => ?_
      simp [go_sem, i0, i5, i8, i24, j24, k24, u0, u5, u8, u24, v24, wrap_at (n := b.st.at x.item.toNat + x.qty) (by omega)]
      refine hJ _ _ _ ?_
      clear hJ J
    refine opsK_nil ?_
    refine ⟨rfl, ?_⟩
    refine hK14 _ ?_
    clear hK14
    refine awp_seq fun K15 hK15 => ?_
    refine awp_seq fun K16 hK16 => ?_
    by_cases s2 : x.state = 2
    · skip
      have z3 : ¬ 1099511627776 < b.pu.at x.buyer.toNat + x.cost := fun h => z2 ⟨s2, h⟩
      have hr : ordR b os c x = _ := (if_neg (show ¬ c.kind = 4 by omega)).trans ((if_pos k).trans (if_pos s2))
      refine awp_region ?_
      iterate 3
        refine opsK_cons fun J hJ => ?_
        simp [go_sem, s2]
        refine hJ _ _ _ ?_
        clear hJ J
      refine opsK_nil ?_
      refine hK16 _ ?_
      clear hK16
      refine awp_condT rfl ?_
      refine awp_seq fun K18 hK18 => ?_
      refine awp_draw ?_
      iterate 13
        refine opsK_cons fun J hJ => ?_
        simp [go_sem, i0, i5, i8, i24, j24, k24, u0, u5, u8, u24, v24, wrap_at (n := b.pu.at x.buyer.toNat + x.cost) (by omega)]
        refine hJ _ _ _ ?_
        clear hJ J
      refine opsK_nil ?_
      refine ⟨rfl, ?_⟩
      refine hK18 _ ?_
      clear hK18
      refine awp_region ?_
      iterate 10
        refine opsK_cons fun J hJ => ?_
        simp [go_sem, ↓eff16S_at 10 x.buyer x.cost x.id]
        refine hJ _ _ _ ?_
        clear hJ J
      refine opsK_nil ?_
      refine hK15 _ ?_
      clear hK15
      refine awp_seq fun K19 hK19 => ?_
      refine awp_draw ?_
      iterate 12
        refine opsK_cons fun J hJ => ?_
        simp [go_sem, put16S_at _ os x 4 (show os.length ≤ 50000 by omega), ↓eff16S_at 7 x.buyer 2 x.id]
        refine hJ _ _ _ ?_
        clear hJ J
      refine opsK_nil ?_
      refine ⟨rfl, ?_⟩
      refine hK19 _ ?_
      clear hK19
      refine awp_ret ?_
      rw [he, hr]
      refine finWQ_of [] ?_
      simp [go_sem, Try.f54, resR]
    · skip
      have y2 : (x.state == 2) = false := by simpa using s2
      have hr : ordR b os c x = _ := (if_neg (show ¬ c.kind = 4 by omega)).trans ((if_pos k).trans (if_neg s2))
      refine awp_region ?_
      iterate 3
        refine opsK_cons fun J hJ => ?_
        simp [go_sem, y2]
        refine hJ _ _ _ ?_
        clear hJ J
      refine opsK_nil ?_
      refine hK16 _ ?_
      clear hK16
      refine awp_condF rfl ?_
      refine awp_skip ?_
      refine hK15 _ ?_
      clear hK15
      refine awp_seq fun K19 hK19 => ?_
      refine awp_draw ?_
      iterate 12
        refine opsK_cons fun J hJ => ?_
        simp [go_sem, put16S_at _ os x 4 (show os.length ≤ 50000 by omega), ↓eff16S_at 7 x.buyer 2 x.id]
        refine hJ _ _ _ ?_
        clear hJ J
      refine opsK_nil ?_
      refine ⟨rfl, ?_⟩
      refine hK19 _ ?_
      clear hK19
      refine awp_ret ?_
      rw [he, hr]
      refine finWQ_of [] ?_
      simp [go_sem, Try.f54, resR]
  · skip
    obtain ⟨s1, z1, z2⟩ := about0_6 hab k
    have hr : ordR b os c x = _ := (if_neg (show ¬ c.kind = 4 by omega)).trans ((if_neg (show ¬ c.kind = 5 by omega)).trans (if_pos k))
    refine awp_region ?_
    iterate 3
      refine opsK_cons fun J hJ => ?_
      simp [go_sem, k]
      refine hJ _ _ _ ?_
      clear hJ J
    refine opsK_nil ?_
    refine hK5 _ ?_
    clear hK5
    refine awp_condF rfl ?_
    refine awp_skip ?_
    refine hK4 _ ?_
    clear hK4
    refine awp_seq fun K10 hK10 => ?_
    refine awp_seq fun K11 hK11 => ?_
    refine awp_region ?_
    iterate 3
      refine opsK_cons fun J hJ => ?_
      simp [go_sem, k]
      refine hJ _ _ _ ?_
      clear hJ J
    refine opsK_nil ?_
    refine hK11 _ ?_
    clear hK11
    refine awp_condF rfl ?_
    refine awp_skip ?_
    refine hK10 _ ?_
    clear hK10
    refine awp_seq fun K20 hK20 => ?_
    refine awp_seq fun K21 hK21 => ?_
    refine awp_region ?_
    iterate 3
      refine opsK_cons fun J hJ => ?_
      simp [go_sem, k]
      refine hJ _ _ _ ?_
      clear hJ J
    refine opsK_nil ?_
    refine hK21 _ ?_
    clear hK21
    refine awp_condT rfl ?_
    refine awp_seq fun K23 hK23 => ?_
    refine awp_draw ?_
    iterate 10
      refine opsK_cons fun J hJ => ?_
      simp [go_sem, i0, i5, i8, i24, j24, k24, u0, u5, u8, u24, v24, wrap_at (n := x.qty * b.pr.at x.item.toNat) (by omega), chgK']
      refine hJ _ _ _ ?_
      clear hJ J
    refine opsK_nil ?_
    refine ⟨rfl, ?_⟩
    refine hK23 _ ?_
    clear hK23
    refine awp_seq fun K24 hK24 => ?_
    refine awp_draw ?_
    iterate 13
      refine opsK_cons fun J hJ => ?_
      simp [go_sem, i0, i5, i8, i24, j24, k24, u0, u5, u8, u24, v24, wrap_at (n := b.pu.at x.buyer.toNat - x.qty * b.pr.at x.item.toNat) (by omega)]
      refine hJ _ _ _ ?_
      clear hJ J
    refine opsK_nil ?_
    refine ⟨rfl, ?_⟩
    refine hK24 _ ?_
    clear hK24
    refine awp_seq fun K25 hK25 => ?_
    refine awp_draw ?_
    iterate 18
      refine opsK_cons fun J hJ => ?_
      simp [go_sem, put16S_at _ os (chgK x (x.qty * b.pr.at x.item.toNat)) 2 (show os.length ≤ 50000 by omega), ↓eff16S_at 4 x.buyer (x.qty * b.pr.at x.item.toNat) x.id, ↓eff16S_at 9 x.buyer (x.qty * b.pr.at x.item.toNat) x.id]
      refine hJ _ _ _ ?_
      clear hJ J
    refine opsK_nil ?_
    refine ⟨rfl, ?_⟩
    refine hK25 _ ?_
    clear hK25
    refine awp_ret ?_
    rw [he, hr]
    refine finWQ_of [] ?_
    simp [go_sem, Try.f54, resR]
  · skip
    have s1 := about0_7 hab k
    have hr : ordR b os c x = _ := (if_neg (show ¬ c.kind = 4 by omega)).trans ((if_neg (show ¬ c.kind = 5 by omega)).trans ((if_neg (show ¬ c.kind = 6 by omega)).trans (if_pos k)))
    refine awp_region ?_
    iterate 3
      refine opsK_cons fun J hJ => ?_
      simp [go_sem, k]
      refine hJ _ _ _ ?_
      clear hJ J
    refine opsK_nil ?_
    refine hK5 _ ?_
    clear hK5
    refine awp_condF rfl ?_
    refine awp_skip ?_
    refine hK4 _ ?_
    clear hK4
    refine awp_seq fun K10 hK10 => ?_
    refine awp_seq fun K11 hK11 => ?_
    refine awp_region ?_
    iterate 3
      refine opsK_cons fun J hJ => ?_
      simp [go_sem, k]
      refine hJ _ _ _ ?_
      clear hJ J
    refine opsK_nil ?_
    refine hK11 _ ?_
    clear hK11
    refine awp_condF rfl ?_
    refine awp_skip ?_
    refine hK10 _ ?_
    clear hK10
    refine awp_seq fun K20 hK20 => ?_
    refine awp_seq fun K21 hK21 => ?_
    refine awp_region ?_
    iterate 3
      refine opsK_cons fun J hJ => ?_
      simp [go_sem, k]
      refine hJ _ _ _ ?_
      clear hJ J
    refine opsK_nil ?_
    refine hK21 _ ?_
    clear hK21
    refine awp_condF rfl ?_
    refine awp_skip ?_
    refine hK20 _ ?_
    clear hK20
    refine awp_seq fun K26 hK26 => ?_
    refine awp_seq fun K27 hK27 => ?_
    refine awp_region ?_
    iterate 3
      refine opsK_cons fun J hJ => ?_
      simp [go_sem, k]
      refine hJ _ _ _ ?_
      clear hJ J
    refine opsK_nil ?_
    refine hK27 _ ?_
    clear hK27
    refine awp_condT rfl ?_
    refine awp_seq fun K29 hK29 => ?_
    refine awp_draw ?_
    iterate 28
      refine opsK_cons fun J hJ => ?_
      simp [go_sem, put16S_at _ os x 3 (show os.length ≤ 50000 by omega), ↓eff16S_at 5 x.item x.qty x.id, ↓eff16S_at 6 x.item x.qty x.id, ↓eff16S_at 11 x.item x.qty x.id, ↓eff16S_at 7 x.buyer 3 x.id]
      refine hJ _ _ _ ?_
      clear hJ J
    refine opsK_nil ?_
    refine ⟨rfl, ?_⟩
    refine hK29 _ ?_
    clear hK29
    refine awp_ret ?_
    rw [he, hr]
    refine finWQ_of [] ?_
    simp [go_sem, Try.f54, resR]
  · skip
    obtain ⟨s1, z1⟩ := about0_8 hab k
    have hr : ordR b os c x = _ := (if_neg (show ¬ c.kind = 4 by omega)).trans ((if_neg (show ¬ c.kind = 5 by omega)).trans ((if_neg (show ¬ c.kind = 6 by omega)).trans (if_neg (show ¬ c.kind = 7 by omega))))
    refine awp_region ?_
    iterate 3
      refine opsK_cons fun J hJ => ?_
      simp [go_sem, k]
      refine hJ _ _ _ ?_
      clear hJ J
    refine opsK_nil ?_
    refine hK5 _ ?_
    clear hK5
    refine awp_condF rfl ?_
    refine awp_skip ?_
    refine hK4 _ ?_
    clear hK4
    refine awp_seq fun K10 hK10 => ?_
    refine awp_seq fun K11 hK11 => ?_
    refine awp_region ?_
    iterate 3
      refine opsK_cons fun J hJ => ?_
      simp [go_sem, k]
      refine hJ _ _ _ ?_
      clear hJ J
    refine opsK_nil ?_
    refine hK11 _ ?_
    clear hK11
    refine awp_condF rfl ?_
    refine awp_skip ?_
    refine hK10 _ ?_
    clear hK10
    refine awp_seq fun K20 hK20 => ?_
    refine awp_seq fun K21 hK21 => ?_
    refine awp_region ?_
    iterate 3
      refine opsK_cons fun J hJ => ?_
      simp [go_sem, k]
      refine hJ _ _ _ ?_
      clear hJ J
    refine opsK_nil ?_
    refine hK21 _ ?_
    clear hK21
    refine awp_condF rfl ?_
    refine awp_skip ?_
    refine hK20 _ ?_
    clear hK20
    refine awp_seq fun K26 hK26 => ?_
    refine awp_seq fun K27 hK27 => ?_
    refine awp_region ?_
    iterate 3
      refine opsK_cons fun J hJ => ?_
      simp [go_sem, k]
      refine hJ _ _ _ ?_
      clear hJ J
    refine opsK_nil ?_
    refine hK27 _ ?_
    clear hK27
    refine awp_condF rfl ?_
    refine awp_skip ?_
    refine hK26 _ ?_
    clear hK26
    refine awp_seq fun K30 hK30 => ?_
    refine awp_draw ?_
    iterate 13
      refine opsK_cons fun J hJ => ?_
      simp [go_sem, i0, i5, i8, i24, j24, k24, u0, u5, u8, u24, v24, wrap_at (n := b.pu.at x.buyer.toNat + x.cost) (by omega)]
      refine hJ _ _ _ ?_
      clear hJ J
    refine opsK_nil ?_
    refine ⟨rfl, ?_⟩
    refine hK30 _ ?_
    clear hK30
    refine awp_seq fun K31 hK31 => ?_
    refine awp_draw ?_
    iterate 12
      refine opsK_cons fun J hJ => ?_
      simp [go_sem, put16S_at _ os x 5 (show os.length ≤ 50000 by omega), ↓eff16S_at 10 x.buyer x.cost x.id]
      refine hJ _ _ _ ?_
      clear hJ J
    refine opsK_nil ?_
    refine ⟨rfl, ?_⟩
    refine hK31 _ ?_
    clear hK31
    refine awp_ret ?_
    rw [he, hr]
    refine finWQ_of [] ?_
    simp [go_sem, Try.f54, resR]

end Go.Proofs.Ytiifcalgolkpiaa.AE
