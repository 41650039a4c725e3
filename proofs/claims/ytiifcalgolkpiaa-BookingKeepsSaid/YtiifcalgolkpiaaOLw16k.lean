/-
  BookingKeeps. Conditions: none; every contract names its own.
-/
import Derived.Test.YtiifcalgolkpiaaORb
import Derived.Test.YtiifcalgolkpiaaPg
set_option linter.constructorNameAsVariable false
namespace Go.Proofs.Ytiifcalgolkpiaa.AE
open Go Go.Proofs Go.RowKit
set_option linter.unusedVariables false
set_option linter.unusedSimpArgs false
set_option maxRecDepth 100000
set_option maxHeartbeats 4000000
theorem do_keep {b : Bk} {os : List Ord} {c : Chg} (hF : FairB b) (hO : FairO os) : ∃ (d : Bk) (ps : List Ord) (k : Int) (es : List Eff), doH b os c = ⟨.tup [.agg (cBk d (.sl 7 (rows cOrd ps))), .agg (cOc ⟨k, es⟩)], [], []⟩ ∧ FairB d ∧ FairO ps ∧ ps.length ≤ os.length + 1 ∧
    ∃ t v : Int, (0 ≤ t ∧ t ≤ 7) ∧ (∀ i : Nat, i < 8 → heldW d ps i - heldW b os i = if (i : Int) = t then v else 0) ∧ (v = 0 ∨ (k = 0 ∧ c.kind = 1 ∧ t = c.a ∧ v = c.n) ∨ (k = 0 ∧ c.kind = 7 ∧ v ≤ 0 ∧ es.length = 4 ∧ ∃ e, es[0]? = some e ∧ v = -e.n)) := by
  rcases hd : doW b os c with e | ⟨d, ps, l, r⟩
  · exact ⟨b, os, e, [], doH_err hd, hF, hO, by omega, 0, 0, by omega, fun i hi => by split <;> omega, .inl rfl⟩
  · obtain ⟨h1, t, v, h2, h3, h4⟩ := doW_keep hF hO hd
    refine ⟨d, ps, 0, l, doH_ok hd, h1, (doW_fair hF hO hd).2, (doW_lens hF hO hd).2, t, v, h2, h3, ?_⟩
    rcases h4 with h4 | ⟨h5, h6, h7⟩ | ⟨h5, h6, h7, h8⟩
    · exact .inl h4
    · exact .inr (.inl ⟨rfl, h5, h6, h7⟩)
    · exact .inr (.inr ⟨rfl, h5, h6, h7, h8⟩)
def keepV (t v : Int) (i : Nat) : Int := if t < i then v else 0
theorem keepV_0 {t : Int} (v : Int) (h : 0 ≤ t) : keepV t v 0 = 0 := if_neg (by omega)
theorem keepV_8 {t : Int} (v : Int) (h : t ≤ 7) : keepV t v 8 = v := if_pos (by omega)
theorem keepV_next (t v : Int) (i : Nat) : keepV t v i + (if (i : Int) = t then v else 0) = keepV t v (i + 1) := by
  unfold keepV
  by_cases h : (i : Int) = t
  · rw [if_neg (by omega), if_pos h, if_pos (by omega)]; omega
  · rw [if_neg h]
    by_cases h2 : t < i
    · rw [if_pos h2, if_pos (by omega)]; omega
    · rw [if_neg h2, if_neg (by omega)]; omega
@[go_sem] theorem heldQ_nil (i : Int) : heldQ i [] = 0 := rfl
def held16I (b : Bk) (os : List Ord) (i : Int) (pre _post : List Ord) : St := ⟨ofL [(1, .int .i64 i), (2, .ref (0, 32) 0), (5, .int .i64 (b.st.at i.toNat + heldQ i pre)), (6, .int .i64 pre.length)], hOf [((0, 32), .obj (cBk b (.sl 7 (rows cOrd os))))]⟩
def keepI (b : Bk) (qs : List Ord) (c : Chg) (d : Bk) (ps : List Ord) (k : Int) (es : List Eff) (t v : Int) (i : Nat) : St := ⟨ofL [(2, .ref (0, 32) 0), (3, .ref (0, 48) 0), (5, .ref (0, 80) 0), (6, .ref (0, 96) 0), (7, .int .i64 (keepV t v i)), (8, .int .i64 i)], hOf [((0, 32), .obj (cBk b (.sl 7 (rows cOrd qs)))), ((0, 48), .obj (cChg c)), ((0, 80), .obj (cBk d (.sl 7 (rows cOrd ps)))), ((0, 96), .obj (cOc ⟨k, es⟩))]⟩
theorem rowsEff_at {L : List Eff} {n : Nat} {e : Eff} (h : L[n]? = some e) : (rows cEff L)[n]? = some (cEff e) := by simp [rows, h]

structure held16X where
  b : Bk
  os : List Ord
  os' : AV
  i : Int
  h_os : SlA 7 cOrd os os'
  hL : (0 ≤ i ∧ i ≤ 7) ∧ FairB b ∧ FairO os ∧ os.length ≤ 1000
/-- held -/
noncomputable def held16S : HSpec := mkH (ι := held16X) (fun ⟨b, os, os', i, h_os, hL⟩ => ([.agg (cBk b os'), .int .i64 i], [])) fun ⟨b, os, os', i, h_os, hL⟩ => ⟨.int .i64 (b.st.at i.toNat + heldQ i os), [], []⟩
theorem held16S_atG (b : Bk) (os : List Ord) (os' : AV) (i : Int) (h_os : SlA 7 cOrd os os') (hL : (0 ≤ i ∧ i ≤ 7) ∧ FairB b ∧ FairO os ∧ os.length ≤ 1000) : held16S [.agg (cBk b os'), .int .i64 i] [] = some (⟨.int .i64 (b.st.at i.toNat + heldQ i os), [], []⟩) :=
  mkH_at (ι := held16X) (A := fun ⟨b, os, os', i, h_os, hL⟩ => ([.agg (cBk b os'), .int .i64 i], [])) (R := fun ⟨b, os, os', i, h_os, hL⟩ => ⟨.int .i64 (b.st.at i.toNat + heldQ i os), [], []⟩) (fun i j h => by obtain ⟨b, os, os', i, h_os, hL⟩ := i; obtain ⟨b2, os2, os'2, i2, h_os2, hL2⟩ := j; simp [and_assoc, cBk_eq_iff, cId_eq_iff, cOrd_eq_iff, cChg_eq_iff, cEff_eq_iff, cKey_eq_iff, cReq_eq_iff, cV_eq_iff, cOp_eq_iff, cOc_eq_iff] at h; obtain ⟨rfl, rfl, rfl⟩ := h; obtain rfl := SlA.inj (fun x y h => cOrd_inj h) h_os h_os2; rfl) ⟨b, os, os', i, h_os, hL⟩
theorem held16S_at (b : Bk) (os : List Ord) (i : Int) (hL : (0 ≤ i ∧ i ≤ 7) ∧ FairB b ∧ FairO os ∧ os.length ≤ 1000) : held16S [.agg (cBk b (.sl 7 (rows cOrd os))), .int .i64 i] [] = some (⟨.int .i64 (b.st.at i.toNat + heldQ i os), [], []⟩) := held16S_atG b os _ i .sl hL

theorem held16_ok : HSound Try.prog 18 held16S := by
  refine sound_ofE (fn := Try.f18) rfl rfl (by kernel_rfl) fun args bx hr hS => ?_
  obtain ⟨⟨b, os, os', i, h_os, hL⟩, rfl, rfl, rfl⟩ := mkH_of hS
  clear hS
  refine ⟨_, (EnvOK.nil _), by simp [Try.f18], by simp [go_sem], fun w Mx pin => ?_⟩
  simp only [hB_at, lab_nil, lab_cons, hOf_nil, hOf_cons]
  refine awp_weak (s' := ⟨ofL [(0, .agg (cBk b (.sl 7 (rows cOrd os)))), (1, .int .i64 i)], hOf []⟩) ?_ ?_
  · cases h_os <;> exact weak_of [] (by simp [go_sem]) (by simp [go_sem]) (by simp [go_sem])
  clear h_os
  obtain ⟨⟨i0, i7⟩, hF, hO, hlen⟩ := hL
  have hl1 : os.length ≤ 100000 := by omega
  have i5 : i.toNat < 8 := by omega
  have i8 : i < 8 := by omega
  have i24 : i ≤ 24 := by omega
  obtain ⟨f1, f2, _⟩ := hF i.toNat i5
  refine awp_seq fun K1 hK1 => ?_
  refine awp_region ?_
  iterate 2
    refine opsK_cons fun J hJ => ?_
    simp [go_sem]
    refine hJ _ _ _ ?_
    clear hJ J
  refine opsK_nil ?_
  refine hK1 _ ?_
  clear hK1
  refine awp_seq fun K2 hK2 => ?_
  refine awp_region ?_
  iterate 5
    refine opsK_cons fun J hJ => ?_
    simp [go_sem, i0, i5, i8, i24]
    refine hJ _ _ _ ?_
    clear hJ J
  refine opsK_nil ?_
  refine hK2 _ ?_
  clear hK2
  refine awp_seq fun K3 hK3 => ?_
  refine awp_seq fun K4 hK4 => ?_
  refine awp_region ?_
  iterate 1
    refine opsK_cons fun J hJ => ?_
    simp [go_sem]
    refine hJ _ _ _ ?_
    clear hJ J
  refine opsK_nil ?_
  refine hK4 _ ?_
  clear hK4
  refine awp_block ?_
  refine awp_loop (ι := { q : List Ord × List Ord // q.1 ++ q.2 = os ∧ True }) (fun q => held16I b os i q.1.1 q.1.2) (fun q => q.1.2.length) ⟨([], os), rfl, trivial⟩ ?_ ?_
  · refine weak_of [((0, 32), some (0, 32))] (by simp [go_sem]) ?_ ?_ <;> simp [go_sem]
  intro ⟨⟨pre, post⟩, hl, hgo⟩
  simp only at hl hgo
  have hpl := len_small hl hl1
  simp only [held16I]
  refine awp_seq fun K5 hK5 => ?_
  refine awp_seq fun K6 hK6 => ?_
  refine awp_region ?_
  iterate 5
    refine opsK_cons fun J hJ => ?_
    simp [go_sem]
    refine hJ _ _ _ ?_
    clear hJ J
  refine opsK_nil ?_
  refine hK6 _ ?_
  clear hK6
  refine awp_cond (t := _) rfl (fun c7 => ?_) (fun c7 => ?_)
  · simp [go_sem] at c7
    obtain ⟨x, post, rfl, hx⟩ := mid_lt hl c7
    refine awp_skip ?_
    refine hK5 _ ?_
    clear hK5
    refine awp_seq fun K8 hK8 => ?_
    refine awp_block ?_
    refine awp_seq fun K9 hK9 => ?_
    have hO2 : FairO (pre ++ [x]) := fun o ho => hO o (by rw [← hl]; simp at ho ⊢; rcases ho with h | h <;> simp [h])
    have hO1 : FairO pre := fun o ho => hO2 o (by simp [ho])
    have r1 := heldQ_rng i hO1
    have hpre : pre.length ≤ os.length := by rw [← hl]; simp
    obtain ⟨_, _, hxq, _, _⟩ := hO2 x (by simp)
    have hap : b.st.at i.toNat + heldQ i (pre ++ [x]) = b.st.at i.toNat + heldQ i pre + hq i x := by rw [heldQ_append]; simp only [heldQ]; omega
    have hsum : IntKind.i64.wrap (b.st.at i.toNat + heldQ i pre + x.qty) = b.st.at i.toNat + heldQ i pre + x.qty := wrap_at (by omega)
    rcases (show (x.item = i ∧ x.state ≤ 2) ∨ (x.item = i ∧ ¬ x.state ≤ 2) ∨ ¬ x.item = i by omega) with ⟨g1, g2⟩ | ⟨g1, g2⟩ | g1
    · skip
      have he : b.st.at i.toNat + heldQ i (pre ++ [x]) = b.st.at i.toNat + heldQ i pre + x.qty := by rw [hap, hq, if_pos ⟨g1, g2⟩]
      refine awp_region ?_
      iterate 17
        refine opsK_cons fun J hJ => ?_
        simp [go_sem, hx, g1, g2]
        refine hJ _ _ _ ?_
        clear hJ J
      refine opsK_nil ?_
      refine hK9 _ ?_
      clear hK9
      refine awp_condT rfl ?_
      refine awp_region ?_
      iterate 9
        refine opsK_cons fun J hJ => ?_
        simp [go_sem, hx, hsum]
        refine hJ _ _ _ ?_
        clear hJ J
      refine opsK_nil ?_
      refine hK8 _ ?_
      clear hK8
      refine awp_region ?_
      iterate 3
        refine opsK_cons fun J hJ => ?_
        simp [go_sem]
        refine hJ _ _ _ ?_
        clear hJ J
      refine opsK_nil ?_
      refine ⟨⟨(pre ++ [x], post), by simp [← hl], by exact trivial⟩, ?_, by simp⟩
      refine weak_of [((0, 32), some (0, 32))] (by simp [go_sem]) ?_ ?_ <;> simp [go_sem, wrap_nat hpl, he]
    · skip
      have he : b.st.at i.toNat + heldQ i (pre ++ [x]) = b.st.at i.toNat + heldQ i pre := by rw [hap, hq, if_neg (fun h => g2 h.2)]; omega
      refine awp_region ?_
      iterate 17
        refine opsK_cons fun J hJ => ?_
        simp [go_sem, hx, g1, g2]
        refine hJ _ _ _ ?_
        clear hJ J
      refine opsK_nil ?_
      refine hK9 _ ?_
      clear hK9
      refine awp_condF rfl ?_
      refine awp_skip ?_
      refine hK8 _ ?_
      clear hK8
      refine awp_region ?_
      iterate 3
        refine opsK_cons fun J hJ => ?_
        simp [go_sem]
        refine hJ _ _ _ ?_
        clear hJ J
      refine opsK_nil ?_
      refine ⟨⟨(pre ++ [x], post), by simp [← hl], by exact trivial⟩, ?_, by simp⟩
      refine weak_of [((0, 32), some (0, 32))] (by simp [go_sem]) ?_ ?_ <;> simp [go_sem, wrap_nat hpl, he]
    · skip
      have he : b.st.at i.toNat + heldQ i (pre ++ [x]) = b.st.at i.toNat + heldQ i pre := by rw [hap, hq, if_neg (fun h => g1 h.1)]; omega
      have g1b : (x.item == i) = false := by simpa using g1
      refine awp_region ?_
      iterate 17
        refine opsK_cons fun J hJ => ?_
        simp [go_sem, hx, g1b]
        refine hJ _ _ _ ?_
        clear hJ J
      refine opsK_nil ?_
      refine hK9 _ ?_
      clear hK9
      refine awp_condF rfl ?_
      refine awp_skip ?_
      refine hK8 _ ?_
      clear hK8
      refine awp_region ?_
      iterate 3
        refine opsK_cons fun J hJ => ?_
        simp [go_sem]
        refine hJ _ _ _ ?_
        clear hJ J
      refine opsK_nil ?_
      refine ⟨⟨(pre ++ [x], post), by simp [← hl], by exact trivial⟩, ?_, by simp⟩
      refine weak_of [((0, 32), some (0, 32))] (by simp [go_sem]) ?_ ?_ <;> simp [go_sem, wrap_nat hpl, he]
  · simp [go_sem] at c7
    obtain ⟨rfl, rfl⟩ := mid_nil hl c7
    refine awp_exit ?_
    simp only [go_sem]
    refine hK3 _ ?_
    clear hK3
    refine awp_seq fun K11 hK11 => ?_
    refine awp_region ?_
    iterate 2
      refine opsK_cons fun J hJ => ?_
      simp [go_sem]
      refine hJ _ _ _ ?_
      clear hJ J
    refine opsK_nil ?_
    refine hK11 _ ?_
    clear hK11
    refine awp_ret ?_
    refine finWQ_of [] ?_
    simp [go_sem, Try.f18]

structure bookingKeepsX where
  b : Bk
  os : List Ord
  os' : AV
  c : Chg
  h_os : SlA 7 cOrd os os'
/-- bookingKeeps -/
noncomputable def bookingKeepsS : HSpec := mkH (ι := bookingKeepsX) (fun ⟨b, os, os', c, h_os⟩ => ([.agg (cBk b os'), .agg (cChg c)], [])) fun ⟨b, os, os', c, h_os⟩ => ⟨.bool true, [], []⟩
theorem bookingKeepsS_atG (b : Bk) (os : List Ord) (os' : AV) (c : Chg) (h_os : SlA 7 cOrd os os') : bookingKeepsS [.agg (cBk b os'), .agg (cChg c)] [] = some (⟨.bool true, [], []⟩) :=
  mkH_at (ι := bookingKeepsX) (A := fun ⟨b, os, os', c, h_os⟩ => ([.agg (cBk b os'), .agg (cChg c)], [])) (R := fun ⟨b, os, os', c, h_os⟩ => ⟨.bool true, [], []⟩) (fun i j h => by obtain ⟨b, os, os', c, h_os⟩ := i; obtain ⟨b2, os2, os'2, c2, h_os2⟩ := j; simp [and_assoc, cBk_eq_iff, cId_eq_iff, cOrd_eq_iff, cChg_eq_iff, cEff_eq_iff, cKey_eq_iff, cReq_eq_iff, cV_eq_iff, cOp_eq_iff, cOc_eq_iff] at h; obtain ⟨rfl, rfl, rfl⟩ := h; obtain rfl := SlA.inj (fun x y h => cOrd_inj h) h_os h_os2; rfl) ⟨b, os, os', c, h_os⟩
theorem bookingKeepsS_at (b : Bk) (os : List Ord) (c : Chg) : bookingKeepsS [.agg (cBk b (.sl 7 (rows cOrd os))), .agg (cChg c)] [] = some (⟨.bool true, [], []⟩) := bookingKeepsS_atG b os _ c .sl

theorem bookingKeeps_ok : HSound Try.prog 4 bookingKeepsS := by
  refine sound_ofE (fn := Try.f4) rfl rfl (by kernel_rfl) fun args bx hr hS => ?_
  obtain ⟨⟨b, os, os', c, h_os⟩, rfl, rfl, rfl⟩ := mkH_of hS
  clear hS
  refine ⟨_, (EnvOK.consH (g := 13) (by kernel_rfl) alive16_ok (EnvOK.consV (g := 14) (by kernel_rfl) few16_ok (EnvOK.consV (g := 15) (by kernel_rfl) fair16_ok (EnvOK.consH (g := 16) (by kernel_rfl) do16_ok (EnvOK.consV (g := 18) (by kernel_rfl) held16_ok (EnvOK.nil _)))))), by simp [Try.f4], by simp [go_sem], fun w Mx pin => ?_⟩
  simp only [hB_at, lab_nil, lab_cons, hOf_nil, hOf_cons]
  refine awp_weak (s' := ⟨ofL [(0, .agg (cBk b (.sl 7 (rows cOrd os)))), (1, .agg (cChg c))], hOf []⟩) ?_ ?_
  · cases h_os <;> exact weak_of [] (by simp [go_sem]) (by simp [go_sem]) (by simp [go_sem])
  clear h_os
  obtain ⟨qs, hqs⟩ : ∃ qs, qs = os.take 40 := ⟨_, rfl⟩
  have hlen : qs.length ≤ 40 := by rw [hqs]; simp; omega
  refine awp_seq fun K1 hK1 => ?_
  refine awp_region ?_
  iterate 3
    refine opsK_cons fun J hJ => ?_
    simp [go_sem]
    refine hJ _ _ _ ?_
    clear hJ J
  refine opsK_nil ?_
  refine hK1 _ ?_
  clear hK1
  refine awp_seq fun K2 hK2 => ?_
  refine awp_seq fun K3 hK3 => ?_
  refine awp_region ?_
  iterate 2
    refine opsK_cons fun J hJ => ?_
    simp [go_sem, alive16S_at]
    refine hJ _ _ _ ?_
    clear hJ J
  refine opsK_nil ?_
  refine hK3 _ ?_
  clear hK3
  refine awp_condF rfl ?_
  refine awp_skip ?_
  refine hK2 _ ?_
  clear hK2
  refine awp_seq fun K6 hK6 => ?_
  refine awp_region ?_
  iterate 3
    refine opsK_cons fun J hJ => ?_
    simp [go_sem, few16S_at b os, ← hqs]
    refine hJ _ _ _ ?_
    clear hJ J
  refine opsK_nil ?_
  refine hK6 _ ?_
  clear hK6
  refine awp_seq fun K7 hK7 => ?_
  refine awp_seq fun K8 hK8 => ?_
  cases hfr : fairR b qs
  · skip
    refine awp_region ?_
    iterate 3
      refine opsK_cons fun J hJ => ?_
      simp [go_sem, fair16S_at b qs (show qs.length ≤ 100000 by omega), hfr]
      refine hJ _ _ _ ?_
      clear hJ J
    refine opsK_nil ?_
    refine hK8 _ ?_
    clear hK8
    refine awp_condT rfl ?_
    refine awp_seq fun K10 hK10 => ?_
    refine awp_region ?_
    iterate 1
      refine opsK_cons fun J hJ => ?_
      simp [go_sem]
      refine hJ _ _ _ ?_
      clear hJ J
    refine opsK_nil ?_
    refine hK10 _ ?_
    clear hK10
    refine awp_ret ?_
    refine finWQ_of [] ?_
    simp [go_sem, Try.f4]
  · skip
    obtain ⟨hF, hO⟩ := fairR_of hfr
    have hB : FairB b ∧ FairO qs ∧ qs.length ≤ 40000 := ⟨hF, hO, by omega⟩
    obtain ⟨d, ps, k, es, hdo, hFd, hOp, hpl, t, v, ⟨ht0, ht7⟩, hdiff, hv⟩ := do_keep hF hO (c := c)
    refine awp_region ?_
    iterate 3
      refine opsK_cons fun J hJ => ?_
      simp [go_sem, fair16S_at b qs (show qs.length ≤ 100000 by omega), hfr]
      refine hJ _ _ _ ?_
      clear hJ J
    refine opsK_nil ?_
    refine hK8 _ ?_
    clear hK8
    refine awp_condF rfl ?_
    refine awp_skip ?_
    refine hK7 _ ?_
    clear hK7
    refine awp_seq fun K11 hK11 => ?_
    refine awp_region ?_
    iterate 10
      refine opsK_cons fun J hJ => ?_
      simp [go_sem, do16S_at b qs c hB, hdo]
      refine hJ _ _ _ ?_
      clear hJ J
    refine opsK_nil ?_
    refine hK11 _ ?_
    clear hK11
    refine awp_seq fun K12 hK12 => ?_
    refine awp_region ?_
    iterate 1
      refine opsK_cons fun J hJ => ?_
      simp [go_sem]
      refine hJ _ _ _ ?_
      clear hJ J
    refine opsK_nil ?_
    refine hK12 _ ?_
    clear hK12
    refine awp_seq fun K13 hK13 => ?_
    refine awp_seq fun K14 hK14 => ?_
    refine awp_region ?_
    iterate 1
      refine opsK_cons fun J hJ => ?_
      simp [go_sem]
      refine hJ _ _ _ ?_
      clear hJ J
    refine opsK_nil ?_
    refine hK14 _ ?_
    clear hK14
    refine awp_block ?_
    refine awp_loop (ι := { i : Nat // i ≤ 8 }) (fun q => keepI b qs c d ps k es t v q.1) (fun q => 8 - q.1) ⟨0, by omega⟩ ?_ ?_
    · refine weak_of [((0, 32), some (0, 32)), ((0, 48), some (0, 48)), ((0, 80), some (0, 80)), ((0, 96), some (0, 96))] (by simp [go_sem]) ?_ ?_ <;> simp [go_sem, keepV_0 v ht0]
    intro ⟨i, hi⟩
    simp only [keepI]
    refine awp_seq fun K15 hK15 => ?_
    refine awp_seq fun K16 hK16 => ?_
    refine awp_region ?_
    iterate 2
      refine opsK_cons fun J hJ => ?_
      simp [go_sem]
      refine hJ _ _ _ ?_
      clear hJ J
    refine opsK_nil ?_
    refine hK16 _ ?_
    clear hK16
    refine awp_cond (t := _) rfl (fun c17 => ?_) (fun c17 => ?_)
    · simp [go_sem] at c17
      have hi8 : i < 8 := by omega
      obtain ⟨δ, hδ⟩ : ∃ δ, δ = if (i : Int) = t then v else 0 := ⟨_, rfl⟩
      have hdi := hdiff i hi8
      rw [← hδ] at hdi
      simp only [heldW] at hdi
      have kn := keepV_next t v i
      rw [← hδ] at kn
      have q1 := heldQ_rng (i : Int) hOp
      have q2 := heldQ_rng (i : Int) hO
      obtain ⟨a1, a2, _⟩ := hFd i hi8
      obtain ⟨b1, b2, _⟩ := hF i hi8
      have hwd : IntKind.i64.wrap (d.st.at i + heldQ (i : Int) ps - (b.st.at i + heldQ (i : Int) qs)) = δ := by rw [wrap_at (by omega)]; exact hdi
      have hvt : -10995116277760 ≤ v ∧ v ≤ 10995116277760 := by
        have w1 := hdiff t.toNat (by omega)
        have w2 := heldQ_rng (t.toNat : Int) hOp
        have w3 := heldQ_rng (t.toNat : Int) hO
        obtain ⟨w4, w5, _⟩ := hFd t.toNat (by omega)
        obtain ⟨w6, w7, _⟩ := hF t.toNat (by omega)
        rw [if_pos (by omega)] at w1
        simp only [heldW] at w1
        omega
      have hws : IntKind.i64.wrap (keepV t v i + δ) = keepV t v (i + 1) := by
        rw [wrap_at, kn]
        unfold keepV
        rw [hδ]
        constructor <;> repeat' split
        all_goals omega
      refine awp_skip ?_
      refine hK15 _ ?_
      clear hK15
      refine awp_seq fun K18 hK18 => ?_
      refine awp_block ?_
      refine awp_seq fun K19 hK19 => ?_
      refine awp_draw ?_
      iterate 8
        refine opsK_cons fun J hJ => ?_
        simp [go_sem, held16S_at d ps (i : Int) ⟨by omega, hFd, hOp, by omega⟩, held16S_at b qs (i : Int) ⟨by omega, hF, hO, by omega⟩, hwd]
        refine hJ _ _ _ ?_
        clear hJ J
      refine opsK_nil ?_
      refine ⟨rfl, ?_⟩
      refine hK19 _ ?_
      clear hK19
      refine awp_seq fun K20 hK20 => ?_
      refine awp_seq fun K21 hK21 => ?_
      rcases (show δ = 0 ∨ (δ ≠ 0 ∧ c.kind = 1 ∧ (i : Int) = c.a ∧ δ = c.n) ∨ (δ ≠ 0 ∧ c.kind = 7 ∧ ¬ 0 < δ) by
          rw [hδ]
          by_cases hit : (i : Int) = t
          · rw [if_pos hit]
            rcases hv with h | ⟨_, h1, h2, h3⟩ | ⟨_, h1, h2, _⟩
            · exact .inl h
            · by_cases hz : v = 0
              · exact .inl hz
              · exact .inr (.inl ⟨hz, h1, by omega, h3⟩)
            · by_cases hz : v = 0
              · exact .inl hz
              · exact .inr (.inr ⟨hz, h1, by omega⟩)
          · rw [if_neg hit]; exact .inl rfl) with z0 | ⟨z0, z1, z2, z3⟩ | ⟨z0, z1, z2⟩
      · skip
        have y0 : (δ != 0) = false := by simpa using z0
        refine awp_region ?_
        iterate 28
          refine opsK_cons fun J hJ => ?_
          simp [go_sem, y0]
          refine hJ _ _ _ ?_
          clear hJ J
        refine opsK_nil ?_
        refine hK21 _ ?_
        clear hK21
        refine awp_condF rfl ?_
        refine awp_skip ?_
        refine hK20 _ ?_
        clear hK20
        refine awp_region ?_
        iterate 4
          refine opsK_cons fun J hJ => ?_
          simp [go_sem, hws]
          refine hJ _ _ _ ?_
          clear hJ J
        refine opsK_nil ?_
        refine hK18 _ ?_
        clear hK18
        refine awp_region ?_
        iterate 3
          refine opsK_cons fun J hJ => ?_
          simp [go_sem]
          refine hJ _ _ _ ?_
          clear hJ J
        refine opsK_nil ?_
        refine ⟨⟨i + 1, by omega⟩, ?_, by simp; omega⟩
        refine weak_of [((0, 32), some (0, 32)), ((0, 48), some (0, 48)), ((0, 80), some (0, 80)), ((0, 96), some (0, 96))] (by simp [go_sem]) ?_ ?_ <;> simp [go_sem, wrap_at (n := (i : Int) + 1) (by omega)]
      · skip
        have y0 : (δ != 0) = true := by simpa using z0
        have y1 : (c.kind != 1) = false := by simpa using z1
        have y2 : ((i : Int) != c.a) = false := by simpa using z2
        have y3 : (δ != c.n) = false := by simpa using z3
        have y4 : (c.kind != 7) = true := by rw [z1]; rfl
        refine awp_region ?_
        iterate 28
          refine opsK_cons fun J hJ => ?_
          simp [go_sem, y0, y1, y2, y3, y4]
          refine hJ _ _ _ ?_
          clear hJ J
        refine opsK_nil ?_
        refine hK21 _ ?_
        clear hK21
        refine awp_condF rfl ?_
        refine awp_skip ?_
        refine hK20 _ ?_
        clear hK20
        refine awp_region ?_
        iterate 4
          refine opsK_cons fun J hJ => ?_
          simp [go_sem, hws]
          refine hJ _ _ _ ?_
          clear hJ J
        refine opsK_nil ?_
        refine hK18 _ ?_
        clear hK18
        refine awp_region ?_
        iterate 3
          refine opsK_cons fun J hJ => ?_
          simp [go_sem]
          refine hJ _ _ _ ?_
          clear hJ J
        refine opsK_nil ?_
        refine ⟨⟨i + 1, by omega⟩, ?_, by simp; omega⟩
        refine weak_of [((0, 32), some (0, 32)), ((0, 48), some (0, 48)), ((0, 80), some (0, 80)), ((0, 96), some (0, 96))] (by simp [go_sem]) ?_ ?_ <;> simp [go_sem, wrap_at (n := (i : Int) + 1) (by omega)]
      · skip
        have y0 : (δ != 0) = true := by simpa using z0
        have y1 : (c.kind != 1) = true := by rw [z1]; rfl
        have y4 : (c.kind != 7) = false := by simpa using z1
        refine awp_region ?_
        iterate 28
          refine opsK_cons fun J hJ => ?_
          simp [go_sem, y0, y1, y4, z2]
          refine hJ _ _ _ ?_
          clear hJ J
        refine opsK_nil ?_
        refine hK21 _ ?_
        clear hK21
        refine awp_condF rfl ?_
        refine awp_skip ?_
        refine hK20 _ ?_
        clear hK20
        refine awp_region ?_
        iterate 4
          refine opsK_cons fun J hJ => ?_
          simp [go_sem, hws]
          refine hJ _ _ _ ?_
          clear hJ J
        refine opsK_nil ?_
        refine hK18 _ ?_
        clear hK18
        refine awp_region ?_
        iterate 3
          refine opsK_cons fun J hJ => ?_
          simp [go_sem]
          refine hJ _ _ _ ?_
          clear hJ J
        refine opsK_nil ?_
        refine ⟨⟨i + 1, by omega⟩, ?_, by simp; omega⟩
        refine weak_of [((0, 32), some (0, 32)), ((0, 48), some (0, 48)), ((0, 80), some (0, 80)), ((0, 96), some (0, 96))] (by simp [go_sem]) ?_ ?_ <;> simp [go_sem, wrap_at (n := (i : Int) + 1) (by omega)]
    · simp [go_sem] at c17
      obtain rfl : i = 8 := by omega
      have h8 := keepV_8 v ht7
      refine awp_exit ?_
      simp only [go_sem]
      refine hK13 _ ?_
      clear hK13
      refine awp_seq fun K24 hK24 => ?_
      rw [h8]
      rcases (show v = 0 ∨ (v ≠ 0 ∧ k = 0 ∧ c.kind = 1 ∧ v = c.n) ∨ (v ≠ 0 ∧ k = 0 ∧ c.kind = 7 ∧ es.length = 4 ∧ ∃ e, es[0]? = some e ∧ v = -e.n) by
          by_cases hz : v = 0
          · exact .inl hz
          · rcases hv with h | ⟨h0, h1, _, h3⟩ | ⟨h0, h1, _, h3, h4⟩
            · exact .inl h
            · exact .inr (.inl ⟨hz, h0, h1, h3⟩)
            · exact .inr (.inr ⟨hz, h0, h1, h3, h4⟩)) with z0 | ⟨z0, z1, z2, z3⟩ | ⟨z0, z1, z2, z3, e, z4, z5⟩
      · skip
        have y0 : (v == 0) = true := by simpa using z0
        refine awp_region ?_
        iterate 40
          refine opsK_cons fun J hJ => ?_
          simp [go_sem, y0]
          refine hJ _ _ _ ?_
          clear hJ J
        refine opsK_nil ?_
        refine hK24 _ ?_
        clear hK24
        refine awp_ret ?_
        refine finWQ_of [] ?_
        simp [go_sem, Try.f4]
      · skip
        have y0 : (v == 0) = false := by simpa using z0
        have y3 : (v == c.n) = true := by simpa using z3
        refine awp_region ?_
        iterate 40
          refine opsK_cons fun J hJ => ?_
          simp [go_sem, y0, z1, z2, y3]
          refine hJ _ _ _ ?_
          clear hJ J
        refine opsK_nil ?_
        refine hK24 _ ?_
        clear hK24
        refine awp_ret ?_
        refine finWQ_of [] ?_
        simp [go_sem, Try.f4]
      · skip
        have y0 : (v == 0) = false := by simpa using z0
        have hvt : -10995116277760 ≤ v ∧ v ≤ 10995116277760 := by
          have w1 := hdiff t.toNat (by omega)
          have w2 := heldQ_rng (t.toNat : Int) hOp
          have w3 := heldQ_rng (t.toNat : Int) hO
          obtain ⟨w4, w5, _⟩ := hFd t.toNat (by omega)
          obtain ⟨w6, w7, _⟩ := hF t.toNat (by omega)
          rw [if_pos (by omega)] at w1
          simp only [heldW] at w1
          omega
        obtain ⟨hlt, rfl⟩ := List.getElem?_eq_some_iff.1 z4
        have y3 : IntKind.i64.wrap (-es[0].n) = v := by rw [wrap_at (by omega)]; omega
        refine awp_region ?_
        iterate 40
          refine opsK_cons fun J hJ => ?_
          simp [go_sem, y0, z1, z2, z3, y3]
          refine hJ _ _ _ ?_
          clear hJ J
        refine opsK_nil ?_
        refine hK24 _ ?_
        clear hK24
        refine awp_ret ?_
        refine finWQ_of [] ?_
        simp [go_sem, Try.f4]

theorem BookingKeeps_walk (w : World) (l0 : List Int) (a0 : Option Addr) (c0 : Nat) (L0 : List (List Int)) (g0 : l0.length = 24) (_ : ∀ x ∈ l0, I64 x) (h0 : L0.length ≤ c0) (m0 : c0 ≤ maxLen) (s0 : SlK w.heap.size 7 w a0 L0) (l1 : List Int) (g1 : l1.length = 9) (_ : ∀ x ∈ l1, I64 x) :
    Calls Try.prog 4 #[.agg (bk l0 (.slice a0 L0.length c0)), .agg (A l1)] w fun e w' => e = .returned (.bool true) ∧ Below w.heap.size w w' := by
  obtain ⟨b0, os0, e0, r0⟩ := book_rep g0 h0 m0 s0
  obtain ⟨x1, r1⟩ := agg_rep ex_Chg w g1
  refine true_walk bookingKeeps_ok (bookingKeepsS_at b0 os0 x1) w rfl fun i v hi => ?_
  match i, hi with
  | 0, hi => cases hi; exact r0
  | 1, hi => cases hi; exact r1

end Go.Proofs.Ytiifcalgolkpiaa.AE
