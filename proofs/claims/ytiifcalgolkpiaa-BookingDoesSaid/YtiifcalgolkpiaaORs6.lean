/-
  Chapter 16: contracts of what its laws call. Conditions: none; every contract names its own.
-/
import Derived.Test.YtiifcalgolkpiaaORl
import Derived.Test.YtiifcalgolkpiaaPg
import Derived.Test.YtiifcalgolkpiaaPe
set_option linter.constructorNameAsVariable false
namespace Go.Proofs.Ytiifcalgolkpiaa.AE
open Go Go.Proofs Go.RowKit
set_option linter.unusedVariables false
set_option linter.unusedSimpArgs false
set_option maxRecDepth 100000
set_option maxHeartbeats 4000000
theorem outR_ok {k : Int} {t u : Bk × List Ord × List Eff} (h : outR k t = .ok u) : k = 0 ∧ t = u := by
  unfold outR at h
  by_cases hk : k = 0
  · rw [if_pos hk] at h; cases h; exact ⟨hk, rfl⟩
  · rw [if_neg hk] at h; cases h
theorem outR_err {k e : Int} {t : Bk × List Ord × List Eff} (h : outR k t = .error e) : k = e ∧ e ≠ 0 := by
  unfold outR at h
  by_cases hk : k = 0
  · rw [if_pos hk] at h; cases h
  · rw [if_neg hk] at h; cases h; exact ⟨rfl, hk⟩
theorem ord_ready {b : Bk} {os : List Ord} {c : Chg} (h : codeR b os c = 0) (k : 4 ≤ c.kind ∧ c.kind ≤ 8) : (∃ x, findL os c.ref = some x ∧ aboutR b c x = 0) ∧ (c.kind = 4 → 1 ≤ c.n ∧ c.n ≤ 1000) := by
  by_cases hn : c.kind = 4 ∧ ¬ (1 ≤ c.n ∧ c.n ≤ 1000)
  · unfold codeR at h
    rw [if_neg (by omega), if_neg (by omega), if_neg (by omega), if_neg (by omega), if_neg (by omega), if_pos hn] at h
    cases h
  · have hn' : c.kind = 4 → 1 ≤ c.n ∧ c.n ≤ 1000 := by omega
    rw [codeR_ord k hn'] at h
    cases hf : findL os c.ref with
    | none => rw [hf] at h; cases h
    | some x => rw [hf] at h; exact ⟨⟨x, rfl, h⟩, hn'⟩
theorem sim_ready {b : Bk} {os : List Ord} {c : Chg} (h : codeR b os c = 0) (k : ¬ (4 ≤ c.kind ∧ c.kind ≤ 8)) : simOK b os c := by
  unfold simOK
  unfold codeR at h
  by_cases k1 : c.kind = 1
  · rw [if_pos k1] at h
    unfold addR at h
    by_cases h1 : 0 ≤ c.a ∧ c.a ≤ 7 ∧ 1 ≤ c.n ∧ c.n ≤ 1099511627776
    · rw [if_pos h1] at h
      by_cases h2 : 1099511627776 < b.st.at c.a.toNat + c.n
      · rw [if_pos h2] at h; cases h
      · exact .inl ⟨k1, by omega, by omega, by omega⟩
    · rw [if_neg h1] at h; cases h
  by_cases k2 : c.kind = 2
  · rw [if_neg k1, if_pos k2] at h
    unfold addR at h
    by_cases h1 : 0 ≤ c.a ∧ c.a ≤ 7 ∧ 1 ≤ c.n ∧ c.n ≤ 1099511627776
    · rw [if_pos h1] at h
      by_cases h2 : 1099511627776 < b.pu.at c.a.toNat + c.n
      · rw [if_pos h2] at h; cases h
      · exact .inr (.inl ⟨k2, by omega, by omega, by omega⟩)
    · rw [if_neg h1] at h; cases h
  by_cases k3 : c.kind = 3
  · rw [if_neg k1, if_neg k2, if_pos k3] at h
    unfold placeR at h
    by_cases h1 : 0 ≤ c.a ∧ c.a ≤ 7 ∧ 0 ≤ c.b ∧ c.b ≤ 7 ∧ 1 ≤ c.n ∧ c.n ≤ 1000
    · rw [if_pos h1] at h
      by_cases h2 : 0 ≤ placeL os c.id
      · rw [if_pos h2] at h; cases h
      · by_cases h3 : 32 ≤ os.length
        · rw [if_neg h2, if_pos h3] at h; cases h
        · by_cases h4 : itemR b c < 0
          · rw [if_neg h2, if_neg h3, if_pos h4] at h; cases h
          · exact .inr (.inr (.inr ⟨k3, by omega, by omega, by omega, by omega, by omega, by omega⟩))
    · rw [if_neg h1] at h; cases h
  by_cases k9 : c.kind = 9
  · rw [if_neg k1, if_neg k2, if_neg k3, if_pos k9] at h
    by_cases h1 : 0 ≤ c.a ∧ c.a ≤ 7 ∧ 0 ≤ c.n ∧ c.n ≤ 1073741824
    · exact .inr (.inr (.inl ⟨k9, by omega, by omega⟩))
    · rw [if_neg h1] at h; cases h
  · rw [if_neg k1, if_neg k2, if_neg k3, if_neg k9, if_pos (by omega)] at h; cases h
theorem doR_lens {b : Bk} {os : List Ord} {c : Chg} : (simR b os c).2.2.length ≤ 4 ∧ (simR b os c).2.1.length ≤ os.length + 1 ∧ ∀ x, (ordR b os c x).2.2.length ≤ 4 ∧ (ordR b os c x).2.1.length ≤ os.length + 1 := by
  refine ⟨?_, ?_, fun x => ⟨?_, ?_⟩⟩
  · unfold simR; repeat' split
    all_goals simp
  · unfold simR; repeat' split
    all_goals first | exact Nat.le_succ _ | exact putL_len _ _
  · unfold ordR; repeat' split
    all_goals simp
  · unfold ordR; repeat' split
    all_goals exact putL_len _ _
theorem doW_lens {b d : Bk} {os ps : List Ord} {c : Chg} {l : List Eff} {r : Id} (hF : FairB b) (hO : FairO os) (h : doW b os c = .ok (d, ps, l, r)) : l.length ≤ 4 ∧ ps.length ≤ os.length + 1 := by
  have q := doR_eq hF hO (c := c)
  rw [h] at q
  obtain ⟨_, ht⟩ := outR_ok q
  obtain ⟨s1, s2, s3⟩ := @doR_lens b os c
  by_cases k : 4 ≤ c.kind ∧ c.kind ≤ 8
  · rw [if_pos k] at ht
    have := s3 (ordAt os c)
    rw [ht] at this
    exact this
  · rw [if_neg k] at ht
    rw [ht] at s1 s2
    exact ⟨s1, s2⟩

structure rdoX where
  b : Bk
  os : List Ord
  os' : AV
  c : Chg
  h_os : SlA 7 cOrd os os'
  hL : FairB b ∧ FairO os ∧ os.length ≤ 40000
/-- ref16.Do -/
noncomputable def rdoS : HSpec := mkH (ι := rdoX) (fun ⟨b, os, os', c, h_os, hL⟩ => ([.agg (cBk b os'), .agg (cChg c)], [])) fun ⟨b, os, os', c, h_os, hL⟩ => doH b os c
theorem rdoS_atG (b : Bk) (os : List Ord) (os' : AV) (c : Chg) (h_os : SlA 7 cOrd os os') (hL : FairB b ∧ FairO os ∧ os.length ≤ 40000) : rdoS [.agg (cBk b os'), .agg (cChg c)] [] = some (doH b os c) :=
  mkH_at (ι := rdoX) (A := fun ⟨b, os, os', c, h_os, hL⟩ => ([.agg (cBk b os'), .agg (cChg c)], [])) (R := fun ⟨b, os, os', c, h_os, hL⟩ => doH b os c) (fun i j h => by obtain ⟨b, os, os', c, h_os, hL⟩ := i; obtain ⟨b2, os2, os'2, c2, h_os2, hL2⟩ := j; simp [and_assoc, cBk_eq_iff, cId_eq_iff, cOrd_eq_iff, cChg_eq_iff, cEff_eq_iff, cKey_eq_iff, cReq_eq_iff, cV_eq_iff, cOp_eq_iff, cOc_eq_iff] at h; obtain ⟨rfl, rfl, rfl⟩ := h; obtain rfl := SlA.inj (fun x y h => cOrd_inj h) h_os h_os2; rfl) ⟨b, os, os', c, h_os, hL⟩
theorem rdoS_at (b : Bk) (os : List Ord) (c : Chg) (hL : FairB b ∧ FairO os ∧ os.length ≤ 40000) : rdoS [.agg (cBk b (.sl 7 (rows cOrd os))), .agg (cChg c)] [] = some (doH b os c) := rdoS_atG b os _ c .sl hL

theorem rdo_ok : HSound Try.prog 21 rdoS := by
  refine sound_ofE (fn := Try.f21) rfl rfl (by kernel_rfl) fun args bx hr hS => ?_
  obtain ⟨⟨b, os, os', c, h_os, hL⟩, rfl, rfl, rfl⟩ := mkH_of hS
  clear hS
  refine ⟨_, (EnvOK.consV (g := 53) (by kernel_rfl) code16_ok (EnvOK.consH (g := 54) (by kernel_rfl) ord16_ok (EnvOK.consH (g := 55) (by kernel_rfl) sim16_ok (EnvOK.nil _)))), by simp [Try.f21], by simp only [doH_up]; trivial, fun w Mx pin => ?_⟩
  simp only [hB_at, lab_nil, lab_cons, hOf_nil, hOf_cons]
  refine awp_weak (s' := ⟨ofL [(0, .agg (cBk b (.sl 7 (rows cOrd os)))), (1, .agg (cChg c))], hOf []⟩) ?_ ?_
  · cases h_os <;> exact weak_of [] (by simp [go_sem]) (by simp [go_sem]) (by simp [go_sem])
  clear h_os
  obtain ⟨hF, hO, hlen⟩ := hL
  refine awp_seq fun K1 hK1 => ?_
  refine awp_region ?_
  iterate 4
    refine opsK_cons fun J hJ => ?_
    simp [go_sem]
    refine hJ _ _ _ ?_
    clear hJ J
  refine opsK_nil ?_
  refine hK1 _ ?_
  clear hK1
  refine awp_seq fun K2 hK2 => ?_
  rcases hd : doW b os c with e | ⟨d, ps, l, r⟩
  · skip
    have hq := doR_eq hF hO (c := c)
    rw [hd] at hq
    obtain ⟨hc, hne⟩ := outR_err hq
    have hz : (e != 0) = true := by simpa using hne
    refine awp_region ?_
    iterate 4
      refine opsK_cons fun J hJ => ?_
      simp [go_sem, code16S_at b os c ⟨hF, hO, hlen⟩, hc]
      refine hJ _ _ _ ?_
      clear hJ J
    refine opsK_nil ?_
    refine hK2 _ ?_
    clear hK2
    refine awp_seq fun K3 hK3 => ?_
    refine awp_seq fun K4 hK4 => ?_
    refine awp_region ?_
    iterate 2
      refine opsK_cons fun J hJ => ?_
      simp [go_sem, hz]
      refine hJ _ _ _ ?_
      clear hJ J
    refine opsK_nil ?_
    refine hK4 _ ?_
    clear hK4
    refine awp_condT rfl ?_
    refine awp_seq fun K6 hK6 => ?_
    refine awp_region ?_
    iterate 5
      refine opsK_cons fun J hJ => ?_
      simp [go_sem]
      refine hJ _ _ _ ?_
      clear hJ J
    refine opsK_nil ?_
    refine hK6 _ ?_
    clear hK6
    refine awp_ret ?_
    rw [doH_err hd]
    refine finWQ_of [] ?_
    simp [go_sem, Try.f21, cOc]
  · skip
    have hq := doR_eq hF hO (c := c)
    rw [hd] at hq
    obtain ⟨hc, ht⟩ := outR_ok hq
    refine awp_region ?_
    iterate 4
      refine opsK_cons fun J hJ => ?_
      simp [go_sem, code16S_at b os c ⟨hF, hO, hlen⟩, hc]
      refine hJ _ _ _ ?_
      clear hJ J
    refine opsK_nil ?_
    refine hK2 _ ?_
    clear hK2
    refine awp_seq fun K3 hK3 => ?_
    refine awp_seq fun K4 hK4 => ?_
    refine awp_region ?_
    iterate 2
      refine opsK_cons fun J hJ => ?_
      simp [go_sem]
      refine hJ _ _ _ ?_
      clear hJ J
    refine opsK_nil ?_
    refine hK4 _ ?_
    clear hK4
    refine awp_condF rfl ?_
    refine awp_skip ?_
    refine hK3 _ ?_
    clear hK3
    refine awp_seq fun K7 hK7 => ?_
    refine awp_seq fun K8 hK8 => ?_
    rcases (show (4 ≤ c.kind ∧ c.kind ≤ 8) ∨ (4 ≤ c.kind ∧ ¬ c.kind ≤ 8) ∨ ¬ 4 ≤ c.kind by omega) with ⟨g1, g2⟩ | ⟨g1, g2⟩ | g1
    · skip
      obtain ⟨hx, hn⟩ := ord_ready hc ⟨g1, g2⟩
      rw [if_pos ⟨g1, g2⟩] at ht
      refine awp_region ?_
      iterate 8
        refine opsK_cons fun J hJ => ?_
        simp [go_sem, g1, g2]
        refine hJ _ _ _ ?_
        clear hJ J
      refine opsK_nil ?_
      refine hK8 _ ?_
      clear hK8
      refine awp_condT rfl ?_
      refine awp_seq fun K10 hK10 => ?_
      refine awp_region ?_
      iterate 9
        refine opsK_cons fun J hJ => ?_
        simp [go_sem, ord16S_at b os c ⟨hF, hO, hlen, ⟨g1, g2⟩, hx, hn⟩, ht, resR]
        refine hJ _ _ _ ?_
        clear hJ J
      refine opsK_nil ?_
      refine hK10 _ ?_
      clear hK10
      refine awp_seq fun K11 hK11 => ?_
      refine awp_region ?_
      iterate 5
        refine opsK_cons fun J hJ => ?_
        simp [go_sem]
        refine hJ _ _ _ ?_
        clear hJ J
      refine opsK_nil ?_
      refine hK11 _ ?_
      clear hK11
      refine awp_ret ?_
      rw [doH_ok hd]
      refine finWQ_of [] ?_
      simp [go_sem, Try.f21, cOc]
    · skip
      rw [if_neg (by omega)] at ht
      refine awp_region ?_
      iterate 8
        refine opsK_cons fun J hJ => ?_
        simp [go_sem, g1, g2]
        refine hJ _ _ _ ?_
        clear hJ J
      refine opsK_nil ?_
      refine hK8 _ ?_
      clear hK8
      refine awp_condF rfl ?_
      refine awp_skip ?_
      refine hK7 _ ?_
      clear hK7
      refine awp_seq fun K12 hK12 => ?_
      refine awp_region ?_
      iterate 9
        refine opsK_cons fun J hJ => ?_
        simp [go_sem, sim16S_at b os c ⟨hF, hlen, sim_ready hc (by omega)⟩, ht, resR]
        refine hJ _ _ _ ?_
        clear hJ J
      refine opsK_nil ?_
      refine hK12 _ ?_
      clear hK12
      refine awp_seq fun K13 hK13 => ?_
      refine awp_region ?_
      iterate 5
        refine opsK_cons fun J hJ => ?_
        simp [go_sem]
        refine hJ _ _ _ ?_
        clear hJ J
      refine opsK_nil ?_
      refine hK13 _ ?_
      clear hK13
      refine awp_ret ?_
      rw [doH_ok hd]
      refine finWQ_of [] ?_
      simp [go_sem, Try.f21, cOc]
    · skip
      rw [if_neg (by omega)] at ht
      refine awp_region ?_
      iterate 8
        refine opsK_cons fun J hJ => ?_
        simp [go_sem, g1]
        refine hJ _ _ _ ?_
        clear hJ J
      refine opsK_nil ?_
      refine hK8 _ ?_
      clear hK8
      refine awp_condF rfl ?_
      refine awp_skip ?_
      refine hK7 _ ?_
      clear hK7
      refine awp_seq fun K12 hK12 => ?_
      refine awp_region ?_
      iterate 9
        refine opsK_cons fun J hJ => ?_
        simp [go_sem, sim16S_at b os c ⟨hF, hlen, sim_ready hc (by omega)⟩, ht, resR]
        refine hJ _ _ _ ?_
        clear hJ J
      refine opsK_nil ?_
      refine hK12 _ ?_
      clear hK12
      refine awp_seq fun K13 hK13 => ?_
      refine awp_region ?_
      iterate 5
        refine opsK_cons fun J hJ => ?_
        simp [go_sem]
        refine hJ _ _ _ ?_
        clear hJ J
      refine opsK_nil ?_
      refine hK13 _ ?_
      clear hK13
      refine awp_ret ?_
      rw [doH_ok hd]
      refine finWQ_of [] ?_
      simp [go_sem, Try.f21, cOc]

/-- The error of a change. -/
def mayW (b : Bk) (os : List Ord) (c : Chg) : Int := match doW b os c with
  | .ok _ => 0
  | .error e => e

structure may16X where
  b : Bk
  os : List Ord
  os' : AV
  c : Chg
  h_os : SlA 7 cOrd os os'
  hL : FairB b ∧ FairO os ∧ os.length ≤ 40000
/-- booking.May -/
noncomputable def may16S : HSpec := mkH (ι := may16X) (fun ⟨b, os, os', c, h_os, hL⟩ => ([.agg (cBk b os'), .agg (cChg c)], [])) fun ⟨b, os, os', c, h_os, hL⟩ => ⟨.int .i64 (mayW b os c), [], []⟩
theorem may16S_atG (b : Bk) (os : List Ord) (os' : AV) (c : Chg) (h_os : SlA 7 cOrd os os') (hL : FairB b ∧ FairO os ∧ os.length ≤ 40000) : may16S [.agg (cBk b os'), .agg (cChg c)] [] = some (⟨.int .i64 (mayW b os c), [], []⟩) :=
  mkH_at (ι := may16X) (A := fun ⟨b, os, os', c, h_os, hL⟩ => ([.agg (cBk b os'), .agg (cChg c)], [])) (R := fun ⟨b, os, os', c, h_os, hL⟩ => ⟨.int .i64 (mayW b os c), [], []⟩) (fun i j h => by obtain ⟨b, os, os', c, h_os, hL⟩ := i; obtain ⟨b2, os2, os'2, c2, h_os2, hL2⟩ := j; simp [and_assoc, cBk_eq_iff, cId_eq_iff, cOrd_eq_iff, cChg_eq_iff, cEff_eq_iff, cKey_eq_iff, cReq_eq_iff, cV_eq_iff, cOp_eq_iff, cOc_eq_iff] at h; obtain ⟨rfl, rfl, rfl⟩ := h; obtain rfl := SlA.inj (fun x y h => cOrd_inj h) h_os h_os2; rfl) ⟨b, os, os', c, h_os, hL⟩
theorem may16S_at (b : Bk) (os : List Ord) (c : Chg) (hL : FairB b ∧ FairO os ∧ os.length ≤ 40000) : may16S [.agg (cBk b (.sl 7 (rows cOrd os))), .agg (cChg c)] [] = some (⟨.int .i64 (mayW b os c), [], []⟩) := may16S_atG b os _ c .sl hL

theorem may16_ok : HSound Try.prog 24 may16S := by
  refine sound_ofE (fn := Try.f24) rfl rfl (by kernel_rfl) fun args bx hr hS => ?_
  obtain ⟨⟨b, os, os', c, h_os, hL⟩, rfl, rfl, rfl⟩ := mkH_of hS
  clear hS
  refine ⟨_, (EnvOK.consH (g := 16) (by kernel_rfl) do16_ok (EnvOK.nil _)), by simp [Try.f24], by simp [go_sem], fun w Mx pin => ?_⟩
  simp only [hB_at, lab_nil, lab_cons, hOf_nil, hOf_cons]
  refine awp_weak (s' := ⟨ofL [(0, .agg (cBk b (.sl 7 (rows cOrd os)))), (1, .agg (cChg c))], hOf []⟩) ?_ ?_
  · cases h_os <;> exact weak_of [] (by simp [go_sem]) (by simp [go_sem]) (by simp [go_sem])
  clear h_os
  refine awp_seq fun K1 hK1 => ?_
  refine awp_region ?_
  iterate 3
    refine opsK_cons fun J hJ => ?_
    simp [go_sem]
    refine hJ _ _ _ ?_
    clear hJ J
  refine opsK_nil ?_
  refine hK1 _ ?_
  clear hK1
  refine awp_seq fun K2 hK2 => ?_
  rcases hd : doW b os c with e | ⟨d, ps, l, r⟩
  · skip
    have hr : mayW b os c = e := by unfold mayW; rw [hd]
    refine awp_region ?_
    iterate 10
      refine opsK_cons fun J hJ => ?_
      simp [go_sem, do16S_at b os c hL, doH_err hd]
      refine hJ _ _ _ ?_
      clear hJ J
    refine opsK_nil ?_
    refine hK2 _ ?_
    clear hK2
    refine awp_seq fun K3 hK3 => ?_
    refine awp_region ?_
    iterate 3
      refine opsK_cons fun J hJ => ?_
      simp [go_sem]
      refine hJ _ _ _ ?_
      clear hJ J
    refine opsK_nil ?_
    refine hK3 _ ?_
    clear hK3
    refine awp_ret ?_
    refine finWQ_of [] ?_
    simp [go_sem, Try.f24, hr]
  · skip
    have hr : mayW b os c = 0 := by unfold mayW; rw [hd]
    refine awp_region ?_
    iterate 10
      refine opsK_cons fun J hJ => ?_
      simp [go_sem, do16S_at b os c hL, doH_ok hd]
      refine hJ _ _ _ ?_
      clear hJ J
    refine opsK_nil ?_
    refine hK2 _ ?_
    clear hK2
    refine awp_seq fun K3 hK3 => ?_
    refine awp_region ?_
    iterate 3
      refine opsK_cons fun J hJ => ?_
      simp [go_sem]
      refine hJ _ _ _ ?_
      clear hJ J
    refine opsK_nil ?_
    refine hK3 _ ?_
    clear hK3
    refine awp_ret ?_
    refine finWQ_of [] ?_
    simp [go_sem, Try.f24, hr]

structure plEffX where
  L : List Eff
  L' : AV
  M : List Eff
  M' : AV
  h_L : SlA 5 cEff L L'
  h_M : SlA 5 cEff M M'
  hL : L.length ≤ 100000
/-- countermandplain.Effects -/
noncomputable def plEffS : HSpec := mkH (ι := plEffX) (fun ⟨L, L', M, M', h_L, h_M, hL⟩ => ([L', M'], [])) fun ⟨L, L', M, M', h_L, h_M, hL⟩ => ⟨.bool (decide (L = M)), [], []⟩
theorem plEffS_atG (L : List Eff) (L' : AV) (M : List Eff) (M' : AV) (h_L : SlA 5 cEff L L') (h_M : SlA 5 cEff M M') (hL : L.length ≤ 100000) : plEffS [L', M'] [] = some (⟨.bool (decide (L = M)), [], []⟩) :=
  mkH_at (ι := plEffX) (A := fun ⟨L, L', M, M', h_L, h_M, hL⟩ => ([L', M'], [])) (R := fun ⟨L, L', M, M', h_L, h_M, hL⟩ => ⟨.bool (decide (L = M)), [], []⟩) (fun i j h => by obtain ⟨L, L', M, M', h_L, h_M, hL⟩ := i; obtain ⟨L2, L'2, M2, M'2, h_L2, h_M2, hL2⟩ := j; simp [and_assoc, cBk_eq_iff, cId_eq_iff, cOrd_eq_iff, cChg_eq_iff, cEff_eq_iff, cKey_eq_iff, cReq_eq_iff, cV_eq_iff, cOp_eq_iff, cOc_eq_iff] at h; obtain ⟨rfl, rfl⟩ := h; obtain rfl := SlA.inj (fun x y h => cEff_inj h) h_L h_L2; obtain rfl := SlA.inj (fun x y h => cEff_inj h) h_M h_M2; rfl) ⟨L, L', M, M', h_L, h_M, hL⟩
theorem plEffS_at (L : List Eff) (M : List Eff) (hL : L.length ≤ 100000) : plEffS [(.sl 5 (rows cEff L)), (.sl 5 (rows cEff M))] [] = some (⟨.bool (decide (L = M)), [], []⟩) := plEffS_atG L _ M _ .sl .sl hL

def plEffI (L M pre _post _q : List Eff) : St := ⟨ofL [(0, .sl 5 (rows cEff L)), (1, .sl 5 (rows cEff M)), (5, .int .i64 pre.length)], hOf []⟩

theorem plEff_ok : HSound Try.prog 56 plEffS := by
  refine sound_ofE (fn := Try.f56) rfl rfl (by kernel_rfl) fun args bx hr hS => ?_
  obtain ⟨⟨L, L', M, M', h_L, h_M, hL⟩, rfl, rfl, rfl⟩ := mkH_of hS
  clear hS
  refine ⟨_, (EnvOK.nil _), by simp [Try.f56], by simp [go_sem], fun w Mx pin => ?_⟩
  simp only [hB_at, lab_nil, lab_cons, hOf_nil, hOf_cons]
  refine awp_weak (s' := ⟨ofL [(0, (.sl 5 (rows cEff L))), (1, (.sl 5 (rows cEff M)))], hOf []⟩) ?_ ?_
  · cases h_L <;> cases h_M <;> exact weak_of [] (by simp [go_sem]) (by simp [go_sem]) (by simp [go_sem])
  clear h_L h_M
  refine awp_seq fun K1 hK1 => ?_
  refine awp_region ?_
  iterate 1
    refine opsK_cons fun J hJ => ?_
    simp [go_sem]
    refine hJ _ _ _ ?_
    clear hJ J
  refine opsK_nil ?_
  refine hK1 _ ?_
  clear hK1
  refine awp_seq fun K2 hK2 => ?_
  refine awp_seq fun K3 hK3 => ?_
  refine awp_region ?_
  iterate 5
    refine opsK_cons fun J hJ => ?_
    simp [go_sem]
    refine hJ _ _ _ ?_
    clear hJ J
  refine opsK_nil ?_
  refine hK3 _ ?_
  clear hK3
  refine awp_cond (t := _) rfl (fun c4 => ?_) (fun c4 => ?_)
  · simp [go_sem] at c4
    have hne : L ≠ M := fun h => c4 (by rw [h])
    refine awp_seq fun K5 hK5 => ?_
    refine awp_region ?_
    iterate 1
      refine opsK_cons fun J hJ => ?_
      simp [go_sem]
      refine hJ _ _ _ ?_
      clear hJ J
    refine opsK_nil ?_
    refine hK5 _ ?_
    clear hK5
    refine awp_ret ?_
    refine finWQ_of [] ?_
    simp [go_sem, Try.f56, hne]
  · simp [go_sem] at c4
    refine awp_skip ?_
    refine hK2 _ ?_
    clear hK2
    refine awp_seq fun K6 hK6 => ?_
    refine awp_seq fun K7 hK7 => ?_
    refine awp_region ?_
    iterate 1
      refine opsK_cons fun J hJ => ?_
      simp [go_sem]
      refine hJ _ _ _ ?_
      clear hJ J
    refine opsK_nil ?_
    refine hK7 _ ?_
    clear hK7
    refine awp_block ?_
    refine awp_loop (ι := { q : List Eff × List Eff × List Eff // q.1 ++ q.2.1 = L ∧ q.1 ++ q.2.2 = M }) (fun q => plEffI L M q.1.1 q.1.2.1 q.1.2.2) (fun q => q.1.2.1.length) ⟨([], L, M), rfl, rfl⟩ ?_ ?_
    · refine weak_of [] (by simp [go_sem]) ?_ ?_ <;> simp [go_sem]
    intro ⟨⟨pre, post, p2⟩, hl, hgo⟩
    simp only at hl hgo
    have hpl := len_small hl hL
    simp only [plEffI]
    refine awp_seq fun K8 hK8 => ?_
    refine awp_seq fun K9 hK9 => ?_
    refine awp_region ?_
    iterate 4
      refine opsK_cons fun J hJ => ?_
      simp [go_sem]
      refine hJ _ _ _ ?_
      clear hJ J
    refine opsK_nil ?_
    refine hK9 _ ?_
    clear hK9
    refine awp_cond (t := _) rfl (fun c10 => ?_) (fun c10 => ?_)
    · simp [go_sem] at c10
      obtain ⟨x, post, rfl, hx⟩ := mid_lt hl c10
      obtain ⟨y, p2, rfl, hy⟩ := mid_lt hgo (by omega)
      refine awp_skip ?_
      refine hK8 _ ?_
      clear hK8
      refine awp_seq fun K11 hK11 => ?_
      refine awp_block ?_
      refine awp_seq fun K12 hK12 => ?_
      refine awp_draw ?_
      iterate 9
        refine opsK_cons fun J hJ => ?_
        simp [go_sem, hx, hy]
        refine hJ _ _ _ ?_
        clear hJ J
      refine opsK_nil ?_
      refine ⟨rfl, ?_⟩
      refine hK12 _ ?_
      clear hK12
      refine awp_cond (t := _) rfl (fun c13 => ?_) (fun c13 => ?_)
      · skip
        refine awp_seq fun K14 hK14 => ?_
        refine awp_region ?_
        iterate 1
          refine opsK_cons fun J hJ => ?_
          simp [go_sem]
          refine hJ _ _ _ ?_
          clear hJ J
        refine opsK_nil ?_
        refine hK14 _ ?_
        clear hK14
        refine awp_ret ?_
        have hne : L ≠ M := by
          rintro rfl
          rw [hx] at hy
          cases hy
          simp at c13
        refine finWQ_of [] ?_
        simp [go_sem, Try.f56, hne]
      · skip
        refine awp_skip ?_
        refine hK11 _ ?_
        clear hK11
        refine awp_region ?_
        iterate 3
          refine opsK_cons fun J hJ => ?_
          simp [go_sem]
          refine hJ _ _ _ ?_
          clear hJ J
        refine opsK_nil ?_
        obtain rfl : x = y := by simpa using c13
        refine ⟨⟨(pre ++ [x], post, p2), by simp [← hl], by rw [← hgo]; simp⟩, ?_, by simp⟩
        refine weak_of [] (by simp [go_sem]) ?_ ?_ <;> simp [go_sem, wrap_nat hpl]
    · simp [go_sem] at c10
      obtain ⟨rfl, rfl⟩ := mid_nil hl c10
      obtain rfl : p2 = [] := by have := congrArg List.length hgo; simp at this; exact List.eq_nil_of_length_eq_zero (by omega)
      simp at hgo
      refine awp_exit ?_
      simp only [go_sem]
      refine hK6 _ ?_
      clear hK6
      refine awp_seq fun K15 hK15 => ?_
      refine awp_region ?_
      iterate 1
        refine opsK_cons fun J hJ => ?_
        simp [go_sem]
        refine hJ _ _ _ ?_
        clear hJ J
      refine opsK_nil ?_
      refine hK15 _ ?_
      clear hK15
      refine awp_ret ?_
      refine finWQ_of [] ?_
      simp [go_sem, Try.f56, hgo]

theorem oc_dec (x y : Outc) : decide (x = y) = ((x.code == y.code) && decide (x.effs = y.effs)) := by
  cases x; cases y
  rw [Bool.eq_iff_iff]
  simp

structure plOcX where
  x : Outc
  y : Outc
  hL : x.effs.length ≤ 100000
/-- plain.Outcome -/
noncomputable def plOcS : HSpec := mkH (ι := plOcX) (fun ⟨x, y, hL⟩ => ([.agg (cOc x), .agg (cOc y)], [])) fun ⟨x, y, hL⟩ => ⟨.bool (decide (x = y)), [], []⟩
theorem plOcS_atG (x : Outc) (y : Outc) (hL : x.effs.length ≤ 100000) : plOcS [.agg (cOc x), .agg (cOc y)] [] = some (⟨.bool (decide (x = y)), [], []⟩) :=
  mkH_at (ι := plOcX) (A := fun ⟨x, y, hL⟩ => ([.agg (cOc x), .agg (cOc y)], [])) (R := fun ⟨x, y, hL⟩ => ⟨.bool (decide (x = y)), [], []⟩) (fun i j h => by obtain ⟨x, y, hL⟩ := i; obtain ⟨x2, y2, hL2⟩ := j; simp [and_assoc, cBk_eq_iff, cId_eq_iff, cOrd_eq_iff, cChg_eq_iff, cEff_eq_iff, cKey_eq_iff, cReq_eq_iff, cV_eq_iff, cOp_eq_iff, cOc_eq_iff] at h; obtain ⟨rfl, rfl⟩ := h; rfl) ⟨x, y, hL⟩
theorem plOcS_at (x : Outc) (y : Outc) (hL : x.effs.length ≤ 100000) : plOcS [.agg (cOc x), .agg (cOc y)] [] = some (⟨.bool (decide (x = y)), [], []⟩) := plOcS_atG x y hL

theorem plOc_ok : HSound Try.prog 23 plOcS := by
  refine sound_ofE (fn := Try.f23) rfl rfl (by kernel_rfl) fun args bx hr hS => ?_
  obtain ⟨⟨x, y, hL⟩, rfl, rfl, rfl⟩ := mkH_of hS
  clear hS
  refine ⟨_, (EnvOK.consV (g := 56) (by kernel_rfl) plEff_ok (EnvOK.nil _)), by simp [Try.f23], by simp [go_sem], fun w Mx pin => ?_⟩
  simp only [hB_at, lab_nil, lab_cons, hOf_nil, hOf_cons]
  refine awp_seq fun K1 hK1 => ?_
  refine awp_region ?_
  iterate 3
    refine opsK_cons fun J hJ => ?_
    simp [go_sem]
    refine hJ _ _ _ ?_
    clear hJ J
  refine opsK_nil ?_
  refine hK1 _ ?_
  clear hK1
  refine awp_seq fun K2 hK2 => ?_
  cases h1 : (x.code == y.code)
  all_goals
    refine awp_region ?_
    iterate 13
      refine opsK_cons fun J hJ => ?_
      simp [go_sem, h1, plEffS_at x.effs y.effs hL]
      refine hJ _ _ _ ?_
      clear hJ J
    refine opsK_nil ?_
    refine hK2 _ ?_
    clear hK2
    refine awp_ret ?_
    refine finWQ_of [] ?_
    rw [oc_dec, h1]
    simp [go_sem, Try.f23]

structure few16X where
  b : Bk
  os : List Ord
  os' : AV
  h_os : SlA 7 cOrd os os'
/-- few -/
noncomputable def few16S : HSpec := mkH (ι := few16X) (fun ⟨b, os, os', h_os⟩ => ([.agg (cBk b os')], [])) fun ⟨b, os, os', h_os⟩ => ⟨.agg (cBk b (.sl 7 (rows cOrd (os.take 40)))), [], []⟩
theorem few16S_atG (b : Bk) (os : List Ord) (os' : AV) (h_os : SlA 7 cOrd os os') : few16S [.agg (cBk b os')] [] = some (⟨.agg (cBk b (.sl 7 (rows cOrd (os.take 40)))), [], []⟩) :=
  mkH_at (ι := few16X) (A := fun ⟨b, os, os', h_os⟩ => ([.agg (cBk b os')], [])) (R := fun ⟨b, os, os', h_os⟩ => ⟨.agg (cBk b (.sl 7 (rows cOrd (os.take 40)))), [], []⟩) (fun i j h => by obtain ⟨b, os, os', h_os⟩ := i; obtain ⟨b2, os2, os'2, h_os2⟩ := j; simp [and_assoc, cBk_eq_iff, cId_eq_iff, cOrd_eq_iff, cChg_eq_iff, cEff_eq_iff, cKey_eq_iff, cReq_eq_iff, cV_eq_iff, cOp_eq_iff, cOc_eq_iff] at h; obtain ⟨rfl, rfl⟩ := h; obtain rfl := SlA.inj (fun x y h => cOrd_inj h) h_os h_os2; rfl) ⟨b, os, os', h_os⟩
theorem few16S_at (b : Bk) (os : List Ord) : few16S [.agg (cBk b (.sl 7 (rows cOrd os)))] [] = some (⟨.agg (cBk b (.sl 7 (rows cOrd (os.take 40)))), [], []⟩) := few16S_atG b os _ .sl
theorem few16S_atN (b : Bk) : few16S [.agg (cBk b .nils)] [] = some ((fun (os : List Ord) => ⟨.agg (cBk b (.sl 7 (rows cOrd (os.take 40)))), [], []⟩) []) := few16S_atG b [] _ .nil

theorem few16_ok : HSound Try.prog 14 few16S := by
  refine sound_ofE (fn := Try.f14) rfl rfl (by kernel_rfl) fun args bx hr hS => ?_
  obtain ⟨⟨b, os, os', h_os⟩, rfl, rfl, rfl⟩ := mkH_of hS
  clear hS
  refine ⟨_, (EnvOK.nil _), by simp [Try.f14], by simp [go_sem], fun w Mx pin => ?_⟩
  simp only [hB_at, lab_nil, lab_cons, hOf_nil, hOf_cons]
  refine awp_weak (s' := ⟨ofL [(0, .agg (cBk b (.sl 7 (rows cOrd os))))], hOf []⟩) ?_ ?_
  · cases h_os <;> exact weak_of [] (by simp [go_sem]) (by simp [go_sem]) (by simp [go_sem])
  clear h_os
  refine awp_seq fun K1 hK1 => ?_
  refine awp_region ?_
  iterate 2
    refine opsK_cons fun J hJ => ?_
    simp [go_sem]
    refine hJ _ _ _ ?_
    clear hJ J
  refine opsK_nil ?_
  refine hK1 _ ?_
  clear hK1
  refine awp_seq fun K2 hK2 => ?_
  refine awp_seq fun K3 hK3 => ?_
  refine awp_region ?_
  iterate 4
    refine opsK_cons fun J hJ => ?_
    simp [go_sem]
    refine hJ _ _ _ ?_
    clear hJ J
  refine opsK_nil ?_
  refine hK3 _ ?_
  clear hK3
  refine awp_cond (t := _) rfl (fun c4 => ?_) (fun c4 => ?_)
  · simp [go_sem] at c4
    refine awp_region ?_
    iterate 5
      refine opsK_cons fun J hJ => ?_
      simp [go_sem, show 40 ≤ os.length by omega]
      refine hJ _ _ _ ?_
      clear hJ J
    refine opsK_nil ?_
    refine hK2 _ ?_
    clear hK2
    refine awp_seq fun K5 hK5 => ?_
    refine awp_region ?_
    iterate 2
      refine opsK_cons fun J hJ => ?_
      simp [go_sem]
      refine hJ _ _ _ ?_
      clear hJ J
    refine opsK_nil ?_
    refine hK5 _ ?_
    clear hK5
    refine awp_ret ?_
    refine finWQ_of [] ?_
    first | (simp [go_sem, Try.f14]; done) | (simp [go_sem, Try.f14, List.take_of_length_le (show os.length ≤ 40 by omega)]; done)
  · simp [go_sem] at c4
    refine awp_skip ?_
    refine hK2 _ ?_
    clear hK2
    refine awp_seq fun K5 hK5 => ?_
    refine awp_region ?_
    iterate 2
      refine opsK_cons fun J hJ => ?_
      simp [go_sem]
      refine hJ _ _ _ ?_
      clear hJ J
    refine opsK_nil ?_
    refine hK5 _ ?_
    clear hK5
    refine awp_ret ?_
    refine finWQ_of [] ?_
    first | (simp [go_sem, Try.f14]; done) | (simp [go_sem, Try.f14, List.take_of_length_le (show os.length ≤ 40 by omega)]; done)

end Go.Proofs.Ytiifcalgolkpiaa.AE
