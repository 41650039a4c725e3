/-
  Are lists alike: contracts. Conditions: none; every contract names its own.
-/
import Derived.Test.YtebflegkdfhoaaaCmp
namespace Go.Proofs.Ytebflegkdfhoaaa.AE
open Go Go.Proofs Go.RowKit
set_option linter.unusedVariables false
set_option linter.unusedSimpArgs false
set_option maxRecDepth 100000
set_option maxHeartbeats 4000000
structure eqOrdX where
  L : List Ord
  L' : AV
  M : List Ord
  M' : AV
  h_L : SlA 7 cOrd L L'
  h_M : SlA 7 cOrd M M'
  hL : L.length ≤ 100000
/-- slices.Equal[[]api.Order,api.Order] -/
noncomputable def eqOrdS : HSpec := mkH (ι := eqOrdX) (fun ⟨L, L', M, M', h_L, h_M, hL⟩ => ([L', M'], [])) fun ⟨L, L', M, M', h_L, h_M, hL⟩ => ⟨.bool (decide (L = M)), [], []⟩
theorem eqOrdS_atG (L : List Ord) (L' : AV) (M : List Ord) (M' : AV) (h_L : SlA 7 cOrd L L') (h_M : SlA 7 cOrd M M') (hL : L.length ≤ 100000) : eqOrdS [L', M'] [] = some (⟨.bool (decide (L = M)), [], []⟩) :=
  mkH_at (ι := eqOrdX) (A := fun ⟨L, L', M, M', h_L, h_M, hL⟩ => ([L', M'], [])) (R := fun ⟨L, L', M, M', h_L, h_M, hL⟩ => ⟨.bool (decide (L = M)), [], []⟩) (fun i j h => by obtain ⟨L, L', M, M', h_L, h_M, hL⟩ := i; obtain ⟨L2, L'2, M2, M'2, h_L2, h_M2, hL2⟩ := j; simp [and_assoc, cBk_eq_iff, cId_eq_iff, cOrd_eq_iff, cChg_eq_iff, cEff_eq_iff, cKey_eq_iff, cReq_eq_iff, cV_eq_iff, cOp_eq_iff, cOc_eq_iff] at h; obtain ⟨rfl, rfl⟩ := h; obtain rfl := SlA.inj (fun x y h => cOrd_inj h) h_L h_L2; obtain rfl := SlA.inj (fun x y h => cOrd_inj h) h_M h_M2; rfl) ⟨L, L', M, M', h_L, h_M, hL⟩
theorem eqOrdS_at (L : List Ord) (M : List Ord) (hL : L.length ≤ 100000) : eqOrdS [(.sl 7 (rows cOrd L)), (.sl 7 (rows cOrd M))] [] = some (⟨.bool (decide (L = M)), [], []⟩) := eqOrdS_atG L _ M _ .sl .sl hL

def eqOrdI (L M pre _post _q : List Ord) : St := ⟨ofL [(0, .sl 7 (rows cOrd L)), (1, .sl 7 (rows cOrd M)), (12, .int .i64 L.length), (13, .int .i64 pre.length)], hOf []⟩

theorem eqOrd_ok : HSound Try.prog 63 eqOrdS := by
  refine sound_ofE (fn := Try.f63) rfl rfl (by kernel_rfl) fun args bx hr hS => ?_
  obtain ⟨⟨L, L', M, M', h_L, h_M, hL⟩, rfl, rfl, rfl⟩ := mkH_of hS
  clear hS
  refine ⟨_, (EnvOK.nil _), by simp [Try.f63], by simp [go_sem], fun w Mx pin => ?_⟩
  simp only [hB_at, lab_nil, lab_cons, hOf_nil, hOf_cons]
  refine awp_weak (s' := ⟨ofL [(0, (.sl 7 (rows cOrd L))), (1, (.sl 7 (rows cOrd M)))], hOf []⟩) ?_ ?_
  · cases h_L <;> cases h_M <;> exact weak_of [] (by simp [go_sem]) (by simp [go_sem]) (by simp [go_sem])
  clear h_L h_M
  refine awp_seq fun K1 hK1 => ?_
  refine awp_region ?_
  iterate 1
    refine opsK_cons fun J hJ => ?_
    simp [go_sem]
    refine hJ _ _ _ ?_
    clear hJ J
  refine opsK_nil ?_
  refine hK1 _ ?_
  clear hK1
  refine awp_seq fun K2 hK2 => ?_
  refine awp_seq fun K3 hK3 => ?_
  refine awp_region ?_
  iterate 5
    refine opsK_cons fun J hJ => ?_
    simp [go_sem]
    refine hJ _ _ _ ?_
    clear hJ J
  refine opsK_nil ?_
  refine hK3 _ ?_
  clear hK3
  refine awp_cond (t := _) rfl (fun c4 => ?_) (fun c4 => ?_)
  · simp [go_sem] at c4
    have hne : L ≠ M := fun h => c4 (by rw [h])
    refine awp_seq fun K5 hK5 => ?_
    refine awp_region ?_
    iterate 1
      refine opsK_cons fun J hJ => ?_
      simp [go_sem]
      refine hJ _ _ _ ?_
      clear hJ J
    refine opsK_nil ?_
    refine hK5 _ ?_
    clear hK5
    refine awp_ret ?_
    refine finWQ_of [] ?_
    simp [go_sem, Try.f63, hne]
  · simp [go_sem] at c4
    refine awp_skip ?_
    refine hK2 _ ?_
    clear hK2
    refine awp_seq fun K6 hK6 => ?_
    refine awp_seq fun K7 hK7 => ?_
    refine awp_region ?_
    iterate 3
      refine opsK_cons fun J hJ => ?_
      simp [go_sem]
      refine hJ _ _ _ ?_
      clear hJ J
    refine opsK_nil ?_
    refine hK7 _ ?_
    clear hK7
    refine awp_block ?_
    refine awp_loop (ι := { q : List Ord × List Ord × List Ord // q.1 ++ q.2.1 = L ∧ q.1 ++ q.2.2 = M }) (fun q => eqOrdI L M q.1.1 q.1.2.1 q.1.2.2) (fun q => q.1.2.1.length) ⟨([], L, M), rfl, rfl⟩ ?_ ?_
    · refine weak_of [] (by simp [go_sem]) ?_ ?_ <;> simp [go_sem]
    intro ⟨⟨pre, post, p2⟩, hl, hgo⟩
    simp only at hl hgo
    have hpl := len_small hl hL
    simp only [eqOrdI]
    refine awp_seq fun K8 hK8 => ?_
    refine awp_region ?_
    iterate 1
      refine opsK_cons fun J hJ => ?_
      simp [go_sem]
      refine hJ _ _ _ ?_
      clear hJ J
    refine opsK_nil ?_
    refine hK8 _ ?_
    clear hK8
    refine awp_seq fun K9 hK9 => ?_
    refine awp_cond (t := _) rfl (fun c10 => ?_) (fun c10 => ?_)
    · simp [go_sem] at c10
      obtain ⟨x, post, rfl, hx⟩ := mid_lt hl c10
      obtain ⟨y, p2, rfl, hy⟩ := mid_lt hgo (by omega)
      refine awp_skip ?_
      refine hK9 _ ?_
      clear hK9
      refine awp_seq fun K11 hK11 => ?_
      refine awp_block ?_
      refine awp_seq fun K12 hK12 => ?_
      refine awp_region ?_
      iterate 2
        refine opsK_cons fun J hJ => ?_
        simp [go_sem]
        refine hJ _ _ _ ?_
        clear hJ J
      refine opsK_nil ?_
      refine hK12 _ ?_
      clear hK12
      refine awp_seq fun K13 hK13 => ?_
      refine awp_draw ?_
      iterate 9
        refine opsK_cons fun J hJ => ?_
        simp [go_sem, hx, hy]
        refine hJ _ _ _ ?_
        clear hJ J
      refine opsK_nil ?_
      refine ⟨rfl, ?_⟩
      refine hK13 _ ?_
      clear hK13
      refine awp_cond (t := _) rfl (fun c14 => ?_) (fun c14 => ?_)
      · skip
        refine awp_seq fun K15 hK15 => ?_
        refine awp_region ?_
        iterate 1
          refine opsK_cons fun J hJ => ?_
          simp [go_sem]
          refine hJ _ _ _ ?_
          clear hJ J
        refine opsK_nil ?_
        refine hK15 _ ?_
        clear hK15
        refine awp_ret ?_
        have hne : L ≠ M := by
          rintro rfl
          rw [hx] at hy
          cases hy
          simp at c14
        refine finWQ_of [] ?_
        simp [go_sem, Try.f63, hne]
      · skip
        refine awp_skip ?_
        refine hK11 _ ?_
        clear hK11
        refine awp_region ?_
        iterate 2
          refine opsK_cons fun J hJ => ?_
          simp [go_sem]
          refine hJ _ _ _ ?_
          clear hJ J
        refine opsK_nil ?_
        obtain rfl : x = y := by simpa using c14
        refine ⟨⟨(pre ++ [x], post, p2), by simp [← hl], by rw [← hgo]; simp⟩, ?_, by simp⟩
        refine weak_of [] (by simp [go_sem]) ?_ ?_ <;> simp [go_sem, wrap_nat hpl]
    · simp [go_sem] at c10
      obtain ⟨rfl, rfl⟩ := mid_nil hl c10
      obtain rfl : p2 = [] := by have := congrArg List.length hgo; simp at this; exact List.eq_nil_of_length_eq_zero (by omega)
      simp at hgo
      refine awp_exit ?_
      simp only [go_sem]
      refine hK6 _ ?_
      clear hK6
      refine awp_seq fun K16 hK16 => ?_
      refine awp_region ?_
      iterate 1
        refine opsK_cons fun J hJ => ?_
        simp [go_sem]
        refine hJ _ _ _ ?_
        clear hJ J
      refine opsK_nil ?_
      refine hK16 _ ?_
      clear hK16
      refine awp_ret ?_
      refine finWQ_of [] ?_
      simp [go_sem, Try.f63, hgo]

structure plChgX where
  L : List Chg
  L' : AV
  M : List Chg
  M' : AV
  h_L : SlA 9 cChg L L'
  h_M : SlA 9 cChg M M'
  hL : L.length ≤ 100000
/-- countermandplain.Changes -/
noncomputable def plChgS : HSpec := mkH (ι := plChgX) (fun ⟨L, L', M, M', h_L, h_M, hL⟩ => ([L', M'], [])) fun ⟨L, L', M, M', h_L, h_M, hL⟩ => ⟨.bool (decide (L = M)), [], []⟩
theorem plChgS_atG (L : List Chg) (L' : AV) (M : List Chg) (M' : AV) (h_L : SlA 9 cChg L L') (h_M : SlA 9 cChg M M') (hL : L.length ≤ 100000) : plChgS [L', M'] [] = some (⟨.bool (decide (L = M)), [], []⟩) :=
  mkH_at (ι := plChgX) (A := fun ⟨L, L', M, M', h_L, h_M, hL⟩ => ([L', M'], [])) (R := fun ⟨L, L', M, M', h_L, h_M, hL⟩ => ⟨.bool (decide (L = M)), [], []⟩) (fun i j h => by obtain ⟨L, L', M, M', h_L, h_M, hL⟩ := i; obtain ⟨L2, L'2, M2, M'2, h_L2, h_M2, hL2⟩ := j; simp [and_assoc, cBk_eq_iff, cId_eq_iff, cOrd_eq_iff, cChg_eq_iff, cEff_eq_iff, cKey_eq_iff, cReq_eq_iff, cV_eq_iff, cOp_eq_iff, cOc_eq_iff] at h; obtain ⟨rfl, rfl⟩ := h; obtain rfl := SlA.inj (fun x y h => cChg_inj h) h_L h_L2; obtain rfl := SlA.inj (fun x y h => cChg_inj h) h_M h_M2; rfl) ⟨L, L', M, M', h_L, h_M, hL⟩
theorem plChgS_at (L : List Chg) (M : List Chg) (hL : L.length ≤ 100000) : plChgS [(.sl 9 (rows cChg L)), (.sl 9 (rows cChg M))] [] = some (⟨.bool (decide (L = M)), [], []⟩) := plChgS_atG L _ M _ .sl .sl hL

def plChgI (L M pre _post _q : List Chg) : St := ⟨ofL [(0, .sl 9 (rows cChg L)), (1, .sl 9 (rows cChg M)), (5, .int .i64 pre.length)], hOf []⟩

theorem plChg_ok : HSound Try.prog 21 plChgS := by
  refine sound_ofE (fn := Try.f21) rfl rfl (by kernel_rfl) fun args bx hr hS => ?_
  obtain ⟨⟨L, L', M, M', h_L, h_M, hL⟩, rfl, rfl, rfl⟩ := mkH_of hS
  clear hS
  refine ⟨_, (EnvOK.nil _), by simp [Try.f21], by simp [go_sem], fun w Mx pin => ?_⟩
  simp only [hB_at, lab_nil, lab_cons, hOf_nil, hOf_cons]
  refine awp_weak (s' := ⟨ofL [(0, (.sl 9 (rows cChg L))), (1, (.sl 9 (rows cChg M)))], hOf []⟩) ?_ ?_
  · cases h_L <;> cases h_M <;> exact weak_of [] (by simp [go_sem]) (by simp [go_sem]) (by simp [go_sem])
  clear h_L h_M
  refine awp_seq fun K1 hK1 => ?_
  refine awp_region ?_
  iterate 1
    refine opsK_cons fun J hJ => ?_
    simp [go_sem]
    refine hJ _ _ _ ?_
    clear hJ J
  refine opsK_nil ?_
  refine hK1 _ ?_
  clear hK1
  refine awp_seq fun K2 hK2 => ?_
  refine awp_seq fun K3 hK3 => ?_
  refine awp_region ?_
  iterate 5
    refine opsK_cons fun J hJ => ?_
    simp [go_sem]
    refine hJ _ _ _ ?_
    clear hJ J
  refine opsK_nil ?_
  refine hK3 _ ?_
  clear hK3
  refine awp_cond (t := _) rfl (fun c4 => ?_) (fun c4 => ?_)
  · simp [go_sem] at c4
    have hne : L ≠ M := fun h => c4 (by rw [h])
    refine awp_seq fun K5 hK5 => ?_
    refine awp_region ?_
    iterate 1
      refine opsK_cons fun J hJ => ?_
      simp [go_sem]
      refine hJ _ _ _ ?_
      clear hJ J
    refine opsK_nil ?_
    refine hK5 _ ?_
    clear hK5
    refine awp_ret ?_
    refine finWQ_of [] ?_
    simp [go_sem, Try.f21, hne]
  · simp [go_sem] at c4
    refine awp_skip ?_
    refine hK2 _ ?_
    clear hK2
    refine awp_seq fun K6 hK6 => ?_
    refine awp_seq fun K7 hK7 => ?_
    refine awp_region ?_
    iterate 1
      refine opsK_cons fun J hJ => ?_
      simp [go_sem]
      refine hJ _ _ _ ?_
      clear hJ J
    refine opsK_nil ?_
    refine hK7 _ ?_
    clear hK7
    refine awp_block ?_
    refine awp_loop (ι := { q : List Chg × List Chg × List Chg // q.1 ++ q.2.1 = L ∧ q.1 ++ q.2.2 = M }) (fun q => plChgI L M q.1.1 q.1.2.1 q.1.2.2) (fun q => q.1.2.1.length) ⟨([], L, M), rfl, rfl⟩ ?_ ?_
    · refine weak_of [] (by simp [go_sem]) ?_ ?_ <;> simp [go_sem]
    intro ⟨⟨pre, post, p2⟩, hl, hgo⟩
    simp only at hl hgo
    have hpl := len_small hl hL
    simp only [plChgI]
    refine awp_seq fun K8 hK8 => ?_
    refine awp_seq fun K9 hK9 => ?_
    refine awp_region ?_
    iterate 4
      refine opsK_cons fun J hJ => ?_
      simp [go_sem]
      refine hJ _ _ _ ?_
      clear hJ J
    refine opsK_nil ?_
    refine hK9 _ ?_
    clear hK9
    refine awp_cond (t := _) rfl (fun c10 => ?_) (fun c10 => ?_)
    · simp [go_sem] at c10
      obtain ⟨x, post, rfl, hx⟩ := mid_lt hl c10
      obtain ⟨y, p2, rfl, hy⟩ := mid_lt hgo (by omega)
      refine awp_skip ?_
      refine hK8 _ ?_
      clear hK8
      refine awp_seq fun K11 hK11 => ?_
      refine awp_block ?_
      refine awp_seq fun K12 hK12 => ?_
      refine awp_draw ?_
      iterate 9
        refine opsK_cons fun J hJ => ?_
        simp [go_sem, hx, hy]
        refine hJ _ _ _ ?_
        clear hJ J
      refine opsK_nil ?_
      refine ⟨rfl, ?_⟩
      refine hK12 _ ?_
      clear hK12
      refine awp_cond (t := _) rfl (fun c13 => ?_) (fun c13 => ?_)
      · skip
        refine awp_seq fun K14 hK14 => ?_
        refine awp_region ?_
        iterate 1
          refine opsK_cons fun J hJ => ?_
          simp [go_sem]
          refine hJ _ _ _ ?_
          clear hJ J
        refine opsK_nil ?_
        refine hK14 _ ?_
        clear hK14
        refine awp_ret ?_
        have hne : L ≠ M := by
          rintro rfl
          rw [hx] at hy
          cases hy
          simp at c13
        refine finWQ_of [] ?_
        simp [go_sem, Try.f21, hne]
      · skip
        refine awp_skip ?_
        refine hK11 _ ?_
        clear hK11
        refine awp_region ?_
        iterate 3
          refine opsK_cons fun J hJ => ?_
          simp [go_sem]
          refine hJ _ _ _ ?_
          clear hJ J
        refine opsK_nil ?_
        obtain rfl : x = y := by simpa using c13
        refine ⟨⟨(pre ++ [x], post, p2), by simp [← hl], by rw [← hgo]; simp⟩, ?_, by simp⟩
        refine weak_of [] (by simp [go_sem]) ?_ ?_ <;> simp [go_sem, wrap_nat hpl]
    · simp [go_sem] at c10
      obtain ⟨rfl, rfl⟩ := mid_nil hl c10
      obtain rfl : p2 = [] := by have := congrArg List.length hgo; simp at this; exact List.eq_nil_of_length_eq_zero (by omega)
      simp at hgo
      refine awp_exit ?_
      simp only [go_sem]
      refine hK6 _ ?_
      clear hK6
      refine awp_seq fun K15 hK15 => ?_
      refine awp_region ?_
      iterate 1
        refine opsK_cons fun J hJ => ?_
        simp [go_sem]
        refine hJ _ _ _ ?_
        clear hJ J
      refine opsK_nil ?_
      refine hK15 _ ?_
      clear hK15
      refine awp_ret ?_
      refine finWQ_of [] ?_
      simp [go_sem, Try.f21, hgo]

end Go.Proofs.Ytebflegkdfhoaaa.AE
