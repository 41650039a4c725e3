/-
  BookingDoes. Conditions: none; every contract names its own.
-/
import Derived.Test.YtiifcalgolkpiaaORs6
import Derived.Test.YtiifcalgolkpiaaPg
set_option linter.constructorNameAsVariable false
namespace Go.Proofs.Ytiifcalgolkpiaa.AE
open Go Go.Proofs Go.RowKit
set_option linter.unusedVariables false
set_option linter.unusedSimpArgs false
set_option maxRecDepth 100000
set_option maxHeartbeats 4000000
theorem sameB_refl (b : Bk) (os : List Ord) : sameB b os b os = true := by simp [sameB]

structure bookingDoesX where
  b : Bk
  os : List Ord
  os' : AV
  c : Chg
  h_os : SlA 7 cOrd os os'
/-- bookingDoes -/
noncomputable def bookingDoesS : HSpec := mkH (ι := bookingDoesX) (fun ⟨b, os, os', c, h_os⟩ => ([.agg (cBk b os'), .agg (cChg c)], [])) fun ⟨b, os, os', c, h_os⟩ => ⟨.bool true, [], []⟩
theorem bookingDoesS_atG (b : Bk) (os : List Ord) (os' : AV) (c : Chg) (h_os : SlA 7 cOrd os os') : bookingDoesS [.agg (cBk b os'), .agg (cChg c)] [] = some (⟨.bool true, [], []⟩) :=
  mkH_at (ι := bookingDoesX) (A := fun ⟨b, os, os', c, h_os⟩ => ([.agg (cBk b os'), .agg (cChg c)], [])) (R := fun ⟨b, os, os', c, h_os⟩ => ⟨.bool true, [], []⟩) (fun i j h => by obtain ⟨b, os, os', c, h_os⟩ := i; obtain ⟨b2, os2, os'2, c2, h_os2⟩ := j; simp [and_assoc, cBk_eq_iff, cId_eq_iff, cOrd_eq_iff, cChg_eq_iff, cEff_eq_iff, cKey_eq_iff, cReq_eq_iff, cV_eq_iff, cOp_eq_iff, cOc_eq_iff] at h; obtain ⟨rfl, rfl, rfl⟩ := h; obtain rfl := SlA.inj (fun x y h => cOrd_inj h) h_os h_os2; rfl) ⟨b, os, os', c, h_os⟩
theorem bookingDoesS_at (b : Bk) (os : List Ord) (c : Chg) : bookingDoesS [.agg (cBk b (.sl 7 (rows cOrd os))), .agg (cChg c)] [] = some (⟨.bool true, [], []⟩) := bookingDoesS_atG b os _ c .sl

theorem bookingDoes_ok : HSound Try.prog 6 bookingDoesS := by
  refine sound_ofE (fn := Try.f6) rfl rfl (by kernel_rfl) fun args bx hr hS => ?_
  obtain ⟨⟨b, os, os', c, h_os⟩, rfl, rfl, rfl⟩ := mkH_of hS
  clear hS
  refine ⟨_, (EnvOK.consH (g := 13) (by kernel_rfl) alive16_ok (EnvOK.consV (g := 14) (by kernel_rfl) few16_ok (EnvOK.consV (g := 15) (by kernel_rfl) fair16_ok (EnvOK.consH (g := 16) (by kernel_rfl) do16_ok (EnvOK.consH (g := 21) (by kernel_rfl) rdo_ok (EnvOK.consV (g := 22) (by kernel_rfl) plBook_ok (EnvOK.consV (g := 23) (by kernel_rfl) plOc_ok (EnvOK.consV (g := 24) (by kernel_rfl) may16_ok (EnvOK.nil _))))))))), by simp [Try.f6], by simp [go_sem], fun w Mx pin => ?_⟩
  simp only [hB_at, lab_nil, lab_cons, hOf_nil, hOf_cons]
  refine awp_weak (s' := ⟨ofL [(0, .agg (cBk b (.sl 7 (rows cOrd os)))), (1, .agg (cChg c))], hOf []⟩) ?_ ?_
  · cases h_os <;> exact weak_of [] (by simp [go_sem]) (by simp [go_sem]) (by simp [go_sem])
  clear h_os
  obtain ⟨qs, hqs⟩ : ∃ qs, qs = os.take 40 := ⟨_, rfl⟩
  have hlen : qs.length ≤ 40 := by rw [hqs]; simp; omega
  refine awp_seq fun K1 hK1 => ?_
  refine awp_region ?_
  iterate 3
    refine opsK_cons fun J hJ => ?_
    simp [go_sem]
    refine hJ _ _ _ ?_
    clear hJ J
  refine opsK_nil ?_
  refine hK1 _ ?_
  clear hK1
  refine awp_seq fun K2 hK2 => ?_
  refine awp_seq fun K3 hK3 => ?_
  refine awp_region ?_
  iterate 2
    refine opsK_cons fun J hJ => ?_
    simp [go_sem, alive16S_at]
    refine hJ _ _ _ ?_
    clear hJ J
  refine opsK_nil ?_
  refine hK3 _ ?_
  clear hK3
  refine awp_condF rfl ?_
  refine awp_skip ?_
  refine hK2 _ ?_
  clear hK2
  refine awp_seq fun K6 hK6 => ?_
  refine awp_region ?_
  iterate 3
    refine opsK_cons fun J hJ => ?_
    simp [go_sem, few16S_at b os, ← hqs]
    refine hJ _ _ _ ?_
    clear hJ J
  refine opsK_nil ?_
  refine hK6 _ ?_
  clear hK6
  refine awp_seq fun K7 hK7 => ?_
  refine awp_seq fun K8 hK8 => ?_
  cases hfr : fairR b qs
  · skip
    refine awp_region ?_
    iterate 3
      refine opsK_cons fun J hJ => ?_
      simp [go_sem, fair16S_at b qs (show qs.length ≤ 100000 by omega), hfr]
      refine hJ _ _ _ ?_
      clear hJ J
    refine opsK_nil ?_
    refine hK8 _ ?_
    clear hK8
    refine awp_condT rfl ?_
    refine awp_seq fun K10 hK10 => ?_
    refine awp_region ?_
    iterate 1
      refine opsK_cons fun J hJ => ?_
      simp [go_sem]
      refine hJ _ _ _ ?_
      clear hJ J
    refine opsK_nil ?_
    refine hK10 _ ?_
    clear hK10
    refine awp_ret ?_
    refine finWQ_of [] ?_
    simp [go_sem, Try.f6]
  · skip
    obtain ⟨hF, hO⟩ := fairR_of hfr
    have hB : FairB b ∧ FairO qs ∧ qs.length ≤ 40000 := ⟨hF, hO, by omega⟩
    refine awp_region ?_
    iterate 3
      refine opsK_cons fun J hJ => ?_
      simp [go_sem, fair16S_at b qs (show qs.length ≤ 100000 by omega), hfr]
      refine hJ _ _ _ ?_
      clear hJ J
    refine opsK_nil ?_
    refine hK8 _ ?_
    clear hK8
    refine awp_condF rfl ?_
    refine awp_skip ?_
    refine hK7 _ ?_
    clear hK7
    refine awp_seq fun K11 hK11 => ?_
    refine awp_region ?_
    iterate 3
      refine opsK_cons fun J hJ => ?_
      simp [go_sem]
      refine hJ _ _ _ ?_
      clear hJ J
    refine opsK_nil ?_
    refine hK11 _ ?_
    clear hK11
    refine awp_seq fun K12 hK12 => ?_
    refine awp_region ?_
    iterate 6
      refine opsK_cons fun J hJ => ?_
      simp [go_sem, show qs.length * 56 ≤ 140737488355328 by omega, show qs.length ≤ maxLen by (simp only [maxLen]; omega)]
      refine hJ _ _ _ ?_
      clear hJ J
    refine opsK_nil ?_
    refine hK12 _ ?_
    clear hK12
    refine awp_seq fun K13 hK13 => ?_
    rcases hd : doW b qs c with e | ⟨d, ps, l, r⟩
    · skip
      have hm : mayW b qs c = e := by unfold mayW; rw [hd]
      refine awp_weak (s' := ⟨ofL [(2, .ref (0, 32) 0), (3, .ref (0, 48) 0), (5, .ref (0, 80) 0)], hOf [((0, 32), .obj (cBk b (.sl 7 (rows cOrd qs)))), ((0, 48), .obj (cChg c)), ((0, 80), .obj (cBk b (.sl 7 (rows cOrd qs))))]⟩) ?_ ?_
      · refine weak_of [((0, 32), some (0, 32)), ((0, 48), some (0, 48)), ((0, 80), some (0, 80))] (by simp [go_sem]) ?_ ?_ <;> simp [go_sem, dropped]
      refine awp_region ?_
      iterate 10
        refine opsK_cons fun J hJ => ?_
        simp [go_sem, do16S_at b qs c hB, doH_err hd]
        refine hJ _ _ _ ?_
        clear hJ J
      refine opsK_nil ?_
      refine hK13 _ ?_
      clear hK13
      refine awp_seq fun K14 hK14 => ?_
      refine awp_region ?_
      iterate 10
        refine opsK_cons fun J hJ => ?_
        simp [go_sem, rdoS_at b qs c hB, doH_err hd]
        refine hJ _ _ _ ?_
        clear hJ J
      refine opsK_nil ?_
      refine hK14 _ ?_
      clear hK14
      refine awp_seq fun K15 hK15 => ?_
      refine awp_draw ?_
      iterate 22
        refine opsK_cons fun J hJ => ?_
        simp [go_sem, plBookS_at b qs b qs (show qs.length ≤ 100000 by omega), sameB_refl, ↓plOcS_at ⟨e, []⟩ ⟨e, []⟩ (by simp), may16S_at b qs c hB, hm]
        refine hJ _ _ _ ?_
        clear hJ J
      refine opsK_nil ?_
      refine ⟨rfl, ?_⟩
      refine hK15 _ ?_
      clear hK15
      refine awp_ret ?_
      refine finWQ_of [] ?_
      simp [go_sem, Try.f6]
    · skip
      have hm : mayW b qs c = 0 := by unfold mayW; rw [hd]
      obtain ⟨g1, g2⟩ := doW_lens hF hO hd
      refine awp_weak (s' := ⟨ofL [(2, .ref (0, 32) 0), (3, .ref (0, 48) 0), (5, .ref (0, 80) 0)], hOf [((0, 32), .obj (cBk b (.sl 7 (rows cOrd qs)))), ((0, 48), .obj (cChg c)), ((0, 80), .obj (cBk b (.sl 7 (rows cOrd qs))))]⟩) ?_ ?_
      · refine weak_of [((0, 32), some (0, 32)), ((0, 48), some (0, 48)), ((0, 80), some (0, 80))] (by simp [go_sem]) ?_ ?_ <;> simp [go_sem, dropped]
      refine awp_region ?_
      iterate 10
        refine opsK_cons fun J hJ => ?_
        simp [go_sem, do16S_at b qs c hB, doH_ok hd]
        refine hJ _ _ _ ?_
        clear hJ J
      refine opsK_nil ?_
      refine hK13 _ ?_
      clear hK13
      refine awp_seq fun K14 hK14 => ?_
      refine awp_region ?_
      iterate 10
        refine opsK_cons fun J hJ => ?_
        simp [go_sem, rdoS_at b qs c hB, doH_ok hd]
        refine hJ _ _ _ ?_
        clear hJ J
      refine opsK_nil ?_
      refine hK14 _ ?_
      clear hK14
      refine awp_seq fun K15 hK15 => ?_
      refine awp_draw ?_
      iterate 22
        refine opsK_cons fun J hJ => ?_
        simp [go_sem, plBookS_at b qs b qs (show qs.length ≤ 100000 by omega), plBookS_at d ps d ps (show ps.length ≤ 100000 by omega), sameB_refl, ↓plOcS_at ⟨0, l⟩ ⟨0, l⟩ (show l.length ≤ 100000 by omega), may16S_at b qs c hB, hm]
        refine hJ _ _ _ ?_
        clear hJ J
      refine opsK_nil ?_
      refine ⟨rfl, ?_⟩
      refine hK15 _ ?_
      clear hK15
      refine awp_ret ?_
      refine finWQ_of [] ?_
      simp [go_sem, Try.f6]

theorem BookingDoes_walk (w : World) (l0 : List Int) (a0 : Option Addr) (c0 : Nat) (L0 : List (List Int)) (g0 : l0.length = 24) (_ : ∀ x ∈ l0, I64 x) (h0 : L0.length ≤ c0) (m0 : c0 ≤ maxLen) (s0 : SlK w.heap.size 7 w a0 L0) (l1 : List Int) (g1 : l1.length = 9) (_ : ∀ x ∈ l1, I64 x) :
    Calls Try.prog 6 #[.agg (bk l0 (.slice a0 L0.length c0)), .agg (A l1)] w fun e w' => e = .returned (.bool true) ∧ Below w.heap.size w w' := by
  obtain ⟨b0, os0, e0, r0⟩ := book_rep g0 h0 m0 s0
  obtain ⟨x1, r1⟩ := agg_rep ex_Chg w g1
  refine true_walk bookingDoes_ok (bookingDoesS_at b0 os0 x1) w rfl fun i v hi => ?_
  match i, hi with
  | 0, hi => cases hi; exact r0
  | 1, hi => cases hi; exact r1

end Go.Proofs.Ytiifcalgolkpiaa.AE
