/-
  Law 18: TentFits. Conditions: none; every contract names its own.
-/
import Derived.Test.YtebflegkdfhoaaaTe3
import Derived.Test.YtebflegkdfhoaaaFin
namespace Go.Proofs.Ytebflegkdfhoaaa.AE
open Go Go.Proofs Go.RowKit
set_option linter.unusedVariables false
set_option linter.unusedSimpArgs false
set_option maxRecDepth 100000
set_option maxHeartbeats 4000000
structure numInX where
  n : Int
  lo : Int
  hi : Int
/-- num.In -/
noncomputable def numInS : HSpec := mkH (ι := numInX) (fun ⟨n, lo, hi⟩ => ([.int .i64 n, .int .i64 lo, .int .i64 hi], [])) fun ⟨n, lo, hi⟩ => ⟨.bool (decide (lo ≤ n ∧ n ≤ hi)), [], []⟩
theorem numInS_atG (n : Int) (lo : Int) (hi : Int) : numInS [.int .i64 n, .int .i64 lo, .int .i64 hi] [] = some (⟨.bool (decide (lo ≤ n ∧ n ≤ hi)), [], []⟩) :=
  mkH_at (ι := numInX) (A := fun ⟨n, lo, hi⟩ => ([.int .i64 n, .int .i64 lo, .int .i64 hi], [])) (R := fun ⟨n, lo, hi⟩ => ⟨.bool (decide (lo ≤ n ∧ n ≤ hi)), [], []⟩) (fun i j h => by obtain ⟨n, lo, hi⟩ := i; obtain ⟨n2, lo2, hi2⟩ := j; simp [and_assoc, cBk_eq_iff, cId_eq_iff, cOrd_eq_iff, cChg_eq_iff, cEff_eq_iff, cKey_eq_iff, cReq_eq_iff, cV_eq_iff, cOp_eq_iff, cOc_eq_iff, rows_iff_Chg] at h; obtain ⟨rfl, rfl, rfl⟩ := h; rfl) ⟨n, lo, hi⟩
theorem numInS_at (n : Int) (lo : Int) (hi : Int) : numInS [.int .i64 n, .int .i64 lo, .int .i64 hi] [] = some (⟨.bool (decide (lo ≤ n ∧ n ≤ hi)), [], []⟩) := numInS_atG n lo hi

theorem numIn_ok : HSound Try.prog 52 numInS := by
  refine sound_ofE (fn := Try.f52) rfl rfl (by kernel_rfl) fun args bx hr hS => ?_
  obtain ⟨⟨n, lo, hi⟩, rfl, rfl, rfl⟩ := mkH_of hS
  clear hS
  refine ⟨_, (EnvOK.nil _), by simp [Try.f52], by simp [go_sem], fun w Mx pin => ?_⟩
  simp only [hB_at, lab_nil, lab_cons, hOf_nil, hOf_cons]
  refine awp_seq fun K1 hK1 => ?_
  refine awp_region ?_
  iterate 1
    refine opsK_cons fun J hJ => ?_
    simp [go_sem]
    refine hJ _ _ _ ?_
    clear hJ J
  refine opsK_nil ?_
  refine hK1 _ ?_
  clear hK1
  refine awp_seq fun K2 hK2 => ?_
  by_cases h1 : lo ≤ n
  all_goals
    refine awp_region ?_
    iterate 9
      refine opsK_cons fun J hJ => ?_
      simp [go_sem, h1]
      refine hJ _ _ _ ?_
      clear hJ J
    refine opsK_nil ?_
    refine hK2 _ ?_
    clear hK2
    refine awp_ret ?_
    refine finWQ_of [] ?_
    simp [go_sem, Try.f52, h1]

@[go_sem] theorem cV_take4 (v : Vn 4) : (cV v).take 4 = cV v := cV_take_all v
def mayI (a : Id) : Bool := decide (0 ≤ a.rep ∧ a.rep < 4 ∧ 1 ≤ a.seq ∧ a.seq ≤ 65535)
theorem mayI_rng {a : Id} (h : mayI a = true) : 0 ≤ a.rep ∧ a.rep < 4 ∧ a.rep.toNat < 4 ∧ 1 ≤ a.seq := by
  simp only [mayI, decide_eq_true_eq] at h
  omega
/-- What comes next of a replica. -/
def nextV (v : Vn 4) (r : Int) : Id := if 0 ≤ r ∧ r < 4 ∧ v.at r.toNat < 65535 then ⟨r, IntKind.i64.wrap (v.at r.toNat + 1)⟩ else zId
def fitsB (v u : Vn 4) (c : Chg) : Bool := mayI c.id && (decide (nextV v c.id.rep = c.id) && (decide (1 ≤ c.time ∧ c.time ≤ 1073741824) && decide (u.at c.id.rep.toNat < c.time)))
theorem fits_eq {v u : Vn 4} {c : Chg} (h : mayI c.id = true) : fitsB v u c = (decide (v.at c.id.rep.toNat < 65535) && ((c.id.seq == IntKind.i64.wrap (v.at c.id.rep.toNat + 1)) && (decide (1 ≤ c.time) && (decide (c.time ≤ 1073741824) && decide (u.at c.id.rep.toNat < c.time))))) := by
  obtain ⟨h0, h4, h5, h6⟩ := mayI_rng h
  have hz : zId ≠ c.id := by
    intro e
    rw [← e] at h6
    simp [zId] at h6
  have hn : decide (nextV v c.id.rep = c.id) = (decide (v.at c.id.rep.toNat < 65535) && (c.id.seq == IntKind.i64.wrap (v.at c.id.rep.toNat + 1))) := by
    unfold nextV
    by_cases h7 : v.at c.id.rep.toNat < 65535
    · rw [if_pos ⟨h0, h4, h7⟩]
      have hh : (⟨c.id.rep, IntKind.i64.wrap (v.at c.id.rep.toNat + 1)⟩ : Id) = c.id ↔ c.id.seq = IntKind.i64.wrap (v.at c.id.rep.toNat + 1) := ⟨fun e => (congrArg Id.seq e).symm, fun e => by rw [← e]⟩
      have hd : decide ((⟨c.id.rep, IntKind.i64.wrap (v.at c.id.rep.toNat + 1)⟩ : Id) = c.id) = decide (c.id.seq = IntKind.i64.wrap (v.at c.id.rep.toNat + 1)) := decide_eq_decide.2 hh
      rw [hd, Bool.eq_iff_iff]
      simp [h7]
    · rw [if_neg (by omega)]
      simp [h7, hz]
  have ht : decide (1 ≤ c.time ∧ c.time ≤ 1073741824) = (decide (1 ≤ c.time) && decide (c.time ≤ 1073741824)) := by rw [Bool.eq_iff_iff]; simp
  simp only [fitsB, h, hn, ht, Bool.true_and, Bool.and_assoc]

structure mayIX where
  a : Id
/-- ident.May -/
noncomputable def mayIS : HSpec := mkH (ι := mayIX) (fun ⟨a⟩ => ([.agg (cId a)], [])) fun ⟨a⟩ => ⟨.bool (mayI a), [], []⟩
theorem mayIS_atG (a : Id) : mayIS [.agg (cId a)] [] = some (⟨.bool (mayI a), [], []⟩) :=
  mkH_at (ι := mayIX) (A := fun ⟨a⟩ => ([.agg (cId a)], [])) (R := fun ⟨a⟩ => ⟨.bool (mayI a), [], []⟩) (fun i j h => by obtain ⟨a⟩ := i; obtain ⟨a2⟩ := j; simp [and_assoc, cBk_eq_iff, cId_eq_iff, cOrd_eq_iff, cChg_eq_iff, cEff_eq_iff, cKey_eq_iff, cReq_eq_iff, cV_eq_iff, cOp_eq_iff, cOc_eq_iff, rows_iff_Chg] at h; obtain rfl := h; rfl) ⟨a⟩
theorem mayIS_at (a : Id) : mayIS [.agg (cId a)] [] = some (⟨.bool (mayI a), [], []⟩) := mayIS_atG a

theorem mayI_ok : HSound Try.prog 50 mayIS := by
  refine sound_ofE (fn := Try.f50) rfl rfl (by kernel_rfl) fun args bx hr hS => ?_
  obtain ⟨⟨a⟩, rfl, rfl, rfl⟩ := mkH_of hS
  clear hS
  refine ⟨_, (EnvOK.consV (g := 52) (by kernel_rfl) numIn_ok (EnvOK.nil _)), by simp [Try.f50], by simp [go_sem], fun w Mx pin => ?_⟩
  simp only [hB_at, lab_nil, lab_cons, hOf_nil, hOf_cons]
  refine awp_seq fun K1 hK1 => ?_
  refine awp_region ?_
  iterate 2
    refine opsK_cons fun J hJ => ?_
    simp [go_sem]
    refine hJ _ _ _ ?_
    clear hJ J
  refine opsK_nil ?_
  refine hK1 _ ?_
  clear hK1
  refine awp_seq fun K2 hK2 => ?_
  by_cases h1 : 0 ≤ a.rep
  all_goals by_cases h2 : a.rep < 4
  all_goals
    refine awp_region ?_
    iterate 14
      refine opsK_cons fun J hJ => ?_
      simp [go_sem, numInS_at, h1, h2]
      refine hJ _ _ _ ?_
      clear hJ J
    refine opsK_nil ?_
    refine hK2 _ ?_
    clear hK2
    refine awp_ret ?_
    refine finWQ_of [] ?_
    simp [go_sem, Try.f50, mayI, h1, h2]

structure mayRX where
  a : Id
/-- countermandref06.May -/
noncomputable def mayRS : HSpec := mkH (ι := mayRX) (fun ⟨a⟩ => ([.agg (cId a)], [])) fun ⟨a⟩ => ⟨.bool (mayI a), [], []⟩
theorem mayRS_atG (a : Id) : mayRS [.agg (cId a)] [] = some (⟨.bool (mayI a), [], []⟩) :=
  mkH_at (ι := mayRX) (A := fun ⟨a⟩ => ([.agg (cId a)], [])) (R := fun ⟨a⟩ => ⟨.bool (mayI a), [], []⟩) (fun i j h => by obtain ⟨a⟩ := i; obtain ⟨a2⟩ := j; simp [and_assoc, cBk_eq_iff, cId_eq_iff, cOrd_eq_iff, cChg_eq_iff, cEff_eq_iff, cKey_eq_iff, cReq_eq_iff, cV_eq_iff, cOp_eq_iff, cOc_eq_iff, rows_iff_Chg] at h; obtain rfl := h; rfl) ⟨a⟩
theorem mayRS_at (a : Id) : mayRS [.agg (cId a)] [] = some (⟨.bool (mayI a), [], []⟩) := mayRS_atG a

theorem mayR_ok : HSound Try.prog 13 mayRS := by
  refine sound_ofE (fn := Try.f13) rfl rfl (by kernel_rfl) fun args bx hr hS => ?_
  obtain ⟨⟨a⟩, rfl, rfl, rfl⟩ := mkH_of hS
  clear hS
  refine ⟨_, (EnvOK.nil _), by simp [Try.f13], by simp [go_sem], fun w Mx pin => ?_⟩
  simp only [hB_at, lab_nil, lab_cons, hOf_nil, hOf_cons]
  refine awp_seq fun K1 hK1 => ?_
  refine awp_region ?_
  iterate 2
    refine opsK_cons fun J hJ => ?_
    simp [go_sem]
    refine hJ _ _ _ ?_
    clear hJ J
  refine opsK_nil ?_
  refine hK1 _ ?_
  clear hK1
  refine awp_seq fun K2 hK2 => ?_
  by_cases h1 : 0 ≤ a.rep
  all_goals by_cases h2 : a.rep ≤ 3
  all_goals by_cases h3 : 1 ≤ a.seq
  all_goals
    refine awp_region ?_
    iterate 19
      refine opsK_cons fun J hJ => ?_
      simp [go_sem, h1, h2, h3]
      refine hJ _ _ _ ?_
      clear hJ J
    refine opsK_nil ?_
    refine hK2 _ ?_
    clear hK2
    refine awp_ret ?_
    have e : (a.rep < 4) = (a.rep ≤ 3) := propext ⟨fun h => by omega, fun h => by omega⟩
    refine finWQ_of [] ?_
    simp [go_sem, Try.f13, mayI, e, h1, h2, h3]

structure thereX where
  r : Int
/-- vector.there -/
noncomputable def thereS : HSpec := mkH (ι := thereX) (fun ⟨r⟩ => ([.int .i64 r], [])) fun ⟨r⟩ => ⟨.bool (decide (0 ≤ r ∧ r < 4)), [], []⟩
theorem thereS_atG (r : Int) : thereS [.int .i64 r] [] = some (⟨.bool (decide (0 ≤ r ∧ r < 4)), [], []⟩) :=
  mkH_at (ι := thereX) (A := fun ⟨r⟩ => ([.int .i64 r], [])) (R := fun ⟨r⟩ => ⟨.bool (decide (0 ≤ r ∧ r < 4)), [], []⟩) (fun i j h => by obtain ⟨r⟩ := i; obtain ⟨r2⟩ := j; simp [and_assoc, cBk_eq_iff, cId_eq_iff, cOrd_eq_iff, cChg_eq_iff, cEff_eq_iff, cKey_eq_iff, cReq_eq_iff, cV_eq_iff, cOp_eq_iff, cOc_eq_iff, rows_iff_Chg] at h; obtain rfl := h; rfl) ⟨r⟩
theorem thereS_at (r : Int) : thereS [.int .i64 r] [] = some (⟨.bool (decide (0 ≤ r ∧ r < 4)), [], []⟩) := thereS_atG r

theorem there_ok : HSound Try.prog 70 thereS := by
  refine sound_ofE (fn := Try.f70) rfl rfl (by kernel_rfl) fun args bx hr hS => ?_
  obtain ⟨⟨r⟩, rfl, rfl, rfl⟩ := mkH_of hS
  clear hS
  refine ⟨_, (EnvOK.nil _), by simp [Try.f70], by simp [go_sem], fun w Mx pin => ?_⟩
  simp only [hB_at, lab_nil, lab_cons, hOf_nil, hOf_cons]
  refine awp_seq fun K1 hK1 => ?_
  refine awp_region ?_
  iterate 1
    refine opsK_cons fun J hJ => ?_
    simp [go_sem]
    refine hJ _ _ _ ?_
    clear hJ J
  refine opsK_nil ?_
  refine hK1 _ ?_
  clear hK1
  refine awp_seq fun K2 hK2 => ?_
  by_cases h1 : 0 ≤ r
  all_goals
    refine awp_region ?_
    iterate 7
      refine opsK_cons fun J hJ => ?_
      simp [go_sem, h1]
      refine hJ _ _ _ ?_
      clear hJ J
    refine opsK_nil ?_
    refine hK2 _ ?_
    clear hK2
    refine awp_ret ?_
    refine finWQ_of [] ?_
    simp [go_sem, Try.f70, h1]

structure nextVX where
  v : Vn 4
  r : Int
/-- vector.Next -/
noncomputable def nextVS : HSpec := mkH (ι := nextVX) (fun ⟨v, r⟩ => ([.agg (cV v), .int .i64 r], [])) fun ⟨v, r⟩ => ⟨.agg (cId (nextV v r)), [], []⟩
theorem nextVS_atG (v : Vn 4) (r : Int) : nextVS [.agg (cV v), .int .i64 r] [] = some (⟨.agg (cId (nextV v r)), [], []⟩) :=
  mkH_at (ι := nextVX) (A := fun ⟨v, r⟩ => ([.agg (cV v), .int .i64 r], [])) (R := fun ⟨v, r⟩ => ⟨.agg (cId (nextV v r)), [], []⟩) (fun i j h => by obtain ⟨v, r⟩ := i; obtain ⟨v2, r2⟩ := j; simp [and_assoc, cBk_eq_iff, cId_eq_iff, cOrd_eq_iff, cChg_eq_iff, cEff_eq_iff, cKey_eq_iff, cReq_eq_iff, cV_eq_iff, cOp_eq_iff, cOc_eq_iff, rows_iff_Chg] at h; obtain ⟨rfl, rfl⟩ := h; rfl) ⟨v, r⟩
theorem nextVS_at (v : Vn 4) (r : Int) : nextVS [.agg (cV v), .int .i64 r] [] = some (⟨.agg (cId (nextV v r)), [], []⟩) := nextVS_atG v r

theorem nextV_ok : HSound Try.prog 51 nextVS := by
  refine sound_ofE (fn := Try.f51) rfl rfl (by kernel_rfl) fun args bx hr hS => ?_
  obtain ⟨⟨v, r⟩, rfl, rfl, rfl⟩ := mkH_of hS
  clear hS
  refine ⟨_, (EnvOK.consV (g := 70) (by kernel_rfl) there_ok (EnvOK.nil _)), by simp [Try.f51], by simp [go_sem], fun w Mx pin => ?_⟩
  simp only [hB_at, lab_nil, lab_cons, hOf_nil, hOf_cons]
  refine awp_seq fun K1 hK1 => ?_
  refine awp_region ?_
  iterate 2
    refine opsK_cons fun J hJ => ?_
    simp [go_sem]
    refine hJ _ _ _ ?_
    clear hJ J
  refine opsK_nil ?_
  refine hK1 _ ?_
  clear hK1
  refine awp_seq fun K2 hK2 => ?_
  refine awp_seq fun K3 hK3 => ?_
  rcases (show ¬ (0 ≤ r ∧ r < 4) ∨ (0 ≤ r ∧ r < 4) ∧ ¬ v.at r.toNat < 65535 ∨ (0 ≤ r ∧ r < 4) ∧ v.at r.toNat < 65535 by omega) with ht | ⟨⟨h0, h4⟩, h7⟩ | ⟨⟨h0, h4⟩, h7⟩
  · skip
    have hd : decide (0 ≤ r ∧ r < 4) = false := decide_eq_false ht
    have hn : nextV v r = zId := if_neg (fun h => ht ⟨h.1, h.2.1⟩)
    refine awp_region ?_
    iterate 9
      refine opsK_cons fun J hJ => ?_
      simp [go_sem, thereS_at r, hd]
      refine hJ _ _ _ ?_
      clear hJ J
    refine opsK_nil ?_
    refine hK3 _ ?_
    clear hK3
    refine awp_condT rfl ?_
    refine awp_seq fun K5 hK5 => ?_
    refine awp_region ?_
    iterate 2
      refine opsK_cons fun J hJ => ?_
      simp [go_sem]
      refine hJ _ _ _ ?_
      clear hJ J
    refine opsK_nil ?_
    refine hK5 _ ?_
    clear hK5
    refine awp_ret ?_
    rw [hn]
    refine finWQ_of [] ?_
    simp [go_sem, Try.f51]
  · skip
    have hd : decide (0 ≤ r ∧ r < 4) = true := decide_eq_true ⟨h0, h4⟩
    have h5 : r.toNat < 4 := by omega
    have h8 : 65535 ≤ v.at r.toNat := by omega
    have hn : nextV v r = zId := if_neg (fun h => h7 h.2.2)
    refine awp_region ?_
    iterate 9
      refine opsK_cons fun J hJ => ?_
      simp [go_sem, thereS_at r, hd, h0, h4, h5, h8]
      refine hJ _ _ _ ?_
      clear hJ J
    refine opsK_nil ?_
    refine hK3 _ ?_
    clear hK3
    refine awp_condT rfl ?_
    refine awp_seq fun K5 hK5 => ?_
    refine awp_region ?_
    iterate 2
      refine opsK_cons fun J hJ => ?_
      simp [go_sem]
      refine hJ _ _ _ ?_
      clear hJ J
    refine opsK_nil ?_
    refine hK5 _ ?_
    clear hK5
    refine awp_ret ?_
    rw [hn]
    refine finWQ_of [] ?_
    simp [go_sem, Try.f51]
  · skip
    have hd : decide (0 ≤ r ∧ r < 4) = true := decide_eq_true ⟨h0, h4⟩
    have h5 : r.toNat < 4 := by omega
    have h8 : ¬ 65535 ≤ v.at r.toNat := by omega
    have hn : nextV v r = _ := if_pos ⟨h0, h4, h7⟩
    refine awp_region ?_
    iterate 9
      refine opsK_cons fun J hJ => ?_
      simp [go_sem, thereS_at r, hd, h0, h4, h5, h8]
      refine hJ _ _ _ ?_
      clear hJ J
    refine opsK_nil ?_
    refine hK3 _ ?_
    clear hK3
    refine awp_condF rfl ?_
    refine awp_skip ?_
    refine hK2 _ ?_
    clear hK2
    refine awp_seq fun K6 hK6 => ?_
    refine awp_region ?_
    iterate 7
      refine opsK_cons fun J hJ => ?_
      simp [go_sem, h0, h4, h5]
      refine hJ _ _ _ ?_
      clear hJ J
    refine opsK_nil ?_
    refine hK6 _ ?_
    clear hK6
    refine awp_ret ?_
    rw [hn]
    refine finWQ_of [] ?_
    simp [go_sem, Try.f51]

structure fitsX where
  v : Vn 4
  u : Vn 4
  c : Chg
/-- tent.Fits -/
noncomputable def fitsS : HSpec := mkH (ι := fitsX) (fun ⟨v, u, c⟩ => ([.agg (cV v), .agg (cV u), .agg (cChg c)], [])) fun ⟨v, u, c⟩ => ⟨.bool (fitsB v u c), [], []⟩
theorem fitsS_atG (v : Vn 4) (u : Vn 4) (c : Chg) : fitsS [.agg (cV v), .agg (cV u), .agg (cChg c)] [] = some (⟨.bool (fitsB v u c), [], []⟩) :=
  mkH_at (ι := fitsX) (A := fun ⟨v, u, c⟩ => ([.agg (cV v), .agg (cV u), .agg (cChg c)], [])) (R := fun ⟨v, u, c⟩ => ⟨.bool (fitsB v u c), [], []⟩) (fun i j h => by obtain ⟨v, u, c⟩ := i; obtain ⟨v2, u2, c2⟩ := j; simp [and_assoc, cBk_eq_iff, cId_eq_iff, cOrd_eq_iff, cChg_eq_iff, cEff_eq_iff, cKey_eq_iff, cReq_eq_iff, cV_eq_iff, cOp_eq_iff, cOc_eq_iff, rows_iff_Chg] at h; obtain ⟨rfl, rfl, rfl⟩ := h; rfl) ⟨v, u, c⟩
theorem fitsS_at (v : Vn 4) (u : Vn 4) (c : Chg) : fitsS [.agg (cV v), .agg (cV u), .agg (cChg c)] [] = some (⟨.bool (fitsB v u c), [], []⟩) := fitsS_atG v u c

theorem fits_ok : HSound Try.prog 14 fitsS := by
  refine sound_ofE (fn := Try.f14) rfl rfl (by kernel_rfl) fun args bx hr hS => ?_
  obtain ⟨⟨v, u, c⟩, rfl, rfl, rfl⟩ := mkH_of hS
  clear hS
  refine ⟨_, (EnvOK.consV (g := 50) (by kernel_rfl) mayI_ok (EnvOK.consV (g := 51) (by kernel_rfl) nextV_ok (EnvOK.consV (g := 52) (by kernel_rfl) numIn_ok (EnvOK.nil _)))), by simp [Try.f14], by simp [go_sem], fun w Mx pin => ?_⟩
  simp only [hB_at, lab_nil, lab_cons, hOf_nil, hOf_cons]
  refine awp_seq fun K1 hK1 => ?_
  refine awp_region ?_
  iterate 4
    refine opsK_cons fun J hJ => ?_
    simp [go_sem]
    refine hJ _ _ _ ?_
    clear hJ J
  refine opsK_nil ?_
  refine hK1 _ ?_
  clear hK1
  refine awp_seq fun K2 hK2 => ?_
  cases hm : mayI c.id
  · skip
    refine awp_draw ?_
    iterate 29
      refine opsK_cons fun J hJ => ?_
      simp [go_sem, mayIS_at c.id, hm]
      refine hJ _ _ _ ?_
      clear hJ J
    refine opsK_nil ?_
    refine ⟨rfl, ?_⟩
    refine hK2 _ ?_
    clear hK2
    refine awp_ret ?_
    refine finWQ_of [] ?_
    simp [go_sem, Try.f14, fitsB, hm]
  · skip
    obtain ⟨h0, h4, h5, _⟩ := mayI_rng hm
    cases hn : decide (nextV v c.id.rep = c.id) <;> cases ht : decide (1 ≤ c.time ∧ c.time ≤ 1073741824)
    all_goals
      refine awp_draw ?_
      iterate 29
        refine opsK_cons fun J hJ => ?_
        simp [go_sem, mayIS_at c.id, hm, nextVS_at v c.id.rep, hn, numInS_at c.time 1 1073741824, ht, h0, h4, h5]
        refine hJ _ _ _ ?_
        clear hJ J
      refine opsK_nil ?_
      refine ⟨rfl, ?_⟩
      refine hK2 _ ?_
      clear hK2
      refine awp_ret ?_
      refine finWQ_of [] ?_
      simp [go_sem, Try.f14, fitsB, hm, hn, ht]

structure tentFitsX where
  v : Vn 4
  u : Vn 4
  c : Chg
/-- countermand/countermandlaw18.TentFits -/
noncomputable def tentFitsS : HSpec := mkH (ι := tentFitsX) (fun ⟨v, u, c⟩ => ([.agg (cV v), .agg (cV u), .agg (cChg c)], [])) fun ⟨v, u, c⟩ => ⟨.bool true, [], []⟩
theorem tentFitsS_atG (v : Vn 4) (u : Vn 4) (c : Chg) : tentFitsS [.agg (cV v), .agg (cV u), .agg (cChg c)] [] = some (⟨.bool true, [], []⟩) :=
  mkH_at (ι := tentFitsX) (A := fun ⟨v, u, c⟩ => ([.agg (cV v), .agg (cV u), .agg (cChg c)], [])) (R := fun ⟨v, u, c⟩ => ⟨.bool true, [], []⟩) (fun i j h => by obtain ⟨v, u, c⟩ := i; obtain ⟨v2, u2, c2⟩ := j; simp [and_assoc, cBk_eq_iff, cId_eq_iff, cOrd_eq_iff, cChg_eq_iff, cEff_eq_iff, cKey_eq_iff, cReq_eq_iff, cV_eq_iff, cOp_eq_iff, cOc_eq_iff] at h; obtain ⟨rfl, rfl, rfl⟩ := h; rfl) ⟨v, u, c⟩
theorem tentFitsS_at (v : Vn 4) (u : Vn 4) (c : Chg) : tentFitsS [.agg (cV v), .agg (cV u), .agg (cChg c)] [] = some (⟨.bool true, [], []⟩) := tentFitsS_atG v u c

theorem tentFits_ok : HSound Try.prog 3 tentFitsS := by
  refine sound_ofE (fn := Try.f3) rfl rfl (by kernel_rfl) fun args bx hr hS => ?_
  obtain ⟨⟨v, u, c⟩, rfl, rfl, rfl⟩ := mkH_of hS
  clear hS
  refine ⟨_, (EnvOK.consV (g := 12) (by kernel_rfl) alive18_ok (EnvOK.consV (g := 13) (by kernel_rfl) mayR_ok (EnvOK.consV (g := 14) (by kernel_rfl) fits_ok (EnvOK.nil _)))), by simp [Try.f3], by simp [go_sem], fun w Mx pin => ?_⟩
  simp only [hB_at, lab_nil, lab_cons, hOf_nil, hOf_cons]
  refine awp_seq fun K1 hK1 => ?_
  refine awp_region ?_
  iterate 4
    refine opsK_cons fun J hJ => ?_
    simp [go_sem]
    refine hJ _ _ _ ?_
    clear hJ J
  refine opsK_nil ?_
  refine hK1 _ ?_
  clear hK1
  refine awp_seq fun K2 hK2 => ?_
  refine awp_seq fun K3 hK3 => ?_
  refine awp_region ?_
  iterate 2
    refine opsK_cons fun J hJ => ?_
    simp [go_sem, alive18S_at]
    refine hJ _ _ _ ?_
    clear hJ J
  refine opsK_nil ?_
  refine hK3 _ ?_
  clear hK3
  refine awp_condF rfl ?_
  refine awp_skip ?_
  refine hK2 _ ?_
  clear hK2
  refine awp_seq fun K6 hK6 => ?_
  refine awp_region ?_
  iterate 1
    refine opsK_cons fun J hJ => ?_
    simp [go_sem]
    refine hJ _ _ _ ?_
    clear hJ J
  refine opsK_nil ?_
  refine hK6 _ ?_
  clear hK6
  refine awp_seq fun K7 hK7 => ?_
  refine awp_seq fun K8 hK8 => ?_
  cases hm : mayI c.id
  · skip
    have hf : fitsB v u c = false := by simp [fitsB, hm]
    refine awp_region ?_
    iterate 3
      refine opsK_cons fun J hJ => ?_
      simp [go_sem, mayRS_at c.id, hm]
      refine hJ _ _ _ ?_
      clear hJ J
    refine opsK_nil ?_
    refine hK8 _ ?_
    clear hK8
    refine awp_condF rfl ?_
    refine awp_skip ?_
    refine hK7 _ ?_
    clear hK7
    refine awp_seq fun K10 hK10 => ?_
    refine awp_region ?_
    iterate 7
      refine opsK_cons fun J hJ => ?_
      simp [go_sem, fitsS_at v u c, hf]
      refine hJ _ _ _ ?_
      clear hJ J
    refine opsK_nil ?_
    refine hK10 _ ?_
    clear hK10
    refine awp_ret ?_
    refine finWQ_of [] ?_
    simp [go_sem, Try.f3]
  · skip
    obtain ⟨h0, h4, h5, _⟩ := mayI_rng hm
    have hf := fits_eq (v := v) (u := u) hm
    cases k1 : decide (v.at c.id.rep.toNat < 65535) <;> cases k2 : (c.id.seq == IntKind.i64.wrap (v.at c.id.rep.toNat + 1)) <;> cases k3 : decide (1 ≤ c.time) <;> cases k4 : decide (c.time ≤ 1073741824)
    all_goals simp only [k1, k2, k3, k4, Bool.false_and, Bool.true_and] at hf
    all_goals
      refine awp_region ?_
      iterate 3
        refine opsK_cons fun J hJ => ?_
        simp [go_sem, mayRS_at c.id, hm]
        refine hJ _ _ _ ?_
        clear hJ J
      refine opsK_nil ?_
      refine hK8 _ ?_
      clear hK8
      refine awp_condT rfl ?_
      refine awp_draw ?_
      iterate 39
        refine opsK_cons fun J hJ => ?_
        simp [go_sem, k1, k2, k3, k4, h0, h4, h5]
        refine hJ _ _ _ ?_
        clear hJ J
      refine opsK_nil ?_
      refine ⟨rfl, ?_⟩
      refine hK7 _ ?_
      clear hK7
      refine awp_seq fun K10 hK10 => ?_
      refine awp_region ?_
      iterate 7
        refine opsK_cons fun J hJ => ?_
        simp [go_sem, fitsS_at v u c, hf]
        refine hJ _ _ _ ?_
        clear hJ J
      refine opsK_nil ?_
      refine hK10 _ ?_
      clear hK10
      refine awp_ret ?_
      refine finWQ_of [] ?_
      simp [go_sem, Try.f3]

theorem TentFits_walk (w : World) (l0 : List Int) (g0 : l0.length = 4) (_ : ∀ x ∈ l0, I64 x) (l1 : List Int) (g1 : l1.length = 4) (_ : ∀ x ∈ l1, I64 x) (l2 : List Int) (g2 : l2.length = 9) (_ : ∀ x ∈ l2, I64 x) :
    Calls Try.prog 3 #[.agg (A l0), .agg (A l1), .agg (A l2)] w fun e w' => e = .returned (.bool true) ∧ Below w.heap.size w w' := by
  obtain ⟨x0, r0⟩ := agg_rep (ex_V (n := 4)) w g0
  obtain ⟨x1, r1⟩ := agg_rep (ex_V (n := 4)) w g1
  obtain ⟨x2, r2⟩ := agg_rep ex_Chg w g2
  refine true_walk tentFits_ok (tentFitsS_at x0 x1 x2) w rfl fun i v hi => ?_
  match i, hi with
  | 0, hi => cases hi; exact r0
  | 1, hi => cases hi; exact r1
  | 2, hi => cases hi; exact r2

end Go.Proofs.Ytebflegkdfhoaaa.AE
