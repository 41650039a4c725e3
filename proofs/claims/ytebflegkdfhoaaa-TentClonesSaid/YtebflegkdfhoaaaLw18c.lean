/-
  Law 18: TentClones. Conditions: none; every contract names its own.
-/
import Derived.Test.YtebflegkdfhoaaaTe3
import Derived.Test.YtebflegkdfhoaaaFin
namespace Go.Proofs.Ytebflegkdfhoaaa.AE
open Go Go.Proofs Go.RowKit
set_option linter.unusedVariables false
set_option linter.unusedSimpArgs false
set_option maxRecDepth 100000
set_option maxHeartbeats 4000000
/-- Two contracts of one function. -/
def twoS (A B : HSpec) : HSpec := fun a b => match A a b with
  | some r => some r
  | none => B a b
theorem twoS_sound {P : Program} {f : FuncId} {A B : HSpec} (hA : HSound P f A) (hB : HSound P f B) : HSound P f (twoS A B) := by
  intro a b r h
  unfold twoS at h
  cases hr : A a b with
  | some q => rw [hr] at h; cases h; exact hA a b _ hr
  | none => rw [hr] at h; exact hB a b r h
theorem twoS_left {A : HSpec} (B : HSpec) {a : List AV} {b : List Box} {r : HR} (h : A a b = some r) : twoS A B a b = some r := by simp [twoS, h]
theorem twoS_right {A B : HSpec} {a : List AV} {b : List Box} {r : HR} (hn : A a b = none) (h : B a b = some r) : twoS A B a b = some r := by simp [twoS, hn, h]
theorem mkH_none {ι : Type} {A : ι → List AV × List Box} {R : ι → HR} {a : List AV} {b : List Box} (h : ∀ i, A i ≠ (a, b)) : mkH A R a b = none := by
  unfold mkH
  rw [dif_neg (fun ⟨i, hi⟩ => h i hi)]

structure nFreeX where
  a : Id
/-- tent.Free of nil -/
noncomputable def nFreeS : HSpec := mkH (ι := nFreeX) (fun ⟨a⟩ => ([.nilp, .agg (cId a)], [])) fun ⟨a⟩ => ⟨.bool false, [], []⟩
theorem nFreeS_atG (a : Id) : nFreeS [.nilp, .agg (cId a)] [] = some (⟨.bool false, [], []⟩) :=
  mkH_at (ι := nFreeX) (A := fun ⟨a⟩ => ([.nilp, .agg (cId a)], [])) (R := fun ⟨a⟩ => ⟨.bool false, [], []⟩) (fun i j h => by obtain ⟨a⟩ := i; obtain ⟨a2⟩ := j; simp [and_assoc, cBk_eq_iff, cId_eq_iff, cOrd_eq_iff, cChg_eq_iff, cEff_eq_iff, cKey_eq_iff, cReq_eq_iff, cV_eq_iff, cOp_eq_iff, cOc_eq_iff, rows_iff_Chg] at h; obtain rfl := h; rfl) ⟨a⟩
theorem nFreeS_at (a : Id) : nFreeS [.nilp, .agg (cId a)] [] = some (⟨.bool false, [], []⟩) := nFreeS_atG a

theorem nFree_ok : HSound Try.prog 23 nFreeS := by
  refine sound_ofE (fn := Try.f23) rfl rfl (by kernel_rfl) fun args bx hr hS => ?_
  obtain ⟨⟨a⟩, rfl, rfl, rfl⟩ := mkH_of hS
  clear hS
  refine ⟨_, (EnvOK.nil _), by simp [Try.f23], by simp [go_sem], fun w Mx pin => ?_⟩
  simp only [hB_at, lab_nil, lab_cons, hOf_nil, hOf_cons]
  refine awp_seq fun K1 hK1 => ?_
  refine awp_region ?_
  iterate 2
    refine opsK_cons fun J hJ => ?_
    simp [go_sem]
    refine hJ _ _ _ ?_
    clear hJ J
  refine opsK_nil ?_
  refine hK1 _ ?_
  clear hK1
  refine awp_seq fun K2 hK2 => ?_
  refine awp_seq fun K3 hK3 => ?_
  refine awp_draw ?_
  iterate 11
    refine opsK_cons fun J hJ => ?_
    simp [go_sem]
    refine hJ _ _ _ ?_
    clear hJ J
  refine opsK_nil ?_
  refine ⟨rfl, ?_⟩
  refine hK3 _ ?_
  clear hK3
  refine awp_condT rfl ?_
  refine awp_seq fun K5 hK5 => ?_
  refine awp_region ?_
  iterate 1
    refine opsK_cons fun J hJ => ?_
    simp [go_sem]
    refine hJ _ _ _ ?_
    clear hJ J
  refine opsK_nil ?_
  refine hK5 _ ?_
  clear hK5
  refine awp_ret ?_
  refine finWQ_of [] ?_
  simp [go_sem, Try.f23]

theorem nFree_or (a : Id) : twoS tFreeS nFreeS [.nilp, .agg (cId a)] [] = some ⟨.bool false, [], []⟩ := twoS_right (by unfold tFreeS; exact mkH_none fun i h => by cases i; simp at h) (nFreeS_at a)

structure nLenX where
  u : Unit
/-- tent.Len of nil -/
noncomputable def nLenS : HSpec := mkH (ι := nLenX) (fun ⟨_⟩ => ([.nilp], [])) fun ⟨_⟩ => ⟨.int .i64 0, [], []⟩
theorem nLenS_atG : nLenS [.nilp] [] = some (⟨.int .i64 0, [], []⟩) :=
  mkH_at (ι := nLenX) (A := fun ⟨_⟩ => ([.nilp], [])) (R := fun ⟨_⟩ => ⟨.int .i64 0, [], []⟩) (fun i j h => by obtain ⟨_⟩ := i; obtain ⟨_⟩ := j; rfl) ⟨()⟩
theorem nLenS_at : nLenS [.nilp] [] = some (⟨.int .i64 0, [], []⟩) := nLenS_atG 

theorem nLen_ok : HSound Try.prog 24 nLenS := by
  refine sound_ofE (fn := Try.f24) rfl rfl (by kernel_rfl) fun args bx hr hS => ?_
  obtain ⟨⟨_⟩, rfl, rfl, rfl⟩ := mkH_of hS
  clear hS
  refine ⟨_, (EnvOK.nil _), by simp [Try.f24], by simp [go_sem], fun w Mx pin => ?_⟩
  simp only [hB_at, lab_nil, lab_cons, hOf_nil, hOf_cons]
  refine awp_seq fun K1 hK1 => ?_
  refine awp_region ?_
  iterate 1
    refine opsK_cons fun J hJ => ?_
    simp [go_sem]
    refine hJ _ _ _ ?_
    clear hJ J
  refine opsK_nil ?_
  refine hK1 _ ?_
  clear hK1
  refine awp_seq fun K2 hK2 => ?_
  refine awp_seq fun K3 hK3 => ?_
  refine awp_region ?_
  iterate 2
    refine opsK_cons fun J hJ => ?_
    simp [go_sem]
    refine hJ _ _ _ ?_
    clear hJ J
  refine opsK_nil ?_
  refine hK3 _ ?_
  clear hK3
  refine awp_condT rfl ?_
  refine awp_seq fun K5 hK5 => ?_
  refine awp_region ?_
  iterate 1
    refine opsK_cons fun J hJ => ?_
    simp [go_sem]
    refine hJ _ _ _ ?_
    clear hJ J
  refine opsK_nil ?_
  refine hK5 _ ?_
  clear hK5
  refine awp_ret ?_
  refine finWQ_of [] ?_
  simp [go_sem, Try.f24]

theorem nLen_or : twoS tLenS nLenS [.nilp] [] = some ⟨.int .i64 0, [], []⟩ := twoS_right (by unfold tLenS; exact mkH_none fun i h => by cases i; simp at h) (nLenS_at)

structure nFirstX where
  u : Unit
/-- tent.First of nil -/
noncomputable def nFirstS : HSpec := mkH (ι := nFirstX) (fun ⟨_⟩ => ([.nilp], [])) fun ⟨_⟩ => ⟨.tup [.agg (cChg zChg), .bool false], [], []⟩
theorem nFirstS_atG : nFirstS [.nilp] [] = some (⟨.tup [.agg (cChg zChg), .bool false], [], []⟩) :=
  mkH_at (ι := nFirstX) (A := fun ⟨_⟩ => ([.nilp], [])) (R := fun ⟨_⟩ => ⟨.tup [.agg (cChg zChg), .bool false], [], []⟩) (fun i j h => by obtain ⟨_⟩ := i; obtain ⟨_⟩ := j; rfl) ⟨()⟩
theorem nFirstS_at : nFirstS [.nilp] [] = some (⟨.tup [.agg (cChg zChg), .bool false], [], []⟩) := nFirstS_atG 

theorem nFirst_ok : HSound Try.prog 19 nFirstS := by
  refine sound_ofE (fn := Try.f19) rfl rfl (by kernel_rfl) fun args bx hr hS => ?_
  obtain ⟨⟨_⟩, rfl, rfl, rfl⟩ := mkH_of hS
  clear hS
  refine ⟨_, (EnvOK.consV (g := 24) (by kernel_rfl) nLen_ok (EnvOK.nil _)), by simp [Try.f19], by simp [go_sem], fun w Mx pin => ?_⟩
  simp only [hB_at, lab_nil, lab_cons, hOf_nil, hOf_cons]
  refine awp_seq fun K1 hK1 => ?_
  refine awp_region ?_
  iterate 2
    refine opsK_cons fun J hJ => ?_
    simp [go_sem]
    refine hJ _ _ _ ?_
    clear hJ J
  refine opsK_nil ?_
  refine hK1 _ ?_
  clear hK1
  refine awp_seq fun K2 hK2 => ?_
  refine awp_seq fun K3 hK3 => ?_
  refine awp_region ?_
  iterate 3
    refine opsK_cons fun J hJ => ?_
    simp [go_sem, nLenS_at]
    refine hJ _ _ _ ?_
    clear hJ J
  refine opsK_nil ?_
  refine hK3 _ ?_
  clear hK3
  refine awp_condT rfl ?_
  refine awp_seq fun K5 hK5 => ?_
  refine awp_region ?_
  iterate 3
    refine opsK_cons fun J hJ => ?_
    simp [go_sem]
    refine hJ _ _ _ ?_
    clear hJ J
  refine opsK_nil ?_
  refine hK5 _ ?_
  clear hK5
  refine awp_ret ?_
  refine finWQ_of [] ?_
  simp [go_sem, Try.f19]

theorem nFirst_or : twoS tFirstS nFirstS [.nilp] [] = some ⟨.tup [.agg (cChg zChg), .bool false], [], []⟩ := twoS_right (by unfold tFirstS; exact mkH_none fun i h => by cases i; simp at h) (nFirstS_at)

structure nAllX where
  u : Unit
/-- tent.All of nil -/
noncomputable def nAllS : HSpec := mkH (ι := nAllX) (fun ⟨_⟩ => ([.nilp], [])) fun ⟨_⟩ => ⟨.nils, [], []⟩
theorem nAllS_atG : nAllS [.nilp] [] = some (⟨.nils, [], []⟩) :=
  mkH_at (ι := nAllX) (A := fun ⟨_⟩ => ([.nilp], [])) (R := fun ⟨_⟩ => ⟨.nils, [], []⟩) (fun i j h => by obtain ⟨_⟩ := i; obtain ⟨_⟩ := j; rfl) ⟨()⟩
theorem nAllS_at : nAllS [.nilp] [] = some (⟨.nils, [], []⟩) := nAllS_atG 

theorem nAll_ok : HSound Try.prog 18 nAllS := by
  refine sound_ofE (fn := Try.f18) rfl rfl (by kernel_rfl) fun args bx hr hS => ?_
  obtain ⟨⟨_⟩, rfl, rfl, rfl⟩ := mkH_of hS
  clear hS
  refine ⟨_, (EnvOK.nil _), by simp [Try.f18], by simp [go_sem], fun w Mx pin => ?_⟩
  simp only [hB_at, lab_nil, lab_cons, hOf_nil, hOf_cons]
  refine awp_seq fun K1 hK1 => ?_
  refine awp_region ?_
  iterate 1
    refine opsK_cons fun J hJ => ?_
    simp [go_sem]
    refine hJ _ _ _ ?_
    clear hJ J
  refine opsK_nil ?_
  refine hK1 _ ?_
  clear hK1
  refine awp_seq fun K2 hK2 => ?_
  refine awp_seq fun K3 hK3 => ?_
  refine awp_region ?_
  iterate 2
    refine opsK_cons fun J hJ => ?_
    simp [go_sem]
    refine hJ _ _ _ ?_
    clear hJ J
  refine opsK_nil ?_
  refine hK3 _ ?_
  clear hK3
  refine awp_condT rfl ?_
  refine awp_seq fun K5 hK5 => ?_
  refine awp_region ?_
  iterate 1
    refine opsK_cons fun J hJ => ?_
    simp [go_sem]
    refine hJ _ _ _ ?_
    clear hJ J
  refine opsK_nil ?_
  refine hK5 _ ?_
  clear hK5
  refine awp_ret ?_
  refine finWQ_of [] ?_
  simp [go_sem, Try.f18]

theorem nAll_or : twoS tAllS nAllS [.nilp] [] = some ⟨.nils, [], []⟩ := twoS_right (by unfold tAllS; exact mkH_none fun i h => by cases i; simp at h) (nAllS_at)

structure nCloneX where
  u : Unit
/-- tent.Clone of nil -/
noncomputable def nCloneS : HSpec := mkH (ι := nCloneX) (fun ⟨_⟩ => ([.nilp], [])) fun ⟨_⟩ => ⟨.nilp, [], []⟩
theorem nCloneS_atG : nCloneS [.nilp] [] = some (⟨.nilp, [], []⟩) :=
  mkH_at (ι := nCloneX) (A := fun ⟨_⟩ => ([.nilp], [])) (R := fun ⟨_⟩ => ⟨.nilp, [], []⟩) (fun i j h => by obtain ⟨_⟩ := i; obtain ⟨_⟩ := j; rfl) ⟨()⟩
theorem nCloneS_at : nCloneS [.nilp] [] = some (⟨.nilp, [], []⟩) := nCloneS_atG 

theorem nClone_ok : HSound Try.prog 17 nCloneS := by
  refine sound_ofE (fn := Try.f17) rfl rfl (by kernel_rfl) fun args bx hr hS => ?_
  obtain ⟨⟨_⟩, rfl, rfl, rfl⟩ := mkH_of hS
  clear hS
  refine ⟨_, (EnvOK.nil _), by simp [Try.f17], by simp [go_sem], fun w Mx pin => ?_⟩
  simp only [hB_at, lab_nil, lab_cons, hOf_nil, hOf_cons]
  refine awp_seq fun K1 hK1 => ?_
  refine awp_region ?_
  iterate 1
    refine opsK_cons fun J hJ => ?_
    simp [go_sem]
    refine hJ _ _ _ ?_
    clear hJ J
  refine opsK_nil ?_
  refine hK1 _ ?_
  clear hK1
  refine awp_seq fun K2 hK2 => ?_
  refine awp_seq fun K3 hK3 => ?_
  refine awp_region ?_
  iterate 2
    refine opsK_cons fun J hJ => ?_
    simp [go_sem]
    refine hJ _ _ _ ?_
    clear hJ J
  refine opsK_nil ?_
  refine hK3 _ ?_
  clear hK3
  refine awp_condT rfl ?_
  refine awp_seq fun K5 hK5 => ?_
  refine awp_region ?_
  iterate 1
    refine opsK_cons fun J hJ => ?_
    simp [go_sem]
    refine hJ _ _ _ ?_
    clear hJ J
  refine opsK_nil ?_
  refine hK5 _ ?_
  clear hK5
  refine awp_ret ?_
  refine finWQ_of [] ?_
  simp [go_sem, Try.f17]

theorem nClone_or : twoS tCloneS nCloneS [.nilp] [] = some ⟨.nilp, [], []⟩ := twoS_right (by unfold tCloneS; exact mkH_none fun i h => by cases i; simp at h) (nCloneS_at)

structure nPutX where
  c : Chg
/-- tent.Put of nil -/
noncomputable def nPutS : HSpec := mkH (ι := nPutX) (fun ⟨c⟩ => ([.nilp, .agg (cChg c)], [])) fun ⟨c⟩ => ⟨.bool false, [], []⟩
theorem nPutS_atG (c : Chg) : nPutS [.nilp, .agg (cChg c)] [] = some (⟨.bool false, [], []⟩) :=
  mkH_at (ι := nPutX) (A := fun ⟨c⟩ => ([.nilp, .agg (cChg c)], [])) (R := fun ⟨c⟩ => ⟨.bool false, [], []⟩) (fun i j h => by obtain ⟨c⟩ := i; obtain ⟨c2⟩ := j; simp [and_assoc, cBk_eq_iff, cId_eq_iff, cOrd_eq_iff, cChg_eq_iff, cEff_eq_iff, cKey_eq_iff, cReq_eq_iff, cV_eq_iff, cOp_eq_iff, cOc_eq_iff, rows_iff_Chg] at h; obtain rfl := h; rfl) ⟨c⟩
theorem nPutS_at (c : Chg) : nPutS [.nilp, .agg (cChg c)] [] = some (⟨.bool false, [], []⟩) := nPutS_atG c

theorem nPut_ok : HSound Try.prog 22 nPutS := by
  refine sound_ofE (fn := Try.f22) rfl rfl (by kernel_rfl) fun args bx hr hS => ?_
  obtain ⟨⟨c⟩, rfl, rfl, rfl⟩ := mkH_of hS
  clear hS
  refine ⟨_, (EnvOK.nil _), by simp [Try.f22], by simp [go_sem], fun w Mx pin => ?_⟩
  simp only [hB_at, lab_nil, lab_cons, hOf_nil, hOf_cons]
  refine awp_seq fun K1 hK1 => ?_
  refine awp_region ?_
  iterate 2
    refine opsK_cons fun J hJ => ?_
    simp [go_sem]
    refine hJ _ _ _ ?_
    clear hJ J
  refine opsK_nil ?_
  refine hK1 _ ?_
  clear hK1
  refine awp_seq fun K2 hK2 => ?_
  refine awp_seq fun K3 hK3 => ?_
  refine awp_draw ?_
  iterate 12
    refine opsK_cons fun J hJ => ?_
    simp [go_sem]
    refine hJ _ _ _ ?_
    clear hJ J
  refine opsK_nil ?_
  refine ⟨rfl, ?_⟩
  refine hK3 _ ?_
  clear hK3
  refine awp_condT rfl ?_
  refine awp_seq fun K5 hK5 => ?_
  refine awp_region ?_
  iterate 1
    refine opsK_cons fun J hJ => ?_
    simp [go_sem]
    refine hJ _ _ _ ?_
    clear hJ J
  refine opsK_nil ?_
  refine hK5 _ ?_
  clear hK5
  refine awp_ret ?_
  refine finWQ_of [] ?_
  simp [go_sem, Try.f22]

theorem nPut_or (c : Chg) : twoS tPutS nPutS [.nilp, .agg (cChg c)] [] = some ⟨.bool false, [], []⟩ := twoS_right (by unfold tPutS; exact mkH_none fun i h => by cases i; simp at h) (nPutS_at c)

structure nTakeX where
  a : Id
/-- tent.Take of nil -/
noncomputable def nTakeS : HSpec := mkH (ι := nTakeX) (fun ⟨a⟩ => ([.nilp, .agg (cId a)], [])) fun ⟨a⟩ => ⟨.tup [.agg (cChg zChg), .bool false], [], []⟩
theorem nTakeS_atG (a : Id) : nTakeS [.nilp, .agg (cId a)] [] = some (⟨.tup [.agg (cChg zChg), .bool false], [], []⟩) :=
  mkH_at (ι := nTakeX) (A := fun ⟨a⟩ => ([.nilp, .agg (cId a)], [])) (R := fun ⟨a⟩ => ⟨.tup [.agg (cChg zChg), .bool false], [], []⟩) (fun i j h => by obtain ⟨a⟩ := i; obtain ⟨a2⟩ := j; simp [and_assoc, cBk_eq_iff, cId_eq_iff, cOrd_eq_iff, cChg_eq_iff, cEff_eq_iff, cKey_eq_iff, cReq_eq_iff, cV_eq_iff, cOp_eq_iff, cOc_eq_iff, rows_iff_Chg] at h; obtain rfl := h; rfl) ⟨a⟩
theorem nTakeS_at (a : Id) : nTakeS [.nilp, .agg (cId a)] [] = some (⟨.tup [.agg (cChg zChg), .bool false], [], []⟩) := nTakeS_atG a

theorem nTake_ok : HSound Try.prog 20 nTakeS := by
  refine sound_ofE (fn := Try.f20) rfl rfl (by kernel_rfl) fun args bx hr hS => ?_
  obtain ⟨⟨a⟩, rfl, rfl, rfl⟩ := mkH_of hS
  clear hS
  refine ⟨_, (EnvOK.consV (g := 23) (by kernel_rfl) nFree_ok (EnvOK.nil _)), by simp [Try.f20], by simp [go_sem], fun w Mx pin => ?_⟩
  simp only [hB_at, lab_nil, lab_cons, hOf_nil, hOf_cons]
  refine awp_seq fun K1 hK1 => ?_
  refine awp_region ?_
  iterate 3
    refine opsK_cons fun J hJ => ?_
    simp [go_sem]
    refine hJ _ _ _ ?_
    clear hJ J
  refine opsK_nil ?_
  refine hK1 _ ?_
  clear hK1
  refine awp_seq fun K2 hK2 => ?_
  refine awp_seq fun K3 hK3 => ?_
  refine awp_region ?_
  iterate 4
    refine opsK_cons fun J hJ => ?_
    simp [go_sem, nFreeS_at]
    refine hJ _ _ _ ?_
    clear hJ J
  refine opsK_nil ?_
  refine hK3 _ ?_
  clear hK3
  refine awp_condT rfl ?_
  refine awp_seq fun K5 hK5 => ?_
  refine awp_region ?_
  iterate 3
    refine opsK_cons fun J hJ => ?_
    simp [go_sem]
    refine hJ _ _ _ ?_
    clear hJ J
  refine opsK_nil ?_
  refine hK5 _ ?_
  clear hK5
  refine awp_ret ?_
  refine finWQ_of [] ?_
  simp [go_sem, Try.f20]

theorem nTake_or (a : Id) : twoS tTakeS nTakeS [.nilp, .agg (cId a)] [] = some ⟨.tup [.agg (cChg zChg), .bool false], [], []⟩ := twoS_right (by unfold tTakeS; exact mkH_none fun i h => by cases i; simp at h) (nTakeS_at a)

structure tentClonesX where
  a : List Op
  a' : AV
  b : List Op
  b' : AV
  d : List Op
  d' : AV
  h_a : SlA 12 cOp a a'
  h_b : SlA 12 cOp b b'
  h_d : SlA 12 cOp d d'
/-- countermand/countermandlaw18.TentClones -/
noncomputable def tentClonesS : HSpec := mkH (ι := tentClonesX) (fun ⟨a, a', b, b', d, d', h_a, h_b, h_d⟩ => ([a', b', d'], [])) fun ⟨a, a', b, b', d, d', h_a, h_b, h_d⟩ => ⟨.bool true, [], []⟩
theorem tentClonesS_atG (a : List Op) (a' : AV) (b : List Op) (b' : AV) (d : List Op) (d' : AV) (h_a : SlA 12 cOp a a') (h_b : SlA 12 cOp b b') (h_d : SlA 12 cOp d d') : tentClonesS [a', b', d'] [] = some (⟨.bool true, [], []⟩) :=
  mkH_at (ι := tentClonesX) (A := fun ⟨a, a', b, b', d, d', h_a, h_b, h_d⟩ => ([a', b', d'], [])) (R := fun ⟨a, a', b, b', d, d', h_a, h_b, h_d⟩ => ⟨.bool true, [], []⟩) (fun i j h => by obtain ⟨a, a', b, b', d, d', h_a, h_b, h_d⟩ := i; obtain ⟨a2, a'2, b2, b'2, d2, d'2, h_a2, h_b2, h_d2⟩ := j; simp [and_assoc, cBk_eq_iff, cId_eq_iff, cOrd_eq_iff, cChg_eq_iff, cEff_eq_iff, cKey_eq_iff, cReq_eq_iff, cV_eq_iff, cOp_eq_iff, cOc_eq_iff] at h; obtain ⟨rfl, rfl, rfl⟩ := h; obtain rfl := SlA.inj (fun x y h => cOp_inj h) h_a h_a2; obtain rfl := SlA.inj (fun x y h => cOp_inj h) h_b h_b2; obtain rfl := SlA.inj (fun x y h => cOp_inj h) h_d h_d2; rfl) ⟨a, a', b, b', d, d', h_a, h_b, h_d⟩
theorem tentClonesS_at (a : List Op) (b : List Op) (d : List Op) : tentClonesS [(.sl 12 (rows cOp a)), (.sl 12 (rows cOp b)), (.sl 12 (rows cOp d))] [] = some (⟨.bool true, [], []⟩) := tentClonesS_atG a _ b _ d _ .sl .sl .sl

def k99 : Chg := { zChg with kind := 99 }
def clonesI (M1 : List Chg) (b d : List Op) (pre _post X : List Chg) : St := ⟨ofL [(1, .sl 12 (rows cOp b)), (2, .sl 12 (rows cOp d)), (7, .ref (0, 400) 0), (8, .sl 9 (rows cChg M1)), (9, .bool true), (10, .ref (0, 544) 0), (11, .own (0, 576) M1.length), (12, .int .i64 pre.length)], hOf [((0, 400), .obj [.sl 9 (rows cChg M1)]), ((0, 544), .obj [.sl 9 (rows cChg M1)]), ((0, 576), .row 26 9 (rows cChg X) false)]⟩
theorem kn99 : cChg { id := zChg.id, time := zChg.time, kind := 99, a := zChg.a, b := zChg.b, n := zChg.n, ref := zChg.ref } = cChg k99 := rfl

theorem tentClones_ok : HSound Try.prog 5 tentClonesS := by
  refine sound_ofE (fn := Try.f5) rfl rfl (by kernel_rfl) fun args bx hr hS => ?_
  obtain ⟨⟨a, a', b, b', d, d', h_a, h_b, h_d⟩, rfl, rfl, rfl⟩ := mkH_of hS
  clear hS
  refine ⟨_, (EnvOK.consV (g := 12) (by kernel_rfl) alive18_ok (EnvOK.consV (g := 16) (by kernel_rfl) few18_ok (EnvOK.consH (g := 15) (by kernel_rfl) run18_ok (EnvOK.consV (g := 21) (by kernel_rfl) plChg_ok (EnvOK.consV (g := 17) (by kernel_rfl) (twoS_sound tClone_ok nClone_ok) (EnvOK.consV (g := 18) (by kernel_rfl) (twoS_sound tAll_ok nAll_ok) (EnvOK.consV (g := 19) (by kernel_rfl) (twoS_sound tFirst_ok nFirst_ok) (EnvOK.consH (g := 20) (by kernel_rfl) (twoS_sound tTake_ok nTake_ok) (EnvOK.consH (g := 22) (by kernel_rfl) (twoS_sound tPut_ok nPut_ok) (EnvOK.consV (g := 23) (by kernel_rfl) (twoS_sound tFree_ok nFree_ok) (EnvOK.consV (g := 24) (by kernel_rfl) (twoS_sound tLen_ok nLen_ok) (EnvOK.nil _)))))))))))), by simp [Try.f5], by simp [go_sem], fun w Mx pin => ?_⟩
  simp only [hB_at, lab_nil, lab_cons, hOf_nil, hOf_cons]
  refine awp_weak (s' := ⟨ofL [(0, (.sl 12 (rows cOp a))), (1, (.sl 12 (rows cOp b))), (2, (.sl 12 (rows cOp d)))], hOf []⟩) ?_ ?_
  · cases h_a <;> cases h_b <;> cases h_d <;> exact weak_of [] (by simp [go_sem]) (by simp [go_sem]) (by simp [go_sem])
  clear h_a h_b h_d
  obtain ⟨M1, hM1⟩ : ∃ M, M = runM [] (a.take 50) := ⟨_, rfl⟩
  obtain ⟨M2, hM2⟩ : ∃ M, M = runM M1 (b.take 50) := ⟨_, rfl⟩
  obtain ⟨M3, hM3⟩ : ∃ M, M = runM M1 (d.take 50) := ⟨_, rfl⟩
  have n1 := runM_len (a.take 50) []
  have n2 := runM_len (b.take 50) M1
  have n3 := runM_len (d.take 50) M1
  rw [← hM1] at n1
  rw [← hM2] at n2
  rw [← hM3] at n3
  simp only [List.length_take, List.length_nil] at n1 n2 n3
  have e1 : M1.length ≤ 100000 := by omega
  refine awp_seq fun K1 hK1 => ?_
  refine awp_region ?_
  iterate 1
    refine opsK_cons fun J hJ => ?_
    simp [go_sem]
    refine hJ _ _ _ ?_
    clear hJ J
  refine opsK_nil ?_
  refine hK1 _ ?_
  clear hK1
  refine awp_seq fun K2 hK2 => ?_
  refine awp_seq fun K3 hK3 => ?_
  refine awp_region ?_
  iterate 2
    refine opsK_cons fun J hJ => ?_
    simp [go_sem, alive18S_at]
    refine hJ _ _ _ ?_
    clear hJ J
  refine opsK_nil ?_
  refine hK3 _ ?_
  clear hK3
  refine awp_condF rfl ?_
  refine awp_skip ?_
  refine hK2 _ ?_
  clear hK2
  refine awp_seq fun K6 hK6 => ?_
  refine awp_region ?_
  iterate 3
    refine opsK_cons fun J hJ => ?_
    simp [go_sem]
    refine hJ _ _ _ ?_
    clear hJ J
  refine opsK_nil ?_
  refine hK6 _ ?_
  clear hK6
  refine awp_seq fun K7 hK7 => ?_
  refine awp_region ?_
  iterate 9
    refine opsK_cons fun J hJ => ?_
    simp [go_sem, few18S_at a, run18S_atG [] .nils [] .nils (a.take 50) (.sl 12 (rows cOp (a.take 50))) .nil .nil .sl ⟨rfl, by simp, by simp; omega⟩, ← hM1]
    refine hJ _ _ _ ?_
    clear hJ J
  refine opsK_nil ?_
  refine hK7 _ ?_
  clear hK7
  refine awp_seq fun K8 hK8 => ?_
  refine awp_region ?_
  iterate 6
    refine opsK_cons fun J hJ => ?_
    simp [go_sem, twoS_left nCloneS (tCloneS_at M1 e1), twoS_left nAllS (tAllS_at M1 e1)]
    refine hJ _ _ _ ?_
    clear hJ J
  refine opsK_nil ?_
  refine hK8 _ ?_
  clear hK8
  refine awp_seq fun K9 hK9 => ?_
  refine awp_seq fun K10 hK10 => ?_
  refine awp_region ?_
  iterate 1
    refine opsK_cons fun J hJ => ?_
    simp [go_sem]
    refine hJ _ _ _ ?_
    clear hJ J
  refine opsK_nil ?_
  refine hK10 _ ?_
  clear hK10
  refine awp_block ?_
  refine awp_loop (ι := { q : List Chg × List Chg × List Chg // q.1 ++ q.2.1 = M1 ∧ q.2.2.length = M1.length }) (fun q => clonesI M1 b d q.1.1 q.1.2.1 q.1.2.2) (fun q => q.1.2.1.length) ⟨([], M1, M1), rfl, rfl⟩ ?_ ?_
  · refine weak_of [((0, 400), some (0, 400)), ((0, 544), some (0, 544)), ((0, 576), some (0, 576))] (by simp [go_sem]) ?_ ?_ <;> simp [go_sem]
  intro ⟨⟨pre, post, X⟩, hl, hgo⟩
  simp only at hl hgo
  have hpl := len_small hl e1
  simp only [clonesI]
  refine awp_seq fun K11 hK11 => ?_
  refine awp_seq fun K12 hK12 => ?_
  refine awp_region ?_
  iterate 4
    refine opsK_cons fun J hJ => ?_
    simp [go_sem]
    refine hJ _ _ _ ?_
    clear hJ J
  refine opsK_nil ?_
  refine hK12 _ ?_
  clear hK12
  refine awp_cond (t := _) rfl (fun c13 => ?_) (fun c13 => ?_)
  · simp [go_sem] at c13
    obtain ⟨x, post, rfl, hx⟩ := mid_lt hl (by omega)
    refine awp_skip ?_
    refine hK11 _ ?_
    clear hK11
    refine awp_seq fun K14 hK14 => ?_
    refine awp_block ?_
    refine awp_region ?_
    iterate 5
      refine opsK_cons fun J hJ => ?_
      simp [go_sem, hgo, show pre.length < M1.length by omega, kn99]
      refine hJ _ _ _ ?_
      clear hJ J
    refine opsK_nil ?_
    refine hK14 _ ?_
    clear hK14
    refine awp_region ?_
    iterate 3
      refine opsK_cons fun J hJ => ?_
      simp [go_sem]
      refine hJ _ _ _ ?_
      clear hJ J
    refine opsK_nil ?_
    refine ⟨⟨(pre ++ [x], post, X.set pre.length k99), by simp [← hl], by simp [hgo]⟩, ?_, by simp⟩
    refine weak_of [((0, 400), some (0, 400)), ((0, 544), some (0, 544)), ((0, 576), some (0, 576))] (by simp [go_sem]) ?_ ?_ <;> simp [go_sem, wrap_nat hpl, clonesI]
  · simp [go_sem] at c13
    obtain ⟨rfl, rfl⟩ := mid_nil hl (by omega)
    refine awp_exit ?_
    simp only [go_sem]
    refine hK9 _ ?_
    clear hK9
    refine awp_seq fun K15 hK15 => ?_
    refine awp_region ?_
    iterate 10
      refine opsK_cons fun J hJ => ?_
      simp [go_sem, few18S_at b, run18S_at M1 M1 (b.take 50) ⟨rfl, by omega, by simp; omega⟩, ← hM2]
      refine hJ _ _ _ ?_
      clear hJ J
    refine opsK_nil ?_
    refine hK15 _ ?_
    clear hK15
    refine awp_seq fun K16 hK16 => ?_
    refine awp_region ?_
    iterate 10
      refine opsK_cons fun J hJ => ?_
      simp [go_sem, few18S_at d, run18S_at M1 M1 (d.take 50) ⟨rfl, by omega, by simp; omega⟩, ← hM3]
      refine hJ _ _ _ ?_
      clear hJ J
    refine opsK_nil ?_
    refine hK16 _ ?_
    clear hK16
    refine awp_seq fun K17 hK17 => ?_
    refine awp_region ?_
    iterate 1
      refine opsK_cons fun J hJ => ?_
      simp [go_sem]
      refine hJ _ _ _ ?_
      clear hJ J
    refine opsK_nil ?_
    refine hK17 _ ?_
    clear hK17
    refine awp_seq fun K18 hK18 => ?_
    refine awp_region ?_
    iterate 8
      refine opsK_cons fun J hJ => ?_
      simp [go_sem, nFirst_or]
      refine hJ _ _ _ ?_
      clear hJ J
    refine opsK_nil ?_
    refine hK18 _ ?_
    clear hK18
    refine awp_seq fun K19 hK19 => ?_
    refine awp_region ?_
    iterate 9
      refine opsK_cons fun J hJ => ?_
      simp [go_sem, nTake_or]
      refine hJ _ _ _ ?_
      clear hJ J
    refine opsK_nil ?_
    refine hK19 _ ?_
    clear hK19
    refine awp_seq fun K20 hK20 => ?_
    refine awp_region ?_
    iterate 61
      refine opsK_cons fun J hJ => ?_
      simp [go_sem, twoS_left nAllS (tAllS_at M2 (by omega)), twoS_left nAllS (tAllS_at M3 (by omega)), plChgS_at M2 M2 (by omega), plChgS_at M3 M3 (by omega), nPut_or, nFree_or, nLen_or, nAll_or, nClone_or]
      refine hJ _ _ _ ?_
      clear hJ J
    refine opsK_nil ?_
    refine hK20 _ ?_
    clear hK20
    refine awp_ret ?_
    refine finWQ_of [] ?_
    simp [go_sem, Try.f5]

theorem TentClones_walk (w : World) (a0 : Option Addr) (c0 : Nat) (L0 : List (List Int)) (h0 : L0.length ≤ c0) (m0 : c0 ≤ maxLen) (s0 : SlK w.heap.size 12 w a0 L0) (a1 : Option Addr) (c1 : Nat) (L1 : List (List Int)) (h1 : L1.length ≤ c1) (m1 : c1 ≤ maxLen) (s1 : SlK w.heap.size 12 w a1 L1) (a2 : Option Addr) (c2 : Nat) (L2 : List (List Int)) (h2 : L2.length ≤ c2) (m2 : c2 ≤ maxLen) (s2 : SlK w.heap.size 12 w a2 L2) :
    Calls Try.prog 5 #[.slice a0 L0.length c0, .slice a1 L1.length c1, .slice a2 L2.length c2] w fun e w' => e = .returned (.bool true) ∧ Below w.heap.size w w' := by
  obtain ⟨os0, e0, r0⟩ := slk_rows ex_Op s0 h0 m0
  obtain ⟨os1, e1, r1⟩ := slk_rows ex_Op s1 h1 m1
  obtain ⟨os2, e2, r2⟩ := slk_rows ex_Op s2 h2 m2
  refine true_walk tentClones_ok (tentClonesS_at os0 os1 os2) w rfl fun i v hi => ?_
  match i, hi with
  | 0, hi => cases hi; exact r0
  | 1, hi => cases hi; exact r1
  | 2, hi => cases hi; exact r2

end Go.Proofs.Ytebflegkdfhoaaa.AE
