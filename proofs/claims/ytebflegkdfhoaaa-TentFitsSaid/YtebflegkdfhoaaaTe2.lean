/-
  Law 18: contracts, first part. Conditions: none; every contract names its own.
-/
import Derived.Test.YtebflegkdfhoaaaTe1
import Derived.Test.YtebflegkdfhoaaaRf7
import Derived.Test.YtebflegkdfhoaaaAl
namespace Go.Proofs.Ytebflegkdfhoaaa.AE
open Go Go.Proofs Go.RowKit
set_option linter.unusedVariables false
set_option linter.unusedSimpArgs false
set_option maxRecDepth 100000
set_option maxHeartbeats 4000000
@[go_sem] theorem cOp_tail_id (x : Op) : (cOp x).tail.take 2 = cId x.c.id := rfl
@[go_sem] theorem cOp_tail_c (x : Op) : (cOp x).tail.take 9 = cChg x.c := rfl
def stepM (m : List Chg) (x : Op) : List Chg := if x.kind = 1 then tputL m x.c else if x.kind = 2 then takeL m x.id else m
def runM : List Chg → List Op → List Chg
  | m, [] => m
  | m, x :: r => runM (stepM m x) r
theorem withG_len' (i : Int) (l : List Chg) : (withoutL l i).length ≤ l.length := by rw [← withG_eq]; exact withG_len i l 0
theorem putL_len' (c : Chg) (l : List Chg) : (putL c l).length = l.length + 1 := by have := putAt_le c l; simp [putL]; omega
theorem stepM_len (m : List Chg) (x : Op) : (stepM m x).length ≤ m.length + 1 := by
  unfold stepM tputL takeL
  have h1 := putL_len' x.c m
  have h2 := withG_len' (placeC m x.id) m
  split
  · split <;> omega
  · split
    · split <;> omega
    · omega
theorem runM_len : ∀ (os : List Op) (m : List Chg), (runM m os).length ≤ m.length + os.length
  | [], m => Nat.le_refl _
  | x :: r, m => by
    have h1 := runM_len r (stepM m x)
    have h2 := stepM_len m x
    simp only [runM, List.length_cons]
    omega

structure few18X where
  os : List Op
  os' : AV
  h_os : SlA 12 cOp os os'
/-- few -/
noncomputable def few18S : HSpec := mkH (ι := few18X) (fun ⟨os, os', h_os⟩ => ([os'], [])) fun ⟨os, os', h_os⟩ => ⟨.sl 12 (rows cOp (os.take 50)), [], []⟩
theorem few18S_atG (os : List Op) (os' : AV) (h_os : SlA 12 cOp os os') : few18S [os'] [] = some (⟨.sl 12 (rows cOp (os.take 50)), [], []⟩) :=
  mkH_at (ι := few18X) (A := fun ⟨os, os', h_os⟩ => ([os'], [])) (R := fun ⟨os, os', h_os⟩ => ⟨.sl 12 (rows cOp (os.take 50)), [], []⟩) (fun i j h => by obtain ⟨os, os', h_os⟩ := i; obtain ⟨os2, os'2, h_os2⟩ := j; simp [and_assoc, cBk_eq_iff, cId_eq_iff, cOrd_eq_iff, cChg_eq_iff, cEff_eq_iff, cKey_eq_iff, cReq_eq_iff, cV_eq_iff, cOp_eq_iff, cOc_eq_iff, rows_iff_Chg] at h; obtain rfl := h; obtain rfl := SlA.inj (fun x y h => cOp_inj h) h_os h_os2; rfl) ⟨os, os', h_os⟩
theorem few18S_at (os : List Op) : few18S [(.sl 12 (rows cOp os))] [] = some (⟨.sl 12 (rows cOp (os.take 50)), [], []⟩) := few18S_atG os _ .sl
theorem few18S_atN : few18S [.nils] [] = some ((fun (os : List Op) => ⟨.sl 12 (rows cOp (os.take 50)), [], []⟩) []) := few18S_atG [] _ .nil

theorem few18_ok : HSound Try.prog 16 few18S := by
  refine sound_ofE (fn := Try.f16) rfl rfl (by kernel_rfl) fun args bx hr hS => ?_
  obtain ⟨⟨os, os', h_os⟩, rfl, rfl, rfl⟩ := mkH_of hS
  clear hS
  refine ⟨_, (EnvOK.nil _), by simp [Try.f16], by simp [go_sem], fun w Mx pin => ?_⟩
  simp only [hB_at, lab_nil, lab_cons, hOf_nil, hOf_cons]
  refine awp_weak (s' := ⟨ofL [(0, (.sl 12 (rows cOp os)))], hOf []⟩) ?_ ?_
  · cases h_os <;> exact weak_of [] (by simp [go_sem]) (by simp [go_sem]) (by simp [go_sem])
  clear h_os
  refine awp_seq fun K1 hK1 => ?_
  refine awp_region ?_
  iterate 1
    refine opsK_cons fun J hJ => ?_
    simp [go_sem]
    refine hJ _ _ _ ?_
    clear hJ J
  refine opsK_nil ?_
  refine hK1 _ ?_
  clear hK1
  refine awp_seq fun K2 hK2 => ?_
  refine awp_seq fun K3 hK3 => ?_
  refine awp_region ?_
  iterate 3
    refine opsK_cons fun J hJ => ?_
    simp [go_sem]
    refine hJ _ _ _ ?_
    clear hJ J
  refine opsK_nil ?_
  refine hK3 _ ?_
  clear hK3
  refine awp_cond (t := _) rfl (fun c4 => ?_) (fun c4 => ?_)
  · simp [go_sem] at c4
    refine awp_seq fun K5 hK5 => ?_
    refine awp_region ?_
    iterate 3
      refine opsK_cons fun J hJ => ?_
      simp [go_sem, show 50 ≤ os.length by omega]
      refine hJ _ _ _ ?_
      clear hJ J
    refine opsK_nil ?_
    refine hK5 _ ?_
    clear hK5
    refine awp_ret ?_
    refine finWQ_of [] ?_
    first | (simp [go_sem, Try.f16]; done) | (simp [go_sem, Try.f16, List.take_of_length_le (show os.length ≤ 50 by omega)]; done)
  · simp [go_sem] at c4
    refine awp_skip ?_
    refine hK2 _ ?_
    clear hK2
    refine awp_seq fun K6 hK6 => ?_
    refine awp_region ?_
    iterate 2
      refine opsK_cons fun J hJ => ?_
      simp [go_sem]
      refine hJ _ _ _ ?_
      clear hJ J
    refine opsK_nil ?_
    refine hK6 _ ?_
    clear hK6
    refine awp_ret ?_
    refine finWQ_of [] ?_
    first | (simp [go_sem, Try.f16]; done) | (simp [go_sem, Try.f16, List.take_of_length_le (show os.length ≤ 50 by omega)]; done)

structure lFreeX where
  l : List Chg
  l' : AV
  a : Id
  h_l : SlA 9 cChg l l'
  hL : l.length ≤ 100000
/-- countermandlaw18.free -/
noncomputable def lFreeS : HSpec := mkH (ι := lFreeX) (fun ⟨l, l', a, h_l, hL⟩ => ([l', .agg (cId a)], [])) fun ⟨l, l', a, h_l, hL⟩ => ⟨.bool (freeC l a), [], []⟩
theorem lFreeS_atG (l : List Chg) (l' : AV) (a : Id) (h_l : SlA 9 cChg l l') (hL : l.length ≤ 100000) : lFreeS [l', .agg (cId a)] [] = some (⟨.bool (freeC l a), [], []⟩) :=
  mkH_at (ι := lFreeX) (A := fun ⟨l, l', a, h_l, hL⟩ => ([l', .agg (cId a)], [])) (R := fun ⟨l, l', a, h_l, hL⟩ => ⟨.bool (freeC l a), [], []⟩) (fun i j h => by obtain ⟨l, l', a, h_l, hL⟩ := i; obtain ⟨l2, l'2, a2, h_l2, hL2⟩ := j; simp [and_assoc, cBk_eq_iff, cId_eq_iff, cOrd_eq_iff, cChg_eq_iff, cEff_eq_iff, cKey_eq_iff, cReq_eq_iff, cV_eq_iff, cOp_eq_iff, cOc_eq_iff, rows_iff_Chg] at h; obtain ⟨rfl, rfl⟩ := h; obtain rfl := SlA.inj (fun x y h => cChg_inj h) h_l h_l2; rfl) ⟨l, l', a, h_l, hL⟩
theorem lFreeS_at (l : List Chg) (a : Id) (hL : l.length ≤ 100000) : lFreeS [(.sl 9 (rows cChg l)), .agg (cId a)] [] = some (⟨.bool (freeC l a), [], []⟩) := lFreeS_atG l _ a .sl hL
theorem lFreeS_atN (a : Id) : lFreeS [.nils, .agg (cId a)] [] = some ((fun (l : List Chg) => ⟨.bool (freeC l a), [], []⟩) []) := lFreeS_atG [] _ a .nil (by simp)

def lFreeI (l : List Chg) (a : Id) (pre _post : List Chg) : St := ⟨ofL [(0, .sl 9 (rows cChg l)), (3, .ref (0, 48) 0), (5, .int .i64 pre.length)], hOf [((0, 48), .obj (cId a))]⟩

theorem lFree_ok : HSound Try.prog 71 lFreeS := by
  refine sound_ofE (fn := Try.f71) rfl rfl (by kernel_rfl) fun args bx hr hS => ?_
  obtain ⟨⟨l, l', a, h_l, hL⟩, rfl, rfl, rfl⟩ := mkH_of hS
  clear hS
  refine ⟨_, (EnvOK.consV (g := 46) (by kernel_rfl) findCR_ok (EnvOK.nil _)), by simp [Try.f71], by simp [go_sem], fun w Mx pin => ?_⟩
  simp only [hB_at, lab_nil, lab_cons, hOf_nil, hOf_cons]
  refine awp_weak (s' := ⟨ofL [(0, (.sl 9 (rows cChg l))), (1, .agg (cId a))], hOf []⟩) ?_ ?_
  · cases h_l <;> exact weak_of [] (by simp [go_sem]) (by simp [go_sem]) (by simp [go_sem])
  clear h_l
  refine awp_seq fun K1 hK1 => ?_
  refine awp_region ?_
  iterate 2
    refine opsK_cons fun J hJ => ?_
    simp [go_sem]
    refine hJ _ _ _ ?_
    clear hJ J
  refine opsK_nil ?_
  refine hK1 _ ?_
  clear hK1
  refine awp_seq fun K2 hK2 => ?_
  refine awp_seq fun K3 hK3 => ?_
  refine awp_region ?_
  iterate 1
    refine opsK_cons fun J hJ => ?_
    simp [go_sem]
    refine hJ _ _ _ ?_
    clear hJ J
  refine opsK_nil ?_
  refine hK3 _ ?_
  clear hK3
  refine awp_block ?_
  refine awp_loop (ι := { q : List Chg × List Chg // q.1 ++ q.2 = l ∧ q.1.any (aheadC a) = false }) (fun q => lFreeI l a q.1.1 q.1.2) (fun q => q.1.2.length) ⟨([], l), rfl, rfl⟩ ?_ ?_
  · refine weak_of [((0, 48), some (0, 48))] (by simp [go_sem]) ?_ ?_ <;> simp [go_sem]
  intro ⟨⟨pre, post⟩, hl, hgo⟩
  simp only at hl hgo
  have hpl := len_small hl hL
  simp only [lFreeI]
  refine awp_seq fun K4 hK4 => ?_
  refine awp_seq fun K5 hK5 => ?_
  refine awp_region ?_
  iterate 4
    refine opsK_cons fun J hJ => ?_
    simp [go_sem]
    refine hJ _ _ _ ?_
    clear hJ J
  refine opsK_nil ?_
  refine hK5 _ ?_
  clear hK5
  refine awp_cond (t := _) rfl (fun c6 => ?_) (fun c6 => ?_)
  · simp [go_sem] at c6
    obtain ⟨x, post, rfl, hx⟩ := mid_lt hl c6
    refine awp_skip ?_
    refine hK4 _ ?_
    clear hK4
    refine awp_seq fun K7 hK7 => ?_
    refine awp_block ?_
    refine awp_seq fun K8 hK8 => ?_
    cases g1 : (x.id.rep == a.rep)
    · skip
      have hah : aheadC a x = false := by simp at g1; simp [aheadC, g1]
      refine awp_draw ?_
      iterate 20
        refine opsK_cons fun J hJ => ?_
        simp [go_sem, hx, g1]
        refine hJ _ _ _ ?_
        clear hJ J
      refine opsK_nil ?_
      refine ⟨rfl, ?_⟩
      refine hK8 _ ?_
      clear hK8
      refine awp_condF rfl ?_
      refine awp_skip ?_
      refine hK7 _ ?_
      clear hK7
      refine awp_region ?_
      iterate 3
        refine opsK_cons fun J hJ => ?_
        simp [go_sem]
        refine hJ _ _ _ ?_
        clear hJ J
      refine opsK_nil ?_
      refine ⟨⟨(pre ++ [x], post), by simp [← hl], by simp [List.any_append, hgo, hah]⟩, ?_, by simp⟩
      refine weak_of [((0, 48), some (0, 48))] (by simp [go_sem]) ?_ ?_ <;> simp [go_sem, wrap_nat hpl]
    · skip
      refine awp_draw ?_
      iterate 20
        refine opsK_cons fun J hJ => ?_
        simp [go_sem, hx, g1]
        refine hJ _ _ _ ?_
        clear hJ J
      refine opsK_nil ?_
      refine ⟨rfl, ?_⟩
      refine hK8 _ ?_
      clear hK8
      refine awp_cond (t := _) rfl (fun c9 => ?_) (fun c9 => ?_)
      · simp [go_sem] at c9
        have hah : aheadC a x = true := by simp at g1; simp [aheadC, g1, c9]
        refine awp_seq fun K10 hK10 => ?_
        refine awp_region ?_
        iterate 1
          refine opsK_cons fun J hJ => ?_
          simp [go_sem]
          refine hJ _ _ _ ?_
          clear hJ J
        refine opsK_nil ?_
        refine hK10 _ ?_
        clear hK10
        refine awp_ret ?_
        have hany : l.any (aheadC a) = true := List.any_eq_true.2 ⟨x, List.mem_of_getElem? hx, hah⟩
        refine finWQ_of [] ?_
        simp [go_sem, Try.f71, freeC, hany]
      · simp [go_sem] at c9
        have hah : aheadC a x = false := by simp at g1; simp [aheadC, g1, c9]
        refine awp_skip ?_
        refine hK7 _ ?_
        clear hK7
        refine awp_region ?_
        iterate 3
          refine opsK_cons fun J hJ => ?_
          simp [go_sem]
          refine hJ _ _ _ ?_
          clear hJ J
        refine opsK_nil ?_
        refine ⟨⟨(pre ++ [x], post), by simp [← hl], by simp [List.any_append, hgo, hah]⟩, ?_, by simp⟩
        refine weak_of [((0, 48), some (0, 48))] (by simp [go_sem]) ?_ ?_ <;> simp [go_sem, wrap_nat hpl]
  · simp [go_sem] at c6
    obtain ⟨rfl, rfl⟩ := mid_nil hl c6
    refine awp_exit ?_
    simp only [go_sem]
    refine hK2 _ ?_
    clear hK2
    refine awp_seq fun K11 hK11 => ?_
    refine awp_region ?_
    iterate 5
      refine opsK_cons fun J hJ => ?_
      simp [go_sem, findCRS_at l a hL]
      refine hJ _ _ _ ?_
      clear hJ J
    refine opsK_nil ?_
    refine hK11 _ ?_
    clear hK11
    refine awp_ret ?_
    refine finWQ_of [] ?_
    simp [go_sem, Try.f71, freeC, hgo]

structure step18X where
  m : List Chg
  m' : AV
  t : List Chg
  t' : AV
  x : Op
  h_m : SlA 9 cChg m m'
  h_t : SlA 9 cChg t t'
  hL : m = t ∧ m.length ≤ 49999
/-- countermandlaw18.step -/
noncomputable def step18S : HSpec := mkH (ι := step18X) (fun ⟨m, m', t, t', x, h_m, h_t, hL⟩ => ([.ref (1, 0) 0, m', .agg (cOp x)], [.obj [t']])) fun ⟨m, m', t, t', x, h_m, h_t, hL⟩ => ⟨.tup [.sl 9 (rows cChg (stepM m x)), .bool true], [.obj [.sl 9 (rows cChg (stepM m x))]], []⟩
theorem step18S_atG (m : List Chg) (m' : AV) (t : List Chg) (t' : AV) (x : Op) (h_m : SlA 9 cChg m m') (h_t : SlA 9 cChg t t') (hL : m = t ∧ m.length ≤ 49999) : step18S [.ref (1, 0) 0, m', .agg (cOp x)] [.obj [t']] = some (⟨.tup [.sl 9 (rows cChg (stepM m x)), .bool true], [.obj [.sl 9 (rows cChg (stepM m x))]], []⟩) :=
  mkH_at (ι := step18X) (A := fun ⟨m, m', t, t', x, h_m, h_t, hL⟩ => ([.ref (1, 0) 0, m', .agg (cOp x)], [.obj [t']])) (R := fun ⟨m, m', t, t', x, h_m, h_t, hL⟩ => ⟨.tup [.sl 9 (rows cChg (stepM m x)), .bool true], [.obj [.sl 9 (rows cChg (stepM m x))]], []⟩) (fun i j h => by obtain ⟨m, m', t, t', x, h_m, h_t, hL⟩ := i; obtain ⟨m2, m'2, t2, t'2, x2, h_m2, h_t2, hL2⟩ := j; simp [and_assoc, cBk_eq_iff, cId_eq_iff, cOrd_eq_iff, cChg_eq_iff, cEff_eq_iff, cKey_eq_iff, cReq_eq_iff, cV_eq_iff, cOp_eq_iff, cOc_eq_iff, rows_iff_Chg] at h; obtain ⟨rfl, rfl, rfl⟩ := h; obtain rfl := SlA.inj (fun x y h => cChg_inj h) h_m h_m2; obtain rfl := SlA.inj (fun x y h => cChg_inj h) h_t h_t2; rfl) ⟨m, m', t, t', x, h_m, h_t, hL⟩
theorem step18S_at (m : List Chg) (t : List Chg) (x : Op) (hL : m = t ∧ m.length ≤ 49999) : step18S [.ref (1, 0) 0, (.sl 9 (rows cChg m)), .agg (cOp x)] [.obj [(.sl 9 (rows cChg t))]] = some (⟨.tup [.sl 9 (rows cChg (stepM m x)), .bool true], [.obj [.sl 9 (rows cChg (stepM m x))]], []⟩) := step18S_atG m _ t _ x .sl .sl hL

theorem step18_ok : HSound Try.prog 53 step18S := by
  refine sound_ofE (fn := Try.f53) rfl rfl (by kernel_rfl) fun args bx hr hS => ?_
  obtain ⟨⟨m, m', t, t', x, h_m, h_t, hL⟩, rfl, rfl, rfl⟩ := mkH_of hS
  clear hS
  refine ⟨_, (EnvOK.consV (g := 46) (by kernel_rfl) findCR_ok (EnvOK.consH (g := 22) (by kernel_rfl) tPut_ok (EnvOK.consV (g := 43) (by kernel_rfl) putCR_ok (EnvOK.consH (g := 20) (by kernel_rfl) tTake_ok (EnvOK.consV (g := 71) (by kernel_rfl) lFree_ok (EnvOK.consV (g := 44) (by kernel_rfl) withCR_ok (EnvOK.consV (g := 23) (by kernel_rfl) tFree_ok (EnvOK.nil _)))))))), by simp [Try.f53], by simp [go_sem], fun w Mx pin => ?_⟩
  simp only [hB_at, lab_nil, lab_cons, hOf_nil, hOf_cons]
  refine awp_weak (s' := ⟨ofL [(0, .ref (1, 0) 0), (1, (.sl 9 (rows cChg m))), (2, .agg (cOp x))], hOf [((1, 0), .obj [(.sl 9 (rows cChg t))])]⟩) ?_ ?_
  · cases h_m <;> cases h_t <;> exact weak_of [((1, 0), some (1, 0))] (by simp [go_sem]) (by simp [go_sem]) (by simp [go_sem])
  clear h_m h_t
  obtain ⟨rfl, hLm⟩ := hL
  refine awp_seq fun K1 hK1 => ?_
  refine awp_region ?_
  iterate 3
    refine opsK_cons fun J hJ => ?_
    simp [go_sem]
    refine hJ _ _ _ ?_
    clear hJ J
  refine opsK_nil ?_
  refine hK1 _ ?_
  clear hK1
  refine awp_seq fun K2 hK2 => ?_
  refine awp_seq fun K3 hK3 => ?_
  refine awp_region ?_
  iterate 3
    refine opsK_cons fun J hJ => ?_
    simp [go_sem]
    refine hJ _ _ _ ?_
    clear hJ J
  refine opsK_nil ?_
  refine hK3 _ ?_
  clear hK3
  refine awp_cond (t := _) rfl (fun c4 => ?_) (fun c4 => ?_)
  · simp [go_sem] at c4
    refine awp_seq fun K5 hK5 => ?_
    refine awp_seq fun K6 hK6 => ?_
    refine awp_region ?_
    iterate 6
      refine opsK_cons fun J hJ => ?_
      simp [go_sem, findCRS_at m x.c.id (by omega)]
      refine hJ _ _ _ ?_
      clear hJ J
    refine opsK_nil ?_
    refine hK6 _ ?_
    clear hK6
    refine awp_cond (t := _) rfl (fun c7 => ?_) (fun c7 => ?_)
    · simp [go_sem] at c7
      have hs : stepM m x = m := by rw [stepM, if_pos c4, tputL, if_pos c7]
      have ht : tputL m x.c = m := if_pos c7
      have hp : decide (placeC m x.c.id < 0) = false := by simp; omega
      refine awp_seq fun K8 hK8 => ?_
      refine awp_region ?_
      iterate 8
        refine opsK_cons fun J hJ => ?_
        simp [go_sem, tPutS_at m x.c (by omega), hp]
        refine hJ _ _ _ ?_
        clear hJ J
      refine opsK_nil ?_
      refine hK8 _ ?_
      clear hK8
      refine awp_ret ?_
      refine finWQ_of [((1, 0), some (1, 0))] ?_
      simp [go_sem, Try.f53, hs, ht]
    · simp [go_sem] at c7
      have hs : stepM m x = putL x.c m := by rw [stepM, if_pos c4, tputL, if_neg (by omega)]
      have ht : tputL m x.c = putL x.c m := if_neg (by omega)
      have hp : decide (placeC m x.c.id < 0) = true := by simp; omega
      refine awp_skip ?_
      refine hK5 _ ?_
      clear hK5
      refine awp_seq fun K9 hK9 => ?_
      refine awp_draw ?_
      iterate 10
        refine opsK_cons fun J hJ => ?_
        simp [go_sem, putCRS_at m x.c (by omega), tPutS_at m x.c (by omega), hp]
        refine hJ _ _ _ ?_
        clear hJ J
      refine opsK_nil ?_
      refine ⟨rfl, ?_⟩
      refine hK9 _ ?_
      clear hK9
      refine awp_ret ?_
      refine finWQ_of [((1, 0), some (1, 0))] ?_
      simp [go_sem, Try.f53, hs, ht]
  · simp [go_sem] at c4
    refine awp_skip ?_
    refine hK2 _ ?_
    clear hK2
    refine awp_seq fun K10 hK10 => ?_
    refine awp_seq fun K11 hK11 => ?_
    refine awp_region ?_
    iterate 3
      refine opsK_cons fun J hJ => ?_
      simp [go_sem]
      refine hJ _ _ _ ?_
      clear hJ J
    refine opsK_nil ?_
    refine hK11 _ ?_
    clear hK11
    refine awp_cond (t := _) rfl (fun c12 => ?_) (fun c12 => ?_)
    · simp [go_sem] at c12
      have hs : stepM m x = takeL m x.id := by rw [stepM, if_neg c4, if_pos c12]
      refine awp_seq fun K13 hK13 => ?_
      cases hf : freeC m x.id
      · skip
        have h1 : takeC m x.id = zChg := if_neg (by simp [hf])
        have h2 : takeL m x.id = m := if_neg (by simp [hf])
        refine awp_region ?_
        iterate 10
          refine opsK_cons fun J hJ => ?_
          simp [go_sem, tTakeS_at m x.id (by omega), hf, h1, h2]
          refine hJ _ _ _ ?_
          clear hJ J
        refine opsK_nil ?_
        refine hK13 _ ?_
        clear hK13
        refine awp_seq fun K14 hK14 => ?_
        refine awp_seq fun K15 hK15 => ?_
        refine awp_region ?_
        iterate 5
          refine opsK_cons fun J hJ => ?_
          simp [go_sem, lFreeS_at m x.id (by omega), hf]
          refine hJ _ _ _ ?_
          clear hJ J
        refine opsK_nil ?_
        refine hK15 _ ?_
        clear hK15
        refine awp_condT rfl ?_
        refine awp_seq fun K17 hK17 => ?_
        refine awp_draw ?_
        iterate 10
          refine opsK_cons fun J hJ => ?_
          simp [go_sem]
          refine hJ _ _ _ ?_
          clear hJ J
        refine opsK_nil ?_
        refine ⟨rfl, ?_⟩
        refine hK17 _ ?_
        clear hK17
        refine awp_ret ?_
        refine finWQ_of [((1, 0), some (1, 0))] ?_
        simp [go_sem, Try.f53, hs, h2]
      · skip
        have h2 : takeL m x.id = withoutL m (placeC m x.id) := if_pos hf
        have hp : 0 ≤ placeC m x.id := by simp only [freeC, Bool.and_eq_true, decide_eq_true_eq] at hf; exact hf.1
        obtain h | ⟨k, y, hk, hpk, hy, _⟩ := placeC_at m x.id
        · omega
        have h1 : takeC m x.id = y := by simp [takeC, hf, hpk, hy]
        rw [hpk] at h2
        refine awp_region ?_
        iterate 10
          refine opsK_cons fun J hJ => ?_
          simp [go_sem, tTakeS_at m x.id (by omega), hf, h1, h2]
          refine hJ _ _ _ ?_
          clear hJ J
        refine opsK_nil ?_
        refine hK13 _ ?_
        clear hK13
        refine awp_seq fun K14 hK14 => ?_
        refine awp_seq fun K15 hK15 => ?_
        refine awp_region ?_
        iterate 5
          refine opsK_cons fun J hJ => ?_
          simp [go_sem, lFreeS_at m x.id (by omega), hf]
          refine hJ _ _ _ ?_
          clear hJ J
        refine opsK_nil ?_
        refine hK15 _ ?_
        clear hK15
        refine awp_condF rfl ?_
        refine awp_skip ?_
        refine hK14 _ ?_
        clear hK14
        refine awp_seq fun K18 hK18 => ?_
        refine awp_region ?_
        iterate 5
          refine opsK_cons fun J hJ => ?_
          simp [go_sem, findCRS_at m x.id (by omega), hpk]
          refine hJ _ _ _ ?_
          clear hJ J
        refine opsK_nil ?_
        refine hK18 _ ?_
        clear hK18
        refine awp_seq fun K19 hK19 => ?_
        refine awp_draw ?_
        iterate 14
          refine opsK_cons fun J hJ => ?_
          simp [go_sem, withCRS_at m (k : Int) (by omega), hk, ↓hy, hy]
          refine hJ _ _ _ ?_
          clear hJ J
        refine opsK_nil ?_
        refine ⟨rfl, ?_⟩
        refine hK19 _ ?_
        clear hK19
        refine awp_ret ?_
        refine finWQ_of [((1, 0), some (1, 0))] ?_
        simp [go_sem, Try.f53, hs, h2]
    · simp [go_sem] at c12
      have hs : stepM m x = m := by rw [stepM, if_neg c4, if_neg c12]
      refine awp_skip ?_
      refine hK10 _ ?_
      clear hK10
      refine awp_seq fun K20 hK20 => ?_
      refine awp_draw ?_
      iterate 12
        refine opsK_cons fun J hJ => ?_
        simp [go_sem, tFreeS_at m x.id (by omega), lFreeS_at m x.id (by omega)]
        refine hJ _ _ _ ?_
        clear hJ J
      refine opsK_nil ?_
      refine ⟨rfl, ?_⟩
      refine hK20 _ ?_
      clear hK20
      refine awp_ret ?_
      refine finWQ_of [((1, 0), some (1, 0))] ?_
      simp [go_sem, Try.f53, hs]

end Go.Proofs.Ytebflegkdfhoaaa.AE
