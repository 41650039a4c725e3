/-
  Package deal, fourth part, and its reference: contracts. Conditions: none; every contract names its own.
-/
import Derived.Test.YtebflegkdfhoaaaDl3
import Derived.Test.YtebflegkdfhoaaaDl2
namespace Go.Proofs.Ytebflegkdfhoaaa.AE
open Go Go.Proofs Go.RowKit
set_option linter.unusedVariables false
set_option linter.unusedSimpArgs false
set_option maxRecDepth 100000
set_option maxHeartbeats 4000000
structure findRfX where
  b : Bk
  os : List Ord
  os' : AV
  a : Id
  h_os : SlA 7 cOrd os os'
  hL : os.length ≤ 100000
/-- countermandref15.Find -/
noncomputable def findRfS : HSpec := mkH (ι := findRfX) (fun ⟨b, os, os', a, h_os, hL⟩ => ([.agg (cBk b os'), .agg (cId a)], [])) fun ⟨b, os, os', a, h_os, hL⟩ => ⟨.int .i64 (placeL os a), [], []⟩
theorem findRfS_atG (b : Bk) (os : List Ord) (os' : AV) (a : Id) (h_os : SlA 7 cOrd os os') (hL : os.length ≤ 100000) : findRfS [.agg (cBk b os'), .agg (cId a)] [] = some (⟨.int .i64 (placeL os a), [], []⟩) :=
  mkH_at (ι := findRfX) (A := fun ⟨b, os, os', a, h_os, hL⟩ => ([.agg (cBk b os'), .agg (cId a)], [])) (R := fun ⟨b, os, os', a, h_os, hL⟩ => ⟨.int .i64 (placeL os a), [], []⟩) (fun i j h => by obtain ⟨b, os, os', a, h_os, hL⟩ := i; obtain ⟨b2, os2, os'2, a2, h_os2, hL2⟩ := j; simp [and_assoc, cBk_eq_iff, cId_eq_iff, cOrd_eq_iff, cChg_eq_iff, cEff_eq_iff, cKey_eq_iff, cReq_eq_iff, cV_eq_iff, cOp_eq_iff, cOc_eq_iff] at h; obtain ⟨rfl, rfl, rfl⟩ := h; obtain rfl := SlA.inj (fun x y h => cOrd_inj h) h_os h_os2; rfl) ⟨b, os, os', a, h_os, hL⟩
theorem findRfS_at (b : Bk) (os : List Ord) (a : Id) (hL : os.length ≤ 100000) : findRfS [.agg (cBk b (.sl 7 (rows cOrd os))), .agg (cId a)] [] = some (⟨.int .i64 (placeL os a), [], []⟩) := findRfS_atG b os _ a .sl hL
theorem findRfS_atN (b : Bk) (a : Id) : findRfS [.agg (cBk b .nils), .agg (cId a)] [] = some ((fun (os : List Ord) => ⟨.int .i64 (placeL os a), [], []⟩) []) := findRfS_atG b [] _ a .nil (by simp)

def findRfI (b : Bk) (os : List Ord) (a : Id) (pre _post : List Ord) : St := ⟨ofL [(2, .ref (0, 32) 0), (3, .ref (0, 48) 0), (5, .int .i64 pre.length)], hOf [((0, 32), .obj (cBk b (.sl 7 (rows cOrd os)))), ((0, 48), .obj (cId a))]⟩

theorem findRf_ok : HSound Try.prog 29 findRfS := by
  refine sound_ofE (fn := Try.f29) rfl rfl (by kernel_rfl) fun args bx hr hS => ?_
  obtain ⟨⟨b, os, os', a, h_os, hL⟩, rfl, rfl, rfl⟩ := mkH_of hS
  clear hS
  refine ⟨_, (EnvOK.nil _), by simp [Try.f29], by simp [go_sem], fun w Mx pin => ?_⟩
  simp only [hB_at, lab_nil, lab_cons, hOf_nil, hOf_cons]
  refine awp_weak (s' := ⟨ofL [(0, .agg (cBk b (.sl 7 (rows cOrd os)))), (1, .agg (cId a))], hOf []⟩) ?_ ?_
  · cases h_os <;> exact weak_of [] (by simp [go_sem]) (by simp [go_sem]) (by simp [go_sem])
  clear h_os
  refine awp_seq fun K1 hK1 => ?_
  refine awp_region ?_
  iterate 3
    refine opsK_cons fun J hJ => ?_
    simp [go_sem]
    refine hJ _ _ _ ?_
    clear hJ J
  refine opsK_nil ?_
  refine hK1 _ ?_
  clear hK1
  refine awp_seq fun K2 hK2 => ?_
  refine awp_seq fun K3 hK3 => ?_
  refine awp_region ?_
  iterate 1
    refine opsK_cons fun J hJ => ?_
    simp [go_sem]
    refine hJ _ _ _ ?_
    clear hJ J
  refine opsK_nil ?_
  refine hK3 _ ?_
  clear hK3
  refine awp_block ?_
  refine awp_loop (ι := { q : List Ord × List Ord // q.1 ++ q.2 = os ∧ idxL (isOrd a) q.2 q.1.length = placeL os a }) (fun q => findRfI b os a q.1.1 q.1.2) (fun q => q.1.2.length) ⟨([], os), rfl, rfl⟩ ?_ ?_
  · refine weak_of [((0, 32), some (0, 32)), ((0, 48), some (0, 48))] (by simp [go_sem]) ?_ ?_ <;> simp [go_sem]
  intro ⟨⟨pre, post⟩, hl, hgo⟩
  simp only at hl hgo
  have hpl := len_small hl hL
  simp only [findRfI]
  refine awp_seq fun K4 hK4 => ?_
  refine awp_seq fun K5 hK5 => ?_
  refine awp_region ?_
  iterate 5
    refine opsK_cons fun J hJ => ?_
    simp [go_sem]
    refine hJ _ _ _ ?_
    clear hJ J
  refine opsK_nil ?_
  refine hK5 _ ?_
  clear hK5
  refine awp_cond (t := _) rfl (fun c6 => ?_) (fun c6 => ?_)
  · simp [go_sem] at c6
    obtain ⟨x, post, rfl, hx⟩ := mid_lt hl c6
    refine awp_skip ?_
    refine hK4 _ ?_
    clear hK4
    refine awp_seq fun K7 hK7 => ?_
    refine awp_block ?_
    refine awp_seq fun K8 hK8 => ?_
    refine awp_draw ?_
    iterate 8
      refine opsK_cons fun J hJ => ?_
      simp [go_sem, hx]
      refine hJ _ _ _ ?_
      clear hJ J
    refine opsK_nil ?_
    refine ⟨rfl, ?_⟩
    refine hK8 _ ?_
    clear hK8
    refine awp_cond (t := _) rfl (fun c9 => ?_) (fun c9 => ?_)
    · simp [go_sem] at c9
      refine awp_seq fun K10 hK10 => ?_
      refine awp_region ?_
      iterate 2
        refine opsK_cons fun J hJ => ?_
        simp [go_sem]
        refine hJ _ _ _ ?_
        clear hJ J
      refine opsK_nil ?_
      refine hK10 _ ?_
      clear hK10
      refine awp_ret ?_
      refine finWQ_of [] ?_
      simp [go_sem, Try.f29, ← hgo, idxL, isOrd, c9]
    · simp [go_sem] at c9
      refine awp_skip ?_
      refine hK7 _ ?_
      clear hK7
      refine awp_region ?_
      iterate 3
        refine opsK_cons fun J hJ => ?_
        simp [go_sem]
        refine hJ _ _ _ ?_
        clear hJ J
      refine opsK_nil ?_
      refine ⟨⟨(pre ++ [x], post), by simp [← hl], by rw [← hgo]; simp [idxL, isOrd, c9]⟩, ?_, by simp⟩
      refine weak_of [((0, 32), some (0, 32)), ((0, 48), some (0, 48))] (by simp [go_sem]) ?_ ?_ <;> simp [go_sem, wrap_nat hpl]
  · simp [go_sem] at c6
    obtain ⟨rfl, rfl⟩ := mid_nil hl c6
    refine awp_exit ?_
    simp only [go_sem]
    refine hK2 _ ?_
    clear hK2
    refine awp_seq fun K11 hK11 => ?_
    refine awp_region ?_
    iterate 1
      refine opsK_cons fun J hJ => ?_
      simp [go_sem]
      refine hJ _ _ _ ?_
      clear hJ J
    refine opsK_nil ?_
    refine hK11 _ ?_
    clear hK11
    refine awp_ret ?_
    refine finWQ_of [] ?_
    simp [go_sem, Try.f29, ← hgo, idxL]

structure putRfX where
  b : Bk
  os : List Ord
  os' : AV
  x : Ord
  h_os : SlA 7 cOrd os os'
  hL : os.length ≤ 50000
/-- countermandref15.Put -/
noncomputable def putRfS : HSpec := mkH (ι := putRfX) (fun ⟨b, os, os', x, h_os, hL⟩ => ([.agg (cBk b os'), .agg (cOrd x)], [])) fun ⟨b, os, os', x, h_os, hL⟩ => ⟨.agg (cBk b (.own (2, 0) (putL os x).length)), [], [.row 53 7 (rows cOrd (putL os x)) false]⟩
theorem putRfS_atG (b : Bk) (os : List Ord) (os' : AV) (x : Ord) (h_os : SlA 7 cOrd os os') (hL : os.length ≤ 50000) : putRfS [.agg (cBk b os'), .agg (cOrd x)] [] = some (⟨.agg (cBk b (.own (2, 0) (putL os x).length)), [], [.row 53 7 (rows cOrd (putL os x)) false]⟩) :=
  mkH_at (ι := putRfX) (A := fun ⟨b, os, os', x, h_os, hL⟩ => ([.agg (cBk b os'), .agg (cOrd x)], [])) (R := fun ⟨b, os, os', x, h_os, hL⟩ => ⟨.agg (cBk b (.own (2, 0) (putL os x).length)), [], [.row 53 7 (rows cOrd (putL os x)) false]⟩) (fun i j h => by obtain ⟨b, os, os', x, h_os, hL⟩ := i; obtain ⟨b2, os2, os'2, x2, h_os2, hL2⟩ := j; simp [and_assoc, cBk_eq_iff, cId_eq_iff, cOrd_eq_iff, cChg_eq_iff, cEff_eq_iff, cKey_eq_iff, cReq_eq_iff, cV_eq_iff, cOp_eq_iff, cOc_eq_iff] at h; obtain ⟨rfl, rfl, rfl⟩ := h; obtain rfl := SlA.inj (fun x y h => cOrd_inj h) h_os h_os2; rfl) ⟨b, os, os', x, h_os, hL⟩
theorem putRfS_at (b : Bk) (os : List Ord) (x : Ord) (hL : os.length ≤ 50000) : putRfS [.agg (cBk b (.sl 7 (rows cOrd os))), .agg (cOrd x)] [] = some (⟨.agg (cBk b (.own (2, 0) (putL os x).length)), [], [.row 53 7 (rows cOrd (putL os x)) false]⟩) := putRfS_atG b os _ x .sl hL
theorem putRfS_atN (b : Bk) (x : Ord) : putRfS [.agg (cBk b .nils), .agg (cOrd x)] [] = some ((fun (os : List Ord) => ⟨.agg (cBk b (.own (2, 0) (putL os x).length)), [], [.row 53 7 (rows cOrd (putL os x)) false]⟩) []) := putRfS_atG b [] _ x .nil (by simp)

def putRfI (b : Bk) (os : List Ord) (x : Ord) (pre _post : List Ord) (k : Nat) : St := ⟨ofL [(2, .ref (0, 32) 0), (3, .ref (0, 48) 0), (4, .ref (0, 64) 0), (5, .nils), (7, .int .i64 k), (8, .int .i64 pre.length)], hOf [((0, 32), .obj (cBk b (.sl 7 (rows cOrd os)))), ((0, 48), .obj (cOrd x)), ((0, 64), .obj (cBk zBk .nils))]⟩

theorem putRf_ok : HSound Try.prog 28 putRfS := by
  refine sound_ofE (fn := Try.f28) rfl rfl (by kernel_rfl) fun args bx hr hS => ?_
  obtain ⟨⟨b, os, os', x, h_os, hL⟩, rfl, rfl, rfl⟩ := mkH_of hS
  clear hS
  refine ⟨_, (EnvOK.consV (g := 29) (by kernel_rfl) findRf_ok (EnvOK.consV (g := 61) (by kernel_rfl) lessR_ok (EnvOK.nil _))), by simp [Try.f28], by simp [go_sem], fun w Mx pin => ?_⟩
  simp only [hB_at, lab_nil, lab_cons, hOf_nil, hOf_cons]
  refine awp_weak (s' := ⟨ofL [(0, .agg (cBk b (.sl 7 (rows cOrd os)))), (1, .agg (cOrd x))], hOf []⟩) ?_ ?_
  · cases h_os <;> exact weak_of [] (by simp [go_sem]) (by simp [go_sem]) (by simp [go_sem])
  clear h_os
  have hpc := place_cases os x.id
  refine awp_seq fun K1 hK1 => ?_
  refine awp_region ?_
  iterate 3
    refine opsK_cons fun J hJ => ?_
    simp [go_sem]
    refine hJ _ _ _ ?_
    clear hJ J
  refine opsK_nil ?_
  refine hK1 _ ?_
  clear hK1
  refine awp_seq fun K2 hK2 => ?_
  refine awp_region ?_
  iterate 1
    refine opsK_cons fun J hJ => ?_
    simp [go_sem]
    refine hJ _ _ _ ?_
    clear hJ J
  refine opsK_nil ?_
  refine hK2 _ ?_
  clear hK2
  refine awp_seq fun K3 hK3 => ?_
  refine awp_region ?_
  iterate 5
    refine opsK_cons fun J hJ => ?_
    simp [go_sem, findRfS_at b os x.id (by omega)]
    refine hJ _ _ _ ?_
    clear hJ J
  refine opsK_nil ?_
  refine hK3 _ ?_
  clear hK3
  refine awp_seq fun K4 hK4 => ?_
  refine awp_seq fun K5 hK5 => ?_
  refine awp_region ?_
  iterate 2
    refine opsK_cons fun J hJ => ?_
    simp [go_sem]
    refine hJ _ _ _ ?_
    clear hJ J
  refine opsK_nil ?_
  refine hK5 _ ?_
  clear hK5
  refine awp_cond (t := _) rfl (fun c6 => ?_) (fun c6 => ?_)
  · simp [go_sem] at c6
    obtain ⟨h1, _⟩ | ⟨k, z, hk0, hk, hz, _, hf⟩ := hpc
    · omega
    refine awp_seq fun K7 hK7 => ?_
    refine awp_region ?_
    iterate 5
      refine opsK_cons fun J hJ => ?_
      simp [go_sem, show (os.length) * 56 ≤ 140737488355328 by omega, show os.length ≤ maxLen by simp only [maxLen]; omega]
      refine hJ _ _ _ ?_
      clear hJ J
    refine opsK_nil ?_
    refine hK7 _ ?_
    clear hK7
    refine awp_seq fun K8 hK8 => ?_
    refine awp_region ?_
    iterate 5
      refine opsK_cons fun J hJ => ?_
      simp [go_sem, hk, hk0, hz]
      refine hJ _ _ _ ?_
      clear hJ J
    refine opsK_nil ?_
    refine hK8 _ ?_
    clear hK8
    refine awp_seq fun K9 hK9 => ?_
    refine awp_region ?_
    iterate 3
      refine opsK_cons fun J hJ => ?_
      simp [go_sem]
      refine hJ _ _ _ ?_
      clear hJ J
    refine opsK_nil ?_
    refine hK9 _ ?_
    clear hK9
    refine awp_seq fun K10 hK10 => ?_
    refine awp_region ?_
    iterate 2
      refine opsK_cons fun J hJ => ?_
      simp [go_sem]
      refine hJ _ _ _ ?_
      clear hJ J
    refine opsK_nil ?_
    refine hK10 _ ?_
    clear hK10
    refine awp_ret ?_
    have hp : putL os x = os.set k x := by
      unfold putL
      rw [if_pos (by omega), hk]
      simp
    refine finWQ_of [((2, 0), some (0, 288))] ?_
    simp [go_sem, Try.f28, hp]
  · simp [go_sem] at c6
    clear hpc
    refine awp_skip ?_
    refine hK4 _ ?_
    clear hK4
    refine awp_seq fun K11 hK11 => ?_
    refine awp_region ?_
    iterate 1
      refine opsK_cons fun J hJ => ?_
      simp [go_sem]
      refine hJ _ _ _ ?_
      clear hJ J
    refine opsK_nil ?_
    refine hK11 _ ?_
    clear hK11
    refine awp_seq fun K12 hK12 => ?_
    refine awp_seq fun K13 hK13 => ?_
    refine awp_region ?_
    iterate 1
      refine opsK_cons fun J hJ => ?_
      simp [go_sem]
      refine hJ _ _ _ ?_
      clear hJ J
    refine opsK_nil ?_
    refine hK13 _ ?_
    clear hK13
    refine awp_block ?_
    refine awp_loop (ι := { q : List Ord × List Ord × Nat // q.1 ++ q.2.1 = os ∧ q.2.2 ≤ q.1.length ∧ atG x.id q.2.1 q.1.length q.2.2 = atG x.id os 0 0 }) (fun q => putRfI b os x q.1.1 q.1.2.1 q.1.2.2) (fun q => q.1.2.1.length) ⟨([], os, 0), rfl, ⟨Nat.le_refl _, rfl⟩⟩ ?_ ?_
    · refine weak_of [((0, 32), some (0, 32)), ((0, 48), some (0, 48)), ((0, 64), some (0, 64))] (by simp [go_sem]) ?_ ?_ <;> simp [go_sem]
    intro ⟨⟨pre, post, k⟩, hl, hgo⟩
    simp only at hl hgo
    have hpl := len_small hl (show os.length ≤ 100000 by omega)
    simp only [putRfI]
    refine awp_seq fun K14 hK14 => ?_
    refine awp_seq fun K15 hK15 => ?_
    refine awp_region ?_
    iterate 5
      refine opsK_cons fun J hJ => ?_
      simp [go_sem]
      refine hJ _ _ _ ?_
      clear hJ J
    refine opsK_nil ?_
    refine hK15 _ ?_
    clear hK15
    refine awp_cond (t := _) rfl (fun c16 => ?_) (fun c16 => ?_)
    · simp [go_sem] at c16
      obtain ⟨y, post, rfl, hx⟩ := mid_lt hl c16
      refine awp_skip ?_
      refine hK14 _ ?_
      clear hK14
      refine awp_seq fun K17 hK17 => ?_
      refine awp_block ?_
      refine awp_seq fun K18 hK18 => ?_
      refine awp_draw ?_
      iterate 9
        refine opsK_cons fun J hJ => ?_
        simp [go_sem, hx, lessRS_at, less_eq]
        refine hJ _ _ _ ?_
        clear hJ J
      refine opsK_nil ?_
      refine ⟨rfl, ?_⟩
      refine hK18 _ ?_
      clear hK18
      refine awp_cond (t := _) rfl (fun c19 => ?_) (fun c19 => ?_)
      · skip
        refine awp_region ?_
        iterate 3
          refine opsK_cons fun J hJ => ?_
          simp [go_sem, wrap_nat hpl]
          refine hJ _ _ _ ?_
          clear hJ J
        refine opsK_nil ?_
        refine hK17 _ ?_
        clear hK17
        refine awp_region ?_
        iterate 3
          refine opsK_cons fun J hJ => ?_
          simp [go_sem]
          refine hJ _ _ _ ?_
          clear hJ J
        refine opsK_nil ?_
        refine ⟨⟨(pre ++ [y], post, (if lessId y.id x.id = true then pre.length + 1 else k)), by simp [← hl], by exact ⟨by simp; split <;> omega, by rw [← hgo.2]; simp [atG]⟩⟩, ?_, by simp⟩
        refine weak_of [((0, 32), some (0, 32)), ((0, 48), some (0, 48)), ((0, 64), some (0, 64))] (by simp [go_sem]) ?_ ?_ <;> simp [go_sem, wrap_nat hpl, c19]
      · skip
        refine awp_skip ?_
        refine hK17 _ ?_
        clear hK17
        refine awp_region ?_
        iterate 3
          refine opsK_cons fun J hJ => ?_
          simp [go_sem]
          refine hJ _ _ _ ?_
          clear hJ J
        refine opsK_nil ?_
        refine ⟨⟨(pre ++ [y], post, (if lessId y.id x.id = true then pre.length + 1 else k)), by simp [← hl], by exact ⟨by simp; split <;> omega, by rw [← hgo.2]; simp [atG]⟩⟩, ?_, by simp⟩
        refine weak_of [((0, 32), some (0, 32)), ((0, 48), some (0, 48)), ((0, 64), some (0, 64))] (by simp [go_sem]) ?_ ?_ <;> simp [go_sem, wrap_nat hpl, c19]
    · simp [go_sem] at c16
      obtain ⟨rfl, rfl⟩ := mid_nil hl c16
      obtain ⟨hk, hgo⟩ := hgo
      simp only [atG] at hgo
      refine awp_exit ?_
      simp only [go_sem]
      refine hK12 _ ?_
      clear hK12
      refine awp_seq fun K20 hK20 => ?_
      refine awp_region ?_
      iterate 7
        refine opsK_cons fun J hJ => ?_
        simp [go_sem, hk, Nat.min_eq_left hk, show (k) * 56 ≤ 140737488355328 by omega, show k ≤ maxLen by simp only [maxLen]; omega]
        refine hJ _ _ _ ?_
        clear hJ J
      refine opsK_nil ?_
      refine hK20 _ ?_
      clear hK20
      refine awp_seq fun K21 hK21 => ?_
      refine awp_region ?_
      iterate 5
        refine opsK_cons fun J hJ => ?_
        simp [go_sem, Nat.min_eq_left hk, show (k + 1) * 56 ≤ 140737488355328 by omega, show k + 1 ≤ maxLen by simp only [maxLen]; omega]
        refine hJ _ _ _ ?_
        clear hJ J
      refine opsK_nil ?_
      refine hK21 _ ?_
      clear hK21
      refine awp_seq fun K22 hK22 => ?_
      refine awp_region ?_
      iterate 7
        refine opsK_cons fun J hJ => ?_
        simp [go_sem, hk, Nat.min_eq_left hk, show (k + 1 + (os.length - k)) * 56 ≤ 140737488355328 by omega, show k + 1 + (os.length - k) ≤ maxLen by simp only [maxLen]; omega]
        refine hJ _ _ _ ?_
        clear hJ J
      refine opsK_nil ?_
      refine hK22 _ ?_
      clear hK22
      refine awp_seq fun K23 hK23 => ?_
      refine awp_region ?_
      iterate 3
        refine opsK_cons fun J hJ => ?_
        simp [go_sem]
        refine hJ _ _ _ ?_
        clear hJ J
      refine opsK_nil ?_
      refine hK23 _ ?_
      clear hK23
      refine awp_seq fun K24 hK24 => ?_
      refine awp_region ?_
      iterate 2
        refine opsK_cons fun J hJ => ?_
        simp [go_sem]
        refine hJ _ _ _ ?_
        clear hJ J
      refine opsK_nil ?_
      refine hK24 _ ?_
      clear hK24
      refine awp_ret ?_
      have hp : putL os x = os.take k ++ [x] ++ os.drop k := by
        unfold putL
        rw [if_neg (by omega), hgo]
      have ht : List.take (k + 1) (List.take k (List.take k os) ++ [x]) = List.take k os ++ [x] := by
        rw [List.take_take, Nat.min_self]
        exact List.take_of_length_le (by simp; omega)
      refine finWQ_of [((2, 0), some (0, 944))] ?_
      simp [go_sem, Try.f28, hp, ht, Nat.min_eq_left hk]
      try omega

structure few15X where
  b : Bk
  os : List Ord
  os' : AV
  h_os : SlA 7 cOrd os os'
/-- few -/
noncomputable def few15S : HSpec := mkH (ι := few15X) (fun ⟨b, os, os', h_os⟩ => ([.agg (cBk b os')], [])) fun ⟨b, os, os', h_os⟩ => ⟨.agg (cBk b (.sl 7 (rows cOrd (os.take 40)))), [], []⟩
theorem few15S_atG (b : Bk) (os : List Ord) (os' : AV) (h_os : SlA 7 cOrd os os') : few15S [.agg (cBk b os')] [] = some (⟨.agg (cBk b (.sl 7 (rows cOrd (os.take 40)))), [], []⟩) :=
  mkH_at (ι := few15X) (A := fun ⟨b, os, os', h_os⟩ => ([.agg (cBk b os')], [])) (R := fun ⟨b, os, os', h_os⟩ => ⟨.agg (cBk b (.sl 7 (rows cOrd (os.take 40)))), [], []⟩) (fun i j h => by obtain ⟨b, os, os', h_os⟩ := i; obtain ⟨b2, os2, os'2, h_os2⟩ := j; simp [and_assoc, cBk_eq_iff, cId_eq_iff, cOrd_eq_iff, cChg_eq_iff, cEff_eq_iff, cKey_eq_iff, cReq_eq_iff, cV_eq_iff, cOp_eq_iff, cOc_eq_iff] at h; obtain ⟨rfl, rfl⟩ := h; obtain rfl := SlA.inj (fun x y h => cOrd_inj h) h_os h_os2; rfl) ⟨b, os, os', h_os⟩
theorem few15S_at (b : Bk) (os : List Ord) : few15S [.agg (cBk b (.sl 7 (rows cOrd os)))] [] = some (⟨.agg (cBk b (.sl 7 (rows cOrd (os.take 40)))), [], []⟩) := few15S_atG b os _ .sl
theorem few15S_atN (b : Bk) : few15S [.agg (cBk b .nils)] [] = some ((fun (os : List Ord) => ⟨.agg (cBk b (.sl 7 (rows cOrd (os.take 40)))), [], []⟩) []) := few15S_atG b [] _ .nil

theorem few15_ok : HSound Try.prog 26 few15S := by
  refine sound_ofE (fn := Try.f26) rfl rfl (by kernel_rfl) fun args bx hr hS => ?_
  obtain ⟨⟨b, os, os', h_os⟩, rfl, rfl, rfl⟩ := mkH_of hS
  clear hS
  refine ⟨_, (EnvOK.nil _), by simp [Try.f26], by simp [go_sem], fun w Mx pin => ?_⟩
  simp only [hB_at, lab_nil, lab_cons, hOf_nil, hOf_cons]
  refine awp_weak (s' := ⟨ofL [(0, .agg (cBk b (.sl 7 (rows cOrd os))))], hOf []⟩) ?_ ?_
  · cases h_os <;> exact weak_of [] (by simp [go_sem]) (by simp [go_sem]) (by simp [go_sem])
  clear h_os
  refine awp_seq fun K1 hK1 => ?_
  refine awp_region ?_
  iterate 2
    refine opsK_cons fun J hJ => ?_
    simp [go_sem]
    refine hJ _ _ _ ?_
    clear hJ J
  refine opsK_nil ?_
  refine hK1 _ ?_
  clear hK1
  refine awp_seq fun K2 hK2 => ?_
  refine awp_seq fun K3 hK3 => ?_
  refine awp_region ?_
  iterate 4
    refine opsK_cons fun J hJ => ?_
    simp [go_sem]
    refine hJ _ _ _ ?_
    clear hJ J
  refine opsK_nil ?_
  refine hK3 _ ?_
  clear hK3
  refine awp_cond (t := _) rfl (fun c4 => ?_) (fun c4 => ?_)
  · simp [go_sem] at c4
    refine awp_region ?_
    iterate 5
      refine opsK_cons fun J hJ => ?_
      simp [go_sem, show 40 ≤ os.length by omega]
      refine hJ _ _ _ ?_
      clear hJ J
    refine opsK_nil ?_
    refine hK2 _ ?_
    clear hK2
    refine awp_seq fun K5 hK5 => ?_
    refine awp_region ?_
    iterate 2
      refine opsK_cons fun J hJ => ?_
      simp [go_sem]
      refine hJ _ _ _ ?_
      clear hJ J
    refine opsK_nil ?_
    refine hK5 _ ?_
    clear hK5
    refine awp_ret ?_
    refine finWQ_of [] ?_
    first | (simp [go_sem, Try.f26]; done) | (simp [go_sem, Try.f26, List.take_of_length_le (show os.length ≤ 40 by omega)]; done)
  · simp [go_sem] at c4
    refine awp_skip ?_
    refine hK2 _ ?_
    clear hK2
    refine awp_seq fun K5 hK5 => ?_
    refine awp_region ?_
    iterate 2
      refine opsK_cons fun J hJ => ?_
      simp [go_sem]
      refine hJ _ _ _ ?_
      clear hJ J
    refine opsK_nil ?_
    refine hK5 _ ?_
    clear hK5
    refine awp_ret ?_
    refine finWQ_of [] ?_
    first | (simp [go_sem, Try.f26]; done) | (simp [go_sem, Try.f26, List.take_of_length_le (show os.length ≤ 40 by omega)]; done)

/-- deal.New's answer. -/
def newC (os : List Ord) (x : Ord) : Int := if 0 ≤ placeL os x.id then 9 else if 32 ≤ os.length then 3 else 0
def newR (b : Bk) (os : List Ord) (x : Ord) : HR := if newC os x = 0 then ⟨.tup [.agg (cBk b (.own (2, 0) (putL os x).length)), .int .i64 0], [], [.row 53 7 (rows cOrd (putL os x)) false]⟩ else ⟨.tup [.agg (cBk zBk (.sl 7 [])), .int .i64 (newC os x)], [], []⟩
theorem newR_goOn (b : Bk) (os : List Ord) (x : Ord) : (newR b os x).up = [] := by unfold newR; split <;> rfl
theorem newR_0 {b : Bk} {os : List Ord} {x : Ord} (h : newC os x = 0) : newR b os x = ⟨.tup [.agg (cBk b (.own (2, 0) (putL os x).length)), .int .i64 0], [], [.row 53 7 (rows cOrd (putL os x)) false]⟩ := if_pos h
theorem newR_e {b : Bk} {os : List Ord} {x : Ord} {e : Int} (h : newC os x = e) (he : e ≠ 0) : newR b os x = ⟨.tup [.agg (cBk zBk (.sl 7 [])), .int .i64 e], [], []⟩ := by subst h; exact if_neg he

structure newX where
  b : Bk
  os : List Ord
  os' : AV
  x : Ord
  h_os : SlA 7 cOrd os os'
  hL : os.length ≤ 50000
/-- deal.New -/
noncomputable def newS : HSpec := mkH (ι := newX) (fun ⟨b, os, os', x, h_os, hL⟩ => ([.agg (cBk b os'), .agg (cOrd x)], [])) fun ⟨b, os, os', x, h_os, hL⟩ => newR b os x
theorem newS_atG (b : Bk) (os : List Ord) (os' : AV) (x : Ord) (h_os : SlA 7 cOrd os os') (hL : os.length ≤ 50000) : newS [.agg (cBk b os'), .agg (cOrd x)] [] = some (newR b os x) :=
  mkH_at (ι := newX) (A := fun ⟨b, os, os', x, h_os, hL⟩ => ([.agg (cBk b os'), .agg (cOrd x)], [])) (R := fun ⟨b, os, os', x, h_os, hL⟩ => newR b os x) (fun i j h => by obtain ⟨b, os, os', x, h_os, hL⟩ := i; obtain ⟨b2, os2, os'2, x2, h_os2, hL2⟩ := j; simp [and_assoc, cBk_eq_iff, cId_eq_iff, cOrd_eq_iff, cChg_eq_iff, cEff_eq_iff, cKey_eq_iff, cReq_eq_iff, cV_eq_iff, cOp_eq_iff, cOc_eq_iff] at h; obtain ⟨rfl, rfl, rfl⟩ := h; obtain rfl := SlA.inj (fun x y h => cOrd_inj h) h_os h_os2; rfl) ⟨b, os, os', x, h_os, hL⟩
theorem newS_at (b : Bk) (os : List Ord) (x : Ord) (hL : os.length ≤ 50000) : newS [.agg (cBk b (.sl 7 (rows cOrd os))), .agg (cOrd x)] [] = some (newR b os x) := newS_atG b os _ x .sl hL
theorem newS_atN (b : Bk) (x : Ord) : newS [.agg (cBk b .nils), .agg (cOrd x)] [] = some ((fun (os : List Ord) => newR b os x) []) := newS_atG b [] _ x .nil (by simp)

theorem new_ok : HSound Try.prog 32 newS := by
  refine sound_ofE (fn := Try.f32) rfl rfl (by kernel_rfl) fun args bx hr hS => ?_
  obtain ⟨⟨b, os, os', x, h_os, hL⟩, rfl, rfl, rfl⟩ := mkH_of hS
  clear hS
  refine ⟨_, (EnvOK.consV (g := 57) (by kernel_rfl) place_ok (EnvOK.consV (g := 27) (by kernel_rfl) put_ok (EnvOK.nil _))), by simp [Try.f32], by simp [newR_goOn, go_sem], fun w Mx pin => ?_⟩
  simp only [hB_at, lab_nil, lab_cons, hOf_nil, hOf_cons]
  refine awp_weak (s' := ⟨ofL [(0, .agg (cBk b (.sl 7 (rows cOrd os)))), (1, .agg (cOrd x))], hOf []⟩) ?_ ?_
  · cases h_os <;> exact weak_of [] (by simp [go_sem]) (by simp [go_sem]) (by simp [go_sem])
  clear h_os
  refine awp_seq fun K1 hK1 => ?_
  refine awp_region ?_
  iterate 4
    refine opsK_cons fun J hJ => ?_
    simp [go_sem]
    refine hJ _ _ _ ?_
    clear hJ J
  refine opsK_nil ?_
  refine hK1 _ ?_
  clear hK1
  refine awp_seq fun K2 hK2 => ?_
  refine awp_block ?_
  refine awp_seq fun K3 hK3 => ?_
  refine awp_region ?_
  iterate 6
    refine opsK_cons fun J hJ => ?_
    simp [go_sem, placeS_at b os x.id (by omega)]
    refine hJ _ _ _ ?_
    clear hJ J
  refine opsK_nil ?_
  refine hK3 _ ?_
  clear hK3
  refine awp_cond (t := _) rfl (fun c4 => ?_) (fun c4 => ?_)
  · simp [go_sem] at c4
    have hn : newR b os x = _ := newR_e (e := 9) (by simp [newC, c4]) (by decide)
    refine awp_seq fun K5 hK5 => ?_
    refine awp_region ?_
    iterate 3
      refine opsK_cons fun J hJ => ?_
      simp [go_sem]
      refine hJ _ _ _ ?_
      clear hJ J
    refine opsK_nil ?_
    refine hK5 _ ?_
    clear hK5
    refine awp_ret ?_
    rw [hn]
    refine finWQ_of [] ?_
    simp [go_sem, Try.f32]
  · simp [go_sem] at c4
    refine awp_seq fun K6 hK6 => ?_
    refine awp_region ?_
    iterate 5
      refine opsK_cons fun J hJ => ?_
      simp [go_sem]
      refine hJ _ _ _ ?_
      clear hJ J
    refine opsK_nil ?_
    refine hK6 _ ?_
    clear hK6
    refine awp_cond (t := _) rfl (fun c7 => ?_) (fun c7 => ?_)
    · simp [go_sem] at c7
      have hn : newR b os x = _ := newR_e (e := 3) (by simp [newC, show ¬ 0 ≤ placeL os x.id by omega, show 32 ≤ os.length by omega]) (by decide)
      refine awp_seq fun K8 hK8 => ?_
      refine awp_region ?_
      iterate 3
        refine opsK_cons fun J hJ => ?_
        simp [go_sem]
        refine hJ _ _ _ ?_
        clear hJ J
      refine opsK_nil ?_
      refine hK8 _ ?_
      clear hK8
      refine awp_ret ?_
      rw [hn]
      refine finWQ_of [] ?_
      simp [go_sem, Try.f32]
    · simp [go_sem] at c7
      have hn : newR b os x = _ := newR_0 (by simp [newC, show ¬ 0 ≤ placeL os x.id by omega, show ¬ 32 ≤ os.length by omega])
      refine awp_skip ?_
      refine hK2 _ ?_
      clear hK2
      refine awp_seq fun K9 hK9 => ?_
      refine awp_region ?_
      iterate 5
        refine opsK_cons fun J hJ => ?_
        simp [go_sem, putS_at b os x hL]
        refine hJ _ _ _ ?_
        clear hJ J
      refine opsK_nil ?_
      refine hK9 _ ?_
      clear hK9
      refine awp_ret ?_
      rw [hn]
      refine finWQ_of [((2, 0), some (0, 16 * 21))] ?_
      simp [go_sem, Try.f32]

end Go.Proofs.Ytebflegkdfhoaaa.AE
