/-
  Package deal, third part: contracts. Conditions: none; every contract names its own.
-/
import Derived.Test.YtebflegkdfhoaaaDl1
import Derived.Test.YtebflegkdfhoaaaSl3
namespace Go.Proofs.Ytebflegkdfhoaaa.AE
open Go Go.Proofs Go.RowKit
set_option linter.unusedVariables false
set_option linter.unusedSimpArgs false
set_option maxRecDepth 100000
set_option maxHeartbeats 4000000
/-- deal.In's answer. -/
def inC (os : List Ord) (a : Id) (st : List Int) : Int := match findL os a with
  | none => 14
  | some x => if x.state ∈ st then 0 else 9
def inO (os : List Ord) (a : Id) (st : List Int) : Ord := if inC os a st = 0 then (findL os a).getD zOrd else zOrd

structure inX where
  b : Bk
  os : List Ord
  os' : AV
  a : Id
  st : List Int
  st' : AV
  h_os : SlA 7 cOrd os os'
  h_st : SlA 1 cInt st st'
  hL : os.length ≤ 100000 ∧ st.length ≤ 9223372036854775807
/-- deal.In -/
noncomputable def inS : HSpec := mkH (ι := inX) (fun ⟨b, os, os', a, st, st', h_os, h_st, hL⟩ => ([.agg (cBk b os'), .agg (cId a), st'], [])) fun ⟨b, os, os', a, st, st', h_os, h_st, hL⟩ => ⟨.tup [.agg (cOrd (inO os a st)), .int .i64 (inC os a st)], [], []⟩
theorem inS_atG (b : Bk) (os : List Ord) (os' : AV) (a : Id) (st : List Int) (st' : AV) (h_os : SlA 7 cOrd os os') (h_st : SlA 1 cInt st st') (hL : os.length ≤ 100000 ∧ st.length ≤ 9223372036854775807) : inS [.agg (cBk b os'), .agg (cId a), st'] [] = some (⟨.tup [.agg (cOrd (inO os a st)), .int .i64 (inC os a st)], [], []⟩) :=
  mkH_at (ι := inX) (A := fun ⟨b, os, os', a, st, st', h_os, h_st, hL⟩ => ([.agg (cBk b os'), .agg (cId a), st'], [])) (R := fun ⟨b, os, os', a, st, st', h_os, h_st, hL⟩ => ⟨.tup [.agg (cOrd (inO os a st)), .int .i64 (inC os a st)], [], []⟩) (fun i j h => by obtain ⟨b, os, os', a, st, st', h_os, h_st, hL⟩ := i; obtain ⟨b2, os2, os'2, a2, st2, st'2, h_os2, h_st2, hL2⟩ := j; simp [and_assoc, cBk_eq_iff, cId_eq_iff, cOrd_eq_iff, cChg_eq_iff, cEff_eq_iff, cKey_eq_iff, cReq_eq_iff, cV_eq_iff, cOp_eq_iff, cOc_eq_iff] at h; obtain ⟨rfl, rfl, rfl, rfl⟩ := h; obtain rfl := SlA.inj (fun x y h => cOrd_inj h) h_os h_os2; obtain rfl := SlA.inj (fun x y h => cInt_inj h) h_st h_st2; rfl) ⟨b, os, os', a, st, st', h_os, h_st, hL⟩
theorem inS_at (b : Bk) (os : List Ord) (a : Id) (st : List Int) (hL : os.length ≤ 100000 ∧ st.length ≤ 9223372036854775807) : inS [.agg (cBk b (.sl 7 (rows cOrd os))), .agg (cId a), (.sl 1 (rows cInt st))] [] = some (⟨.tup [.agg (cOrd (inO os a st)), .int .i64 (inC os a st)], [], []⟩) := inS_atG b os _ a st _ .sl .sl hL

theorem in_ok : HSound Try.prog 33 inS := by
  refine sound_ofE (fn := Try.f33) rfl rfl (by kernel_rfl) fun args bx hr hS => ?_
  obtain ⟨⟨b, os, os', a, st, st', h_os, h_st, hL⟩, rfl, rfl, rfl⟩ := mkH_of hS
  clear hS
  refine ⟨_, (EnvOK.consV (g := 30) (by kernel_rfl) find_ok (EnvOK.consV (g := 62) (by kernel_rfl) contInt_ok (EnvOK.nil _))), by simp [Try.f33], by simp [go_sem], fun w Mx pin => ?_⟩
  simp only [hB_at, lab_nil, lab_cons, hOf_nil, hOf_cons]
  refine awp_weak (s' := ⟨ofL [(0, .agg (cBk b (.sl 7 (rows cOrd os)))), (1, .agg (cId a)), (2, (.sl 1 (rows cInt st)))], hOf []⟩) ?_ ?_
  · cases h_os <;> cases h_st <;> exact weak_of [] (by simp [go_sem]) (by simp [go_sem]) (by simp [go_sem])
  clear h_os h_st
  refine awp_seq fun K1 hK1 => ?_
  refine awp_region ?_
  iterate 4
    refine opsK_cons fun J hJ => ?_
    simp [go_sem]
    refine hJ _ _ _ ?_
    clear hJ J
  refine opsK_nil ?_
  refine hK1 _ ?_
  clear hK1
  refine awp_seq fun K2 hK2 => ?_
  refine awp_region ?_
  iterate 9
    refine opsK_cons fun J hJ => ?_
    simp [go_sem, findS_at b os a hL.1, findR]
    refine hJ _ _ _ ?_
    clear hJ J
  refine opsK_nil ?_
  refine hK2 _ ?_
  clear hK2
  refine awp_seq fun K3 hK3 => ?_
  refine awp_block ?_
  refine awp_seq fun K4 hK4 => ?_
  refine awp_region ?_
  iterate 3
    refine opsK_cons fun J hJ => ?_
    simp [go_sem]
    refine hJ _ _ _ ?_
    clear hJ J
  refine opsK_nil ?_
  refine hK4 _ ?_
  clear hK4
  refine awp_cond (t := _) rfl (fun c5 => ?_) (fun c5 => ?_)
  · skip
    refine awp_seq fun K6 hK6 => ?_
    refine awp_region ?_
    iterate 3
      refine opsK_cons fun J hJ => ?_
      simp [go_sem]
      refine hJ _ _ _ ?_
      clear hJ J
    refine opsK_nil ?_
    refine hK6 _ ?_
    clear hK6
    refine awp_ret ?_
    refine finWQ_of [] ?_
    cases hf : findL os a
    · simp [go_sem, Try.f33, inO, inC, hf]
    · simp [hf] at c5
  · skip
    refine awp_seq fun K7 hK7 => ?_
    refine awp_region ?_
    iterate 6
      refine opsK_cons fun J hJ => ?_
      simp [go_sem, contIntS_at st ((findL os a).getD zOrd).state hL.2]
      refine hJ _ _ _ ?_
      clear hJ J
    refine opsK_nil ?_
    refine hK7 _ ?_
    clear hK7
    refine awp_cond (t := _) rfl (fun c8 => ?_) (fun c8 => ?_)
    · skip
      refine awp_seq fun K9 hK9 => ?_
      refine awp_region ?_
      iterate 3
        refine opsK_cons fun J hJ => ?_
        simp [go_sem]
        refine hJ _ _ _ ?_
        clear hJ J
      refine opsK_nil ?_
      refine hK9 _ ?_
      clear hK9
      refine awp_ret ?_
      refine finWQ_of [] ?_
      cases hf : findL os a
      · simp [hf] at c5
      · simp [hf] at c8; simp [go_sem, Try.f33, inO, inC, hf, c8]
    · skip
      refine awp_skip ?_
      refine hK3 _ ?_
      clear hK3
      refine awp_seq fun K10 hK10 => ?_
      refine awp_region ?_
      iterate 3
        refine opsK_cons fun J hJ => ?_
        simp [go_sem]
        refine hJ _ _ _ ?_
        clear hJ J
      refine opsK_nil ?_
      refine hK10 _ ?_
      clear hK10
      refine awp_ret ?_
      refine finWQ_of [] ?_
      cases hf : findL os a
      · simp [hf] at c5
      · simp [hf] at c8; simp [go_sem, Try.f33, inO, inC, hf, c8]

/-- The place behind the last order with a lesser Id. -/
def atG (a : Id) : List Ord → Nat → Nat → Nat
  | [], _, at_ => at_
  | x :: r, i, at_ => atG a r (i + 1) (if lessId x.id a = true then i + 1 else at_)
theorem atG_le (a : Id) : ∀ (l : List Ord) (i k : Nat), k ≤ i → atG a l i k ≤ i + l.length
  | [], i, k, h => by simpa [atG] using h
  | x :: r, i, k, h => by
    have := atG_le a r (i + 1) (if lessId x.id a = true then i + 1 else k) (by split <;> omega)
    simp only [atG, List.length_cons]
    omega
/-- An order, in its place. -/
def putL (os : List Ord) (o : Ord) : List Ord := if 0 ≤ placeL os o.id then os.set (placeL os o.id).toNat o else os.take (atG o.id os 0 0) ++ [o] ++ os.drop (atG o.id os 0 0)
theorem putL_len (os : List Ord) (o : Ord) : (putL os o).length ≤ os.length + 1 := by
  have := atG_le o.id os 0 0 (Nat.le_refl _)
  unfold putL
  split
  · simp
  · simp; omega

structure putX where
  b : Bk
  os : List Ord
  os' : AV
  x : Ord
  h_os : SlA 7 cOrd os os'
  hL : os.length ≤ 50000
/-- deal.Put -/
noncomputable def putS : HSpec := mkH (ι := putX) (fun ⟨b, os, os', x, h_os, hL⟩ => ([.agg (cBk b os'), .agg (cOrd x)], [])) fun ⟨b, os, os', x, h_os, hL⟩ => ⟨.agg (cBk b (.own (2, 0) (putL os x).length)), [], [.row 53 7 (rows cOrd (putL os x)) false]⟩
theorem putS_atG (b : Bk) (os : List Ord) (os' : AV) (x : Ord) (h_os : SlA 7 cOrd os os') (hL : os.length ≤ 50000) : putS [.agg (cBk b os'), .agg (cOrd x)] [] = some (⟨.agg (cBk b (.own (2, 0) (putL os x).length)), [], [.row 53 7 (rows cOrd (putL os x)) false]⟩) :=
  mkH_at (ι := putX) (A := fun ⟨b, os, os', x, h_os, hL⟩ => ([.agg (cBk b os'), .agg (cOrd x)], [])) (R := fun ⟨b, os, os', x, h_os, hL⟩ => ⟨.agg (cBk b (.own (2, 0) (putL os x).length)), [], [.row 53 7 (rows cOrd (putL os x)) false]⟩) (fun i j h => by obtain ⟨b, os, os', x, h_os, hL⟩ := i; obtain ⟨b2, os2, os'2, x2, h_os2, hL2⟩ := j; simp [and_assoc, cBk_eq_iff, cId_eq_iff, cOrd_eq_iff, cChg_eq_iff, cEff_eq_iff, cKey_eq_iff, cReq_eq_iff, cV_eq_iff, cOp_eq_iff, cOc_eq_iff] at h; obtain ⟨rfl, rfl, rfl⟩ := h; obtain rfl := SlA.inj (fun x y h => cOrd_inj h) h_os h_os2; rfl) ⟨b, os, os', x, h_os, hL⟩
theorem putS_at (b : Bk) (os : List Ord) (x : Ord) (hL : os.length ≤ 50000) : putS [.agg (cBk b (.sl 7 (rows cOrd os))), .agg (cOrd x)] [] = some (⟨.agg (cBk b (.own (2, 0) (putL os x).length)), [], [.row 53 7 (rows cOrd (putL os x)) false]⟩) := putS_atG b os _ x .sl hL
theorem putS_atN (b : Bk) (x : Ord) : putS [.agg (cBk b .nils), .agg (cOrd x)] [] = some ((fun (os : List Ord) => ⟨.agg (cBk b (.own (2, 0) (putL os x).length)), [], [.row 53 7 (rows cOrd (putL os x)) false]⟩) []) := putS_atG b [] _ x .nil (by simp)

def putI (b : Bk) (os : List Ord) (x : Ord) (pre _post : List Ord) (k : Nat) : St := ⟨ofL [(2, .ref (0, 32) 0), (3, .ref (0, 48) 0), (4, .ref (0, 64) 0), (6, .int .i64 k), (26, .sl 7 (rows cOrd os)), (27, .int .i64 os.length), (28, .int .i64 pre.length)], hOf [((0, 32), .obj (cBk b (.sl 7 (rows cOrd os)))), ((0, 48), .obj (cOrd x)), ((0, 64), .obj (cBk zBk .nils))]⟩

theorem put_ok : HSound Try.prog 27 putS := by
  refine sound_ofE (fn := Try.f27) rfl rfl (by kernel_rfl) fun args bx hr hS => ?_
  obtain ⟨⟨b, os, os', x, h_os, hL⟩, rfl, rfl, rfl⟩ := mkH_of hS
  clear hS
  refine ⟨_, (EnvOK.consV (g := 57) (by kernel_rfl) place_ok (EnvOK.consV (g := 58) (by kernel_rfl) cloneOrd_ok (EnvOK.consV (g := 59) (by kernel_rfl) lessId_ok (EnvOK.consV (g := 60) (by kernel_rfl) concatOrd_ok (EnvOK.nil _))))), by simp [Try.f27], by simp [go_sem], fun w Mx pin => ?_⟩
  simp only [hB_at, lab_nil, lab_cons, hOf_nil, hOf_cons]
  refine awp_weak (s' := ⟨ofL [(0, .agg (cBk b (.sl 7 (rows cOrd os)))), (1, .agg (cOrd x))], hOf []⟩) ?_ ?_
  · cases h_os <;> exact weak_of [] (by simp [go_sem]) (by simp [go_sem]) (by simp [go_sem])
  clear h_os
  have hpc := place_cases os x.id
  refine awp_seq fun K1 hK1 => ?_
  refine awp_region ?_
  iterate 3
    refine opsK_cons fun J hJ => ?_
    simp [go_sem]
    refine hJ _ _ _ ?_
    clear hJ J
  refine opsK_nil ?_
  refine hK1 _ ?_
  clear hK1
  refine awp_seq fun K2 hK2 => ?_
  refine awp_seq fun K3 hK3 => ?_
  refine awp_region ?_
  iterate 5
    refine opsK_cons fun J hJ => ?_
    simp [go_sem, placeS_at b os x.id (by omega)]
    refine hJ _ _ _ ?_
    clear hJ J
  refine opsK_nil ?_
  refine hK3 _ ?_
  clear hK3
  refine awp_seq fun K4 hK4 => ?_
  refine awp_region ?_
  iterate 2
    refine opsK_cons fun J hJ => ?_
    simp [go_sem]
    refine hJ _ _ _ ?_
    clear hJ J
  refine opsK_nil ?_
  refine hK4 _ ?_
  clear hK4
  refine awp_cond (t := _) rfl (fun c5 => ?_) (fun c5 => ?_)
  · simp [go_sem] at c5
    obtain ⟨h1, _⟩ | ⟨k, z, hk0, hk, hz, _, hf⟩ := hpc
    · omega
    refine awp_seq fun K6 hK6 => ?_
    refine awp_region ?_
    iterate 5
      refine opsK_cons fun J hJ => ?_
      simp [go_sem, cloneOrdS_at os (by omega)]
      refine hJ _ _ _ ?_
      clear hJ J
    refine opsK_nil ?_
    refine hK6 _ ?_
    clear hK6
    refine awp_seq fun K7 hK7 => ?_
    refine awp_region ?_
    iterate 6
      refine opsK_cons fun J hJ => ?_
      simp [go_sem, hk, hk0, hz]
      refine hJ _ _ _ ?_
      clear hJ J
    refine opsK_nil ?_
    refine hK7 _ ?_
    clear hK7
    refine awp_seq fun K8 hK8 => ?_
    refine awp_region ?_
    iterate 2
      refine opsK_cons fun J hJ => ?_
      simp [go_sem]
      refine hJ _ _ _ ?_
      clear hJ J
    refine opsK_nil ?_
    refine hK8 _ ?_
    clear hK8
    refine awp_ret ?_
    have hp : putL os x = os.set k x := by
      unfold putL
      rw [if_pos (by omega), hk]
      simp
    refine finWQ_of [((2, 0), some (0, 272))] ?_
    simp [go_sem, Try.f27, hp]
  · simp [go_sem] at c5
    clear hpc
    refine awp_skip ?_
    refine hK2 _ ?_
    clear hK2
    refine awp_seq fun K9 hK9 => ?_
    refine awp_region ?_
    iterate 1
      refine opsK_cons fun J hJ => ?_
      simp [go_sem]
      refine hJ _ _ _ ?_
      clear hJ J
    refine opsK_nil ?_
    refine hK9 _ ?_
    clear hK9
    refine awp_seq fun K10 hK10 => ?_
    refine awp_seq fun K11 hK11 => ?_
    refine awp_region ?_
    iterate 4
      refine opsK_cons fun J hJ => ?_
      simp [go_sem]
      refine hJ _ _ _ ?_
      clear hJ J
    refine opsK_nil ?_
    refine hK11 _ ?_
    clear hK11
    refine awp_block ?_
    refine awp_loop (ι := { q : List Ord × List Ord × Nat // q.1 ++ q.2.1 = os ∧ q.2.2 ≤ q.1.length ∧ atG x.id q.2.1 q.1.length q.2.2 = atG x.id os 0 0 }) (fun q => putI b os x q.1.1 q.1.2.1 q.1.2.2) (fun q => q.1.2.1.length) ⟨([], os, 0), rfl, ⟨Nat.le_refl _, rfl⟩⟩ ?_ ?_
    · refine weak_of [((0, 32), some (0, 32)), ((0, 48), some (0, 48)), ((0, 64), some (0, 64))] (by simp [go_sem]) ?_ ?_ <;> simp [go_sem]
    intro ⟨⟨pre, post, k⟩, hl, hgo⟩
    simp only at hl hgo
    have hpl := len_small hl (show os.length ≤ 100000 by omega)
    simp only [putI]
    refine awp_seq fun K12 hK12 => ?_
    refine awp_region ?_
    iterate 1
      refine opsK_cons fun J hJ => ?_
      simp [go_sem]
      refine hJ _ _ _ ?_
      clear hJ J
    refine opsK_nil ?_
    refine hK12 _ ?_
    clear hK12
    refine awp_seq fun K13 hK13 => ?_
    refine awp_cond (t := _) rfl (fun c14 => ?_) (fun c14 => ?_)
    · simp [go_sem] at c14
      obtain ⟨y, post, rfl, hy⟩ := mid_lt hl c14
      refine awp_skip ?_
      refine hK13 _ ?_
      clear hK13
      refine awp_seq fun K15 hK15 => ?_
      refine awp_block ?_
      refine awp_seq fun K16 hK16 => ?_
      refine awp_region ?_
      iterate 6
        refine opsK_cons fun J hJ => ?_
        simp [go_sem, hy]
        refine hJ _ _ _ ?_
        clear hJ J
      refine opsK_nil ?_
      refine hK16 _ ?_
      clear hK16
      refine awp_seq fun K17 hK17 => ?_
      refine awp_region ?_
      iterate 5
        refine opsK_cons fun J hJ => ?_
        simp [go_sem, lessIdS_at]
        refine hJ _ _ _ ?_
        clear hJ J
      refine opsK_nil ?_
      refine hK17 _ ?_
      clear hK17
      refine awp_cond (t := _) rfl (fun c18 => ?_) (fun c18 => ?_)
      · skip
        refine awp_region ?_
        iterate 3
          refine opsK_cons fun J hJ => ?_
          simp [go_sem, wrap_nat hpl]
          refine hJ _ _ _ ?_
          clear hJ J
        refine opsK_nil ?_
        refine hK15 _ ?_
        clear hK15
        refine awp_region ?_
        iterate 2
          refine opsK_cons fun J hJ => ?_
          simp [go_sem]
          refine hJ _ _ _ ?_
          clear hJ J
        refine opsK_nil ?_
        refine ⟨⟨(pre ++ [y], post, (if lessId y.id x.id = true then pre.length + 1 else k)), by simp [← hl], by exact ⟨by simp; split <;> omega, by rw [← hgo.2]; simp [atG]⟩⟩, ?_, by simp⟩
        refine weak_of [((0, 32), some (0, 32)), ((0, 48), some (0, 48)), ((0, 64), some (0, 64))] (by simp [go_sem]) ?_ ?_ <;> simp [go_sem, wrap_nat hpl, c18]
      · skip
        refine awp_skip ?_
        refine hK15 _ ?_
        clear hK15
        refine awp_region ?_
        iterate 2
          refine opsK_cons fun J hJ => ?_
          simp [go_sem]
          refine hJ _ _ _ ?_
          clear hJ J
        refine opsK_nil ?_
        refine ⟨⟨(pre ++ [y], post, (if lessId y.id x.id = true then pre.length + 1 else k)), by simp [← hl], by exact ⟨by simp; split <;> omega, by rw [← hgo.2]; simp [atG]⟩⟩, ?_, by simp⟩
        refine weak_of [((0, 32), some (0, 32)), ((0, 48), some (0, 48)), ((0, 64), some (0, 64))] (by simp [go_sem]) ?_ ?_ <;> simp [go_sem, wrap_nat hpl, c18]
    · simp [go_sem] at c14
      obtain ⟨rfl, rfl⟩ := mid_nil hl c14
      obtain ⟨hk, hgo⟩ := hgo
      simp only [atG] at hgo
      refine awp_exit ?_
      simp only [go_sem]
      refine hK10 _ ?_
      clear hK10
      refine awp_seq fun K19 hK19 => ?_
      refine awp_draw ?_
      iterate 14
        refine opsK_cons fun J hJ => ?_
        simp [go_sem, hk, Nat.min_eq_left hk, concatOrdS_at3 (os.take k) [x] (os.drop k) (by simp; omega)]
        refine hJ _ _ _ ?_
        clear hJ J
      refine opsK_nil ?_
      refine ⟨rfl, ?_⟩
      refine hK19 _ ?_
      clear hK19
      refine awp_seq fun K20 hK20 => ?_
      refine awp_region ?_
      iterate 2
        refine opsK_cons fun J hJ => ?_
        simp [go_sem]
        refine hJ _ _ _ ?_
        clear hJ J
      refine opsK_nil ?_
      refine hK20 _ ?_
      clear hK20
      refine awp_ret ?_
      have hp : putL os x = os.take k ++ [x] ++ os.drop k := by
        unfold putL
        rw [if_neg (by omega), hgo]
      refine finWQ_of [((2, 0), some (0, 832))] ?_
      simp [go_sem, Try.f27, hp, Nat.min_eq_left hk]

end Go.Proofs.Ytebflegkdfhoaaa.AE
