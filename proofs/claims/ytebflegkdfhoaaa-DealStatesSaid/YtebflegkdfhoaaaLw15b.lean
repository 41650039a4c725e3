/-
  Law 15: DealStates. Conditions: none; every contract names its own.
-/
import Derived.Test.YtebflegkdfhoaaaLw15
namespace Go.Proofs.Ytebflegkdfhoaaa.AE
open Go Go.Proofs Go.RowKit
set_option linter.unusedVariables false
set_option linter.unusedSimpArgs false
set_option maxRecDepth 100000
set_option maxHeartbeats 4000000
theorem beqI (a b : Int) : (a == b) = decide (a = b) := by rw [Bool.eq_iff_iff]; simp
theorem place_cases3 (L : List Ord) (a : Id) (st : List Int) : (st = [] ∧ placeL L a = -1 ∧ findL L a = none) ∨ (∃ s0 r, st = s0 :: r ∧ placeL L a = -1 ∧ findL L a = none) ∨ ∃ (k : Nat) (x : Ord), placeL L a = (k : Int) ∧ findL L a = some x ∧ k < L.length ∧ L[k]? = some x := by
  rcases place_cases2 L a with ⟨h1, h2, _⟩ | h
  · cases st with
    | nil => exact .inl ⟨rfl, h1, h2⟩
    | cons s r => exact .inr (.inl ⟨s, r, rfl, h1, h2⟩)
  · exact .inr (.inr h)

structure dealStatesX where
  b : Bk
  os : List Ord
  os' : AV
  a : Id
  st : List Int
  st' : AV
  v : Int
  h_os : SlA 7 cOrd os os'
  h_st : SlA 1 cInt st st'
  hL : st.length ≤ 9223372036854775807
/-- countermand/countermandlaw15.DealStates -/
noncomputable def dealStatesS : HSpec := mkH (ι := dealStatesX) (fun ⟨b, os, os', a, st, st', v, h_os, h_st, hL⟩ => ([.agg (cBk b os'), .agg (cId a), st', .int .i64 v], [])) fun ⟨b, os, os', a, st, st', v, h_os, h_st, hL⟩ => ⟨.bool true, [], []⟩
theorem dealStatesS_atG (b : Bk) (os : List Ord) (os' : AV) (a : Id) (st : List Int) (st' : AV) (v : Int) (h_os : SlA 7 cOrd os os') (h_st : SlA 1 cInt st st') (hL : st.length ≤ 9223372036854775807) : dealStatesS [.agg (cBk b os'), .agg (cId a), st', .int .i64 v] [] = some (⟨.bool true, [], []⟩) :=
  mkH_at (ι := dealStatesX) (A := fun ⟨b, os, os', a, st, st', v, h_os, h_st, hL⟩ => ([.agg (cBk b os'), .agg (cId a), st', .int .i64 v], [])) (R := fun ⟨b, os, os', a, st, st', v, h_os, h_st, hL⟩ => ⟨.bool true, [], []⟩) (fun i j h => by obtain ⟨b, os, os', a, st, st', v, h_os, h_st, hL⟩ := i; obtain ⟨b2, os2, os'2, a2, st2, st'2, v2, h_os2, h_st2, hL2⟩ := j; simp [and_assoc, cBk_eq_iff, cId_eq_iff, cOrd_eq_iff, cChg_eq_iff, cEff_eq_iff, cKey_eq_iff, cReq_eq_iff, cV_eq_iff, cOp_eq_iff, cOc_eq_iff] at h; obtain ⟨rfl, rfl, rfl, rfl, rfl⟩ := h; obtain rfl := SlA.inj (fun x y h => cOrd_inj h) h_os h_os2; obtain rfl := SlA.inj (fun x y h => cInt_inj h) h_st h_st2; rfl) ⟨b, os, os', a, st, st', v, h_os, h_st, hL⟩
theorem dealStatesS_at (b : Bk) (os : List Ord) (a : Id) (st : List Int) (v : Int) (hL : st.length ≤ 9223372036854775807) : dealStatesS [.agg (cBk b (.sl 7 (rows cOrd os))), .agg (cId a), (.sl 1 (rows cInt st)), .int .i64 v] [] = some (⟨.bool true, [], []⟩) := dealStatesS_atG b os _ a st _ v .sl .sl hL

def st1 (b : Bk) (L : List Ord) (a : Id) (st : List Int) (v : Int) (w9 : Ord) (c p : Int) (pre _post : List Int) (e : Bool) : St := ⟨ofL [(2, .sl 1 (rows cInt st)), (3, .int .i64 v), (4, .ref (0, 64) 0), (5, .ref (0, 80) 0), (9, .ref (0, 144) 0), (10, .int .i64 c), (11, .int .i64 p), (12, .bool e), (13, .int .i64 pre.length)], hOf [((0, 64), .obj (cBk b (.sl 7 (rows cOrd L)))), ((0, 80), .obj (cId a)), ((0, 144), .obj (cOrd w9))]⟩
def st2 (b : Bk) (L : List Ord) (a : Id) (st : List Int) (v : Int) (w9 : Ord) (c p : Int) (pre _post : List Ord) (hc : Int × Int) : St := ⟨ofL [(2, .sl 1 (rows cInt st)), (3, .int .i64 v), (4, .ref (0, 64) 0), (5, .ref (0, 80) 0), (9, .ref (0, 144) 0), (10, .int .i64 c), (11, .int .i64 p), (14, .int .i64 hc.1), (15, .int .i64 hc.2), (16, .int .i64 pre.length)], hOf [((0, 64), .obj (cBk b (.sl 7 (rows cOrd L)))), ((0, 80), .obj (cId a)), ((0, 144), .obj (cOrd w9))]⟩

theorem dealStates_ok : HSound Try.prog 7 dealStatesS := by
  refine sound_ofE (fn := Try.f7) rfl rfl (by kernel_rfl) fun args bx hr hS => ?_
  obtain ⟨⟨b, os, os', a, st, st', v, h_os, h_st, hL⟩, rfl, rfl, rfl⟩ := mkH_of hS
  clear hS
  refine ⟨_, (EnvOK.consV (g := 25) (by kernel_rfl) alive15_ok (EnvOK.consV (g := 26) (by kernel_rfl) few15_ok (EnvOK.consV (g := 32) (by kernel_rfl) new_ok (EnvOK.consV (g := 30) (by kernel_rfl) find_ok (EnvOK.consV (g := 33) (by kernel_rfl) in_ok (EnvOK.consV (g := 34) (by kernel_rfl) held_ok (EnvOK.consV (g := 35) (by kernel_rfl) count_ok (EnvOK.consV (g := 36) (by kernel_rfl) same_ok (EnvOK.consV (g := 27) (by kernel_rfl) put_ok (EnvOK.consV (g := 28) (by kernel_rfl) putRf_ok (EnvOK.consV (g := 29) (by kernel_rfl) findRf_ok (EnvOK.consV (g := 31) (by kernel_rfl) plBook_ok (EnvOK.nil _))))))))))))), by simp [Try.f7], by simp [go_sem], fun w Mx pin => ?_⟩
  simp only [hB_at, lab_nil, lab_cons, hOf_nil, hOf_cons]
  refine awp_weak (s' := ⟨ofL [(0, .agg (cBk b (.sl 7 (rows cOrd os)))), (1, .agg (cId a)), (2, (.sl 1 (rows cInt st))), (3, .int .i64 v)], hOf []⟩) ?_ ?_
  · cases h_os <;> cases h_st <;> exact weak_of [] (by simp [go_sem]) (by simp [go_sem]) (by simp [go_sem])
  clear h_os h_st
  obtain ⟨L, hLd⟩ : ∃ L, L = os.take 40 := ⟨_, rfl⟩
  have e40 : L.length ≤ 40 := by rw [hLd]; simp; omega
  have e6 : L.length ≤ 100000 := by omega
  refine awp_seq fun K1 hK1 => ?_
  refine awp_region ?_
  iterate 3
    refine opsK_cons fun J hJ => ?_
    simp [go_sem]
    refine hJ _ _ _ ?_
    clear hJ J
  refine opsK_nil ?_
  refine hK1 _ ?_
  clear hK1
  refine awp_seq fun K2 hK2 => ?_
  refine awp_seq fun K3 hK3 => ?_
  refine awp_region ?_
  iterate 2
    refine opsK_cons fun J hJ => ?_
    simp [go_sem, alive15S_at]
    refine hJ _ _ _ ?_
    clear hJ J
  refine opsK_nil ?_
  refine hK3 _ ?_
  clear hK3
  refine awp_condF rfl ?_
  refine awp_skip ?_
  refine hK2 _ ?_
  clear hK2
  refine awp_seq fun K6 hK6 => ?_
  refine awp_region ?_
  iterate 3
    refine opsK_cons fun J hJ => ?_
    simp [go_sem, few15S_at, ← hLd]
    refine hJ _ _ _ ?_
    clear hJ J
  refine opsK_nil ?_
  refine hK6 _ ?_
  clear hK6
  refine awp_seq fun K7 hK7 => ?_
  rcases place_cases3 L a st with hh | hh | ⟨k, y, hk, hf, hk0, hy⟩
  · skip
    obtain ⟨rfl, hk, hf⟩ := hh
    have hc0 : inC L a [] = 14 := by simp [inC, hf]
    have ho0 : inO L a [] = zOrd := by simp [inO, hc0]
    have hin := inS_at b L a [] ⟨e6, hL⟩
    simp only [rows_nil] at hin
    refine awp_region ?_
    iterate 10
      refine opsK_cons fun J hJ => ?_
      simp [go_sem, hin, hc0, ho0]
      refine hJ _ _ _ ?_
      clear hJ J
    refine opsK_nil ?_
    refine hK7 _ ?_
    clear hK7
    refine awp_seq fun K8 hK8 => ?_
    refine awp_region ?_
    iterate 5
      refine opsK_cons fun J hJ => ?_
      simp [go_sem, findRfS_at b L a e6, hk]
      refine hJ _ _ _ ?_
      clear hJ J
    refine opsK_nil ?_
    refine hK8 _ ?_
    clear hK8
    refine awp_seq fun K9 hK9 => ?_
    refine awp_seq fun K10 hK10 => ?_
    refine awp_region ?_
    iterate 1
      refine opsK_cons fun J hJ => ?_
      simp [go_sem]
      refine hJ _ _ _ ?_
      clear hJ J
    refine opsK_nil ?_
    refine hK10 _ ?_
    clear hK10
    refine awp_block ?_
    refine awp_loop (ι := Unit) (fun _ => st1 b L a [] v zOrd 14 (-1) [] [] false) (fun _ => 0) () ?_ ?_
    · refine weak_of [((0, 64), some (0, 64)), ((0, 80), some (0, 80)), ((0, 144), some (0, 144))] (by simp [go_sem]) ?_ ?_ <;> simp [go_sem]
    intro _
    simp only [st1]
    refine awp_seq fun K11 hK11 => ?_
    refine awp_seq fun K12 hK12 => ?_
    refine awp_region ?_
    iterate 8
      refine opsK_cons fun J hJ => ?_
      simp [go_sem]
      refine hJ _ _ _ ?_
      clear hJ J
    refine opsK_nil ?_
    refine hK12 _ ?_
    clear hK12
    refine awp_condF rfl ?_
    refine awp_exit ?_
    simp only [go_sem]
    refine hK9 _ ?_
    clear hK9
    refine awp_seq fun K15 hK15 => ?_
    refine awp_seq fun K16 hK16 => ?_
    refine awp_draw ?_
    iterate 44
      refine opsK_cons fun J hJ => ?_
      simp [go_sem]
      refine hJ _ _ _ ?_
      clear hJ J
    refine opsK_nil ?_
    refine ⟨rfl, ?_⟩
    refine hK16 _ ?_
    clear hK16
    refine awp_condF rfl ?_
    refine awp_skip ?_
    refine hK15 _ ?_
    clear hK15
    refine awp_seq fun K19 hK19 => ?_
    refine awp_region ?_
    iterate 2
      refine opsK_cons fun J hJ => ?_
      simp [go_sem]
      refine hJ _ _ _ ?_
      clear hJ J
    refine opsK_nil ?_
    refine hK19 _ ?_
    clear hK19
    refine awp_seq fun K20 hK20 => ?_
    refine awp_seq fun K21 hK21 => ?_
    refine awp_region ?_
    iterate 1
      refine opsK_cons fun J hJ => ?_
      simp [go_sem]
      refine hJ _ _ _ ?_
      clear hJ J
    refine opsK_nil ?_
    refine hK21 _ ?_
    clear hK21
    refine awp_block ?_
    refine awp_loop (ι := { q : List Ord × List Ord × Int × Int // q.1 ++ q.2.1 = L ∧ heldG v q.2.1 q.2.2.1 = heldG v L 0 ∧ countG v q.2.1 q.2.2.2 = countG v L 0 }) (fun q => st2 b L a [] v zOrd 14 (-1) q.1.1 q.1.2.1 q.1.2.2) (fun q => q.1.2.1.length) ⟨([], L, (0, 0)), rfl, ⟨rfl, rfl⟩⟩ ?_ ?_
    · refine weak_of [((0, 64), some (0, 64)), ((0, 80), some (0, 80)), ((0, 144), some (0, 144))] (by simp [go_sem]) ?_ ?_ <;> simp [go_sem]
    intro ⟨⟨pre, post, hc⟩, hl, hgo⟩
    simp only at hl hgo
    have hpl := len_small hl e6
    simp only [st2]
    refine awp_seq fun K22 hK22 => ?_
    refine awp_seq fun K23 hK23 => ?_
    refine awp_region ?_
    iterate 5
      refine opsK_cons fun J hJ => ?_
      simp [go_sem]
      refine hJ _ _ _ ?_
      clear hJ J
    refine opsK_nil ?_
    refine hK23 _ ?_
    clear hK23
    refine awp_cond (t := _) rfl (fun c24 => ?_) (fun c24 => ?_)
    · simp [go_sem] at c24
      obtain ⟨x, post, rfl, hx⟩ := mid_lt hl c24
      refine awp_skip ?_
      refine hK22 _ ?_
      clear hK22
      refine awp_seq fun K25 hK25 => ?_
      refine awp_block ?_
      refine awp_seq fun K26 hK26 => ?_
      refine awp_seq fun K27 hK27 => ?_
      by_cases hcc : x.item = v ∧ (x.state = 1 ∨ x.state = 2)
      · skip
        have hif : ∀ (p q : Int), (if x.item = v ∧ (x.state = 1 ∨ x.state = 2) then p else q) = p := fun p q => if_pos hcc
        have g1 : (x.item == v) = true := by simp [hcc.1]
        cases g2 : (x.state == 1) <;> cases g3 : (x.state == 2)
        all_goals first | (exfalso; simp at g2 g3; omega) | skip
        all_goals
          refine awp_region ?_
          iterate 26
            refine opsK_cons fun J hJ => ?_
            simp [go_sem, hx, g1, g2, g3]
            refine hJ _ _ _ ?_
            clear hJ J
          refine opsK_nil ?_
          refine hK27 _ ?_
          clear hK27
          refine awp_condT rfl ?_
          refine awp_region ?_
          iterate 9
            refine opsK_cons fun J hJ => ?_
            simp [go_sem, hx]
            refine hJ _ _ _ ?_
            clear hJ J
          refine opsK_nil ?_
          refine hK26 _ ?_
          clear hK26
          refine awp_seq fun K29 hK29 => ?_
          refine awp_region ?_
          iterate 8
            refine opsK_cons fun J hJ => ?_
            simp [go_sem, hx]
            refine hJ _ _ _ ?_
            clear hJ J
          refine opsK_nil ?_
          refine hK29 _ ?_
          clear hK29
          refine awp_cond (t := _) rfl (fun c30 => ?_) (fun c30 => ?_)
          · simp [go_sem] at c30
            have hif2 : ∀ (p q : Int), (if x.state = v then p else q) = p := fun p q => if_pos c30
            refine awp_region ?_
            iterate 3
              refine opsK_cons fun J hJ => ?_
              simp [go_sem]
              refine hJ _ _ _ ?_
              clear hJ J
            refine opsK_nil ?_
            refine hK25 _ ?_
            clear hK25
            refine awp_region ?_
            iterate 3
              refine opsK_cons fun J hJ => ?_
              simp [go_sem]
              refine hJ _ _ _ ?_
              clear hJ J
            refine opsK_nil ?_
            refine ⟨⟨(pre ++ [x], post, ((if x.item = v ∧ (x.state = 1 ∨ x.state = 2) then IntKind.i64.wrap (hc.1 + x.qty) else hc.1), (if x.state = v then IntKind.i64.wrap (hc.2 + 1) else hc.2))), by simp [← hl], by exact ⟨by rw [← hgo.1]; simp [heldG], by rw [← hgo.2]; simp [countG]⟩⟩, ?_, by simp⟩
            refine weak_of [((0, 64), some (0, 64)), ((0, 80), some (0, 80)), ((0, 144), some (0, 144))] (by simp [go_sem]) ?_ ?_ <;> simp [go_sem, wrap_nat hpl, hif, hif2]
          · simp [go_sem] at c30
            have hif2 : ∀ (p q : Int), (if x.state = v then p else q) = q := fun p q => if_neg c30
            refine awp_skip ?_
            refine hK25 _ ?_
            clear hK25
            refine awp_region ?_
            iterate 3
              refine opsK_cons fun J hJ => ?_
              simp [go_sem]
              refine hJ _ _ _ ?_
              clear hJ J
            refine opsK_nil ?_
            refine ⟨⟨(pre ++ [x], post, ((if x.item = v ∧ (x.state = 1 ∨ x.state = 2) then IntKind.i64.wrap (hc.1 + x.qty) else hc.1), (if x.state = v then IntKind.i64.wrap (hc.2 + 1) else hc.2))), by simp [← hl], by exact ⟨by rw [← hgo.1]; simp [heldG], by rw [← hgo.2]; simp [countG]⟩⟩, ?_, by simp⟩
            refine weak_of [((0, 64), some (0, 64)), ((0, 80), some (0, 80)), ((0, 144), some (0, 144))] (by simp [go_sem]) ?_ ?_ <;> simp [go_sem, wrap_nat hpl, hif, hif2]
      · skip
        have hif : ∀ (p q : Int), (if x.item = v ∧ (x.state = 1 ∨ x.state = 2) then p else q) = q := fun p q => if_neg hcc
        cases g1 : (x.item == v) <;> cases g2 : (x.state == 1) <;> cases g3 : (x.state == 2)
        all_goals first | (exfalso; simp at g1 g2 g3; omega) | skip
        all_goals
          refine awp_region ?_
          iterate 26
            refine opsK_cons fun J hJ => ?_
            simp [go_sem, hx, g1, g2, g3]
            refine hJ _ _ _ ?_
            clear hJ J
          refine opsK_nil ?_
          refine hK27 _ ?_
          clear hK27
          refine awp_condF rfl ?_
          refine awp_skip ?_
          refine hK26 _ ?_
          clear hK26
          refine awp_seq fun K29 hK29 => ?_
          refine awp_region ?_
          iterate 8
            refine opsK_cons fun J hJ => ?_
            simp [go_sem, hx]
            refine hJ _ _ _ ?_
            clear hJ J
          refine opsK_nil ?_
          refine hK29 _ ?_
          clear hK29
          refine awp_cond (t := _) rfl (fun c30 => ?_) (fun c30 => ?_)
          · simp [go_sem] at c30
            have hif2 : ∀ (p q : Int), (if x.state = v then p else q) = p := fun p q => if_pos c30
            refine awp_region ?_
            iterate 3
              refine opsK_cons fun J hJ => ?_
              simp [go_sem]
              refine hJ _ _ _ ?_
              clear hJ J
            refine opsK_nil ?_
            refine hK25 _ ?_
            clear hK25
            refine awp_region ?_
            iterate 3
              refine opsK_cons fun J hJ => ?_
              simp [go_sem]
              refine hJ _ _ _ ?_
              clear hJ J
            refine opsK_nil ?_
            refine ⟨⟨(pre ++ [x], post, ((if x.item = v ∧ (x.state = 1 ∨ x.state = 2) then IntKind.i64.wrap (hc.1 + x.qty) else hc.1), (if x.state = v then IntKind.i64.wrap (hc.2 + 1) else hc.2))), by simp [← hl], by exact ⟨by rw [← hgo.1]; simp [heldG], by rw [← hgo.2]; simp [countG]⟩⟩, ?_, by simp⟩
            refine weak_of [((0, 64), some (0, 64)), ((0, 80), some (0, 80)), ((0, 144), some (0, 144))] (by simp [go_sem]) ?_ ?_ <;> simp [go_sem, wrap_nat hpl, hif, hif2]
          · simp [go_sem] at c30
            have hif2 : ∀ (p q : Int), (if x.state = v then p else q) = q := fun p q => if_neg c30
            refine awp_skip ?_
            refine hK25 _ ?_
            clear hK25
            refine awp_region ?_
            iterate 3
              refine opsK_cons fun J hJ => ?_
              simp [go_sem]
              refine hJ _ _ _ ?_
              clear hJ J
            refine opsK_nil ?_
            refine ⟨⟨(pre ++ [x], post, ((if x.item = v ∧ (x.state = 1 ∨ x.state = 2) then IntKind.i64.wrap (hc.1 + x.qty) else hc.1), (if x.state = v then IntKind.i64.wrap (hc.2 + 1) else hc.2))), by simp [← hl], by exact ⟨by rw [← hgo.1]; simp [heldG], by rw [← hgo.2]; simp [countG]⟩⟩, ?_, by simp⟩
            refine weak_of [((0, 64), some (0, 64)), ((0, 80), some (0, 80)), ((0, 144), some (0, 144))] (by simp [go_sem]) ?_ ?_ <;> simp [go_sem, wrap_nat hpl, hif, hif2]
    · simp [go_sem] at c24
      obtain ⟨rfl, rfl⟩ := mid_nil hl c24
      refine awp_exit ?_
      simp only [go_sem]
      refine hK20 _ ?_
      clear hK20
      refine awp_seq fun K31 hK31 => ?_
      refine awp_region ?_
      iterate 13
        refine opsK_cons fun J hJ => ?_
        simp [go_sem, heldS_at b L v e6, countS_at b L v e6, ← hgo.1, ← hgo.2, heldG, countG]
        refine hJ _ _ _ ?_
        clear hJ J
      refine opsK_nil ?_
      refine hK31 _ ?_
      clear hK31
      refine awp_ret ?_
      refine finWQ_of [] ?_
      simp [go_sem, Try.f7]
  · skip
    obtain ⟨s0, r, rfl, hk, hf⟩ := hh
    have hc0 : inC L a (s0 :: r) = 14 := by simp [inC, hf]
    have ho0 : inO L a (s0 :: r) = zOrd := by simp [inO, hc0]
    have hin := inS_at b L a (s0 :: r) ⟨e6, hL⟩
    refine awp_region ?_
    iterate 10
      refine opsK_cons fun J hJ => ?_
      simp [go_sem, hin, hc0, ho0]
      refine hJ _ _ _ ?_
      clear hJ J
    refine opsK_nil ?_
    refine hK7 _ ?_
    clear hK7
    refine awp_seq fun K8 hK8 => ?_
    refine awp_region ?_
    iterate 5
      refine opsK_cons fun J hJ => ?_
      simp [go_sem, findRfS_at b L a e6, hk]
      refine hJ _ _ _ ?_
      clear hJ J
    refine opsK_nil ?_
    refine hK8 _ ?_
    clear hK8
    refine awp_seq fun K9 hK9 => ?_
    refine awp_seq fun K10 hK10 => ?_
    refine awp_region ?_
    iterate 1
      refine opsK_cons fun J hJ => ?_
      simp [go_sem]
      refine hJ _ _ _ ?_
      clear hJ J
    refine opsK_nil ?_
    refine hK10 _ ?_
    clear hK10
    refine awp_block ?_
    refine awp_loop (ι := Unit) (fun _ => st1 b L a (s0 :: r) v zOrd 14 (-1) [] [] false) (fun _ => 0) () ?_ ?_
    · refine weak_of [((0, 64), some (0, 64)), ((0, 80), some (0, 80)), ((0, 144), some (0, 144))] (by simp [go_sem]) ?_ ?_ <;> simp [go_sem]
    intro _
    simp only [st1]
    refine awp_seq fun K11 hK11 => ?_
    refine awp_seq fun K12 hK12 => ?_
    refine awp_region ?_
    iterate 8
      refine opsK_cons fun J hJ => ?_
      simp [go_sem]
      refine hJ _ _ _ ?_
      clear hJ J
    refine opsK_nil ?_
    refine hK12 _ ?_
    clear hK12
    refine awp_condF rfl ?_
    refine awp_exit ?_
    simp only [go_sem]
    refine hK9 _ ?_
    clear hK9
    refine awp_seq fun K15 hK15 => ?_
    refine awp_seq fun K16 hK16 => ?_
    refine awp_draw ?_
    iterate 44
      refine opsK_cons fun J hJ => ?_
      simp [go_sem]
      refine hJ _ _ _ ?_
      clear hJ J
    refine opsK_nil ?_
    refine ⟨rfl, ?_⟩
    refine hK16 _ ?_
    clear hK16
    refine awp_condF rfl ?_
    refine awp_skip ?_
    refine hK15 _ ?_
    clear hK15
    refine awp_seq fun K19 hK19 => ?_
    refine awp_region ?_
    iterate 2
      refine opsK_cons fun J hJ => ?_
      simp [go_sem]
      refine hJ _ _ _ ?_
      clear hJ J
    refine opsK_nil ?_
    refine hK19 _ ?_
    clear hK19
    refine awp_seq fun K20 hK20 => ?_
    refine awp_seq fun K21 hK21 => ?_
    refine awp_region ?_
    iterate 1
      refine opsK_cons fun J hJ => ?_
      simp [go_sem]
      refine hJ _ _ _ ?_
      clear hJ J
    refine opsK_nil ?_
    refine hK21 _ ?_
    clear hK21
    refine awp_block ?_
    refine awp_loop (ι := { q : List Ord × List Ord × Int × Int // q.1 ++ q.2.1 = L ∧ heldG v q.2.1 q.2.2.1 = heldG v L 0 ∧ countG v q.2.1 q.2.2.2 = countG v L 0 }) (fun q => st2 b L a (s0 :: r) v zOrd 14 (-1) q.1.1 q.1.2.1 q.1.2.2) (fun q => q.1.2.1.length) ⟨([], L, (0, 0)), rfl, ⟨rfl, rfl⟩⟩ ?_ ?_
    · refine weak_of [((0, 64), some (0, 64)), ((0, 80), some (0, 80)), ((0, 144), some (0, 144))] (by simp [go_sem]) ?_ ?_ <;> simp [go_sem]
    intro ⟨⟨pre, post, hc⟩, hl, hgo⟩
    simp only at hl hgo
    have hpl := len_small hl e6
    simp only [st2]
    refine awp_seq fun K22 hK22 => ?_
    refine awp_seq fun K23 hK23 => ?_
    refine awp_region ?_
    iterate 5
      refine opsK_cons fun J hJ => ?_
      simp [go_sem]
      refine hJ _ _ _ ?_
      clear hJ J
    refine opsK_nil ?_
    refine hK23 _ ?_
    clear hK23
    refine awp_cond (t := _) rfl (fun c24 => ?_) (fun c24 => ?_)
    · simp [go_sem] at c24
      obtain ⟨x, post, rfl, hx⟩ := mid_lt hl c24
      refine awp_skip ?_
      refine hK22 _ ?_
      clear hK22
      refine awp_seq fun K25 hK25 => ?_
      refine awp_block ?_
      refine awp_seq fun K26 hK26 => ?_
      refine awp_seq fun K27 hK27 => ?_
      by_cases hcc : x.item = v ∧ (x.state = 1 ∨ x.state = 2)
      · skip
        have hif : ∀ (p q : Int), (if x.item = v ∧ (x.state = 1 ∨ x.state = 2) then p else q) = p := fun p q => if_pos hcc
        have g1 : (x.item == v) = true := by simp [hcc.1]
        cases g2 : (x.state == 1) <;> cases g3 : (x.state == 2)
        all_goals first | (exfalso; simp at g2 g3; omega) | skip
        all_goals
          refine awp_region ?_
          iterate 26
            refine opsK_cons fun J hJ => ?_
            simp [go_sem, hx, g1, g2, g3]
            refine hJ _ _ _ ?_
            clear hJ J
          refine opsK_nil ?_
          refine hK27 _ ?_
          clear hK27
          refine awp_condT rfl ?_
          refine awp_region ?_
          iterate 9
            refine opsK_cons fun J hJ => ?_
            simp [go_sem, hx]
            refine hJ _ _ _ ?_
            clear hJ J
          refine opsK_nil ?_
          refine hK26 _ ?_
          clear hK26
          refine awp_seq fun K29 hK29 => ?_
          refine awp_region ?_
          iterate 8
            refine opsK_cons fun J hJ => ?_
            simp [go_sem, hx]
            refine hJ _ _ _ ?_
            clear hJ J
          refine opsK_nil ?_
          refine hK29 _ ?_
          clear hK29
          refine awp_cond (t := _) rfl (fun c30 => ?_) (fun c30 => ?_)
          · simp [go_sem] at c30
            have hif2 : ∀ (p q : Int), (if x.state = v then p else q) = p := fun p q => if_pos c30
            refine awp_region ?_
            iterate 3
              refine opsK_cons fun J hJ => ?_
              simp [go_sem]
              refine hJ _ _ _ ?_
              clear hJ J
            refine opsK_nil ?_
            refine hK25 _ ?_
            clear hK25
            refine awp_region ?_
            iterate 3
              refine opsK_cons fun J hJ => ?_
              simp [go_sem]
              refine hJ _ _ _ ?_
              clear hJ J
            refine opsK_nil ?_
            refine ⟨⟨(pre ++ [x], post, ((if x.item = v ∧ (x.state = 1 ∨ x.state = 2) then IntKind.i64.wrap (hc.1 + x.qty) else hc.1), (if x.state = v then IntKind.i64.wrap (hc.2 + 1) else hc.2))), by simp [← hl], by exact ⟨by rw [← hgo.1]; simp [heldG], by rw [← hgo.2]; simp [countG]⟩⟩, ?_, by simp⟩
            refine weak_of [((0, 64), some (0, 64)), ((0, 80), some (0, 80)), ((0, 144), some (0, 144))] (by simp [go_sem]) ?_ ?_ <;> simp [go_sem, wrap_nat hpl, hif, hif2]
          · simp [go_sem] at c30
            have hif2 : ∀ (p q : Int), (if x.state = v then p else q) = q := fun p q => if_neg c30
            refine awp_skip ?_
            refine hK25 _ ?_
            clear hK25
            refine awp_region ?_
            iterate 3
              refine opsK_cons fun J hJ => ?_
              simp [go_sem]
              refine hJ _ _ _ ?_
              clear hJ J
            refine opsK_nil ?_
            refine ⟨⟨(pre ++ [x], post, ((if x.item = v ∧ (x.state = 1 ∨ x.state = 2) then IntKind.i64.wrap (hc.1 + x.qty) else hc.1), (if x.state = v then IntKind.i64.wrap (hc.2 + 1) else hc.2))), by simp [← hl], by exact ⟨by rw [← hgo.1]; simp [heldG], by rw [← hgo.2]; simp [countG]⟩⟩, ?_, by simp⟩
            refine weak_of [((0, 64), some (0, 64)), ((0, 80), some (0, 80)), ((0, 144), some (0, 144))] (by simp [go_sem]) ?_ ?_ <;> simp [go_sem, wrap_nat hpl, hif, hif2]
      · skip
        have hif : ∀ (p q : Int), (if x.item = v ∧ (x.state = 1 ∨ x.state = 2) then p else q) = q := fun p q => if_neg hcc
        cases g1 : (x.item == v) <;> cases g2 : (x.state == 1) <;> cases g3 : (x.state == 2)
        all_goals first | (exfalso; simp at g1 g2 g3; omega) | skip
        all_goals
          refine awp_region ?_
          iterate 26
            refine opsK_cons fun J hJ => ?_
            simp [go_sem, hx, g1, g2, g3]
            refine hJ _ _ _ ?_
            clear hJ J
          refine opsK_nil ?_
          refine hK27 _ ?_
          clear hK27
          refine awp_condF rfl ?_
          refine awp_skip ?_
          refine hK26 _ ?_
          clear hK26
          refine awp_seq fun K29 hK29 => ?_
          refine awp_region ?_
          iterate 8
            refine opsK_cons fun J hJ => ?_
            simp [go_sem, hx]
            refine hJ _ _ _ ?_
            clear hJ J
          refine opsK_nil ?_
          refine hK29 _ ?_
          clear hK29
          refine awp_cond (t := _) rfl (fun c30 => ?_) (fun c30 => ?_)
          · simp [go_sem] at c30
            have hif2 : ∀ (p q : Int), (if x.state = v then p else q) = p := fun p q => if_pos c30
            refine awp_region ?_
            iterate 3
              refine opsK_cons fun J hJ => ?_
              simp [go_sem]
              refine hJ _ _ _ ?_
              clear hJ J
            refine opsK_nil ?_
            refine hK25 _ ?_
            clear hK25
            refine awp_region ?_
            iterate 3
              refine opsK_cons fun J hJ => ?_
              simp [go_sem]
              refine hJ _ _ _ ?_
              clear hJ J
            refine opsK_nil ?_
            refine ⟨⟨(pre ++ [x], post, ((if x.item = v ∧ (x.state = 1 ∨ x.state = 2) then IntKind.i64.wrap (hc.1 + x.qty) else hc.1), (if x.state = v then IntKind.i64.wrap (hc.2 + 1) else hc.2))), by simp [← hl], by exact ⟨by rw [← hgo.1]; simp [heldG], by rw [← hgo.2]; simp [countG]⟩⟩, ?_, by simp⟩
            refine weak_of [((0, 64), some (0, 64)), ((0, 80), some (0, 80)), ((0, 144), some (0, 144))] (by simp [go_sem]) ?_ ?_ <;> simp [go_sem, wrap_nat hpl, hif, hif2]
          · simp [go_sem] at c30
            have hif2 : ∀ (p q : Int), (if x.state = v then p else q) = q := fun p q => if_neg c30
            refine awp_skip ?_
            refine hK25 _ ?_
            clear hK25
            refine awp_region ?_
            iterate 3
              refine opsK_cons fun J hJ => ?_
              simp [go_sem]
              refine hJ _ _ _ ?_
              clear hJ J
            refine opsK_nil ?_
            refine ⟨⟨(pre ++ [x], post, ((if x.item = v ∧ (x.state = 1 ∨ x.state = 2) then IntKind.i64.wrap (hc.1 + x.qty) else hc.1), (if x.state = v then IntKind.i64.wrap (hc.2 + 1) else hc.2))), by simp [← hl], by exact ⟨by rw [← hgo.1]; simp [heldG], by rw [← hgo.2]; simp [countG]⟩⟩, ?_, by simp⟩
            refine weak_of [((0, 64), some (0, 64)), ((0, 80), some (0, 80)), ((0, 144), some (0, 144))] (by simp [go_sem]) ?_ ?_ <;> simp [go_sem, wrap_nat hpl, hif, hif2]
    · simp [go_sem] at c24
      obtain ⟨rfl, rfl⟩ := mid_nil hl c24
      refine awp_exit ?_
      simp only [go_sem]
      refine hK20 _ ?_
      clear hK20
      refine awp_seq fun K31 hK31 => ?_
      refine awp_region ?_
      iterate 13
        refine opsK_cons fun J hJ => ?_
        simp [go_sem, heldS_at b L v e6, countS_at b L v e6, ← hgo.1, ← hgo.2, heldG, countG]
        refine hJ _ _ _ ?_
        clear hJ J
      refine opsK_nil ?_
      refine hK31 _ ?_
      clear hK31
      refine awp_ret ?_
      refine finWQ_of [] ?_
      simp [go_sem, Try.f7]
  · skip
    refine awp_region ?_
    iterate 10
      refine opsK_cons fun J hJ => ?_
      simp [go_sem, inS_at b L a st ⟨e6, hL⟩]
      refine hJ _ _ _ ?_
      clear hJ J
    refine opsK_nil ?_
    refine hK7 _ ?_
    clear hK7
    refine awp_seq fun K8 hK8 => ?_
    refine awp_region ?_
    iterate 5
      refine opsK_cons fun J hJ => ?_
      simp [go_sem, findRfS_at b L a e6, hk]
      refine hJ _ _ _ ?_
      clear hJ J
    refine opsK_nil ?_
    refine hK8 _ ?_
    clear hK8
    refine awp_seq fun K9 hK9 => ?_
    refine awp_seq fun K10 hK10 => ?_
    refine awp_region ?_
    iterate 1
      refine opsK_cons fun J hJ => ?_
      simp [go_sem]
      refine hJ _ _ _ ?_
      clear hJ J
    refine opsK_nil ?_
    refine hK10 _ ?_
    clear hK10
    refine awp_block ?_
    refine awp_loop (ι := { q : List Int × List Int × Bool // q.1 ++ q.2.1 = st ∧ q.2.2 = decide (y.state ∈ q.1) }) (fun q => st1 b L a st v (inO L a st) (inC L a st) k q.1.1 q.1.2.1 q.1.2.2) (fun q => q.1.2.1.length) ⟨([], st, false), rfl, by simp⟩ ?_ ?_
    · refine weak_of [((0, 64), some (0, 64)), ((0, 80), some (0, 80)), ((0, 144), some (0, 144))] (by simp [go_sem]) ?_ ?_ <;> simp [go_sem]
    intro ⟨⟨pre, post, e⟩, hl, hgo⟩
    simp only at hl hgo
    simp only [st1]
    refine awp_seq fun K11 hK11 => ?_
    refine awp_seq fun K12 hK12 => ?_
    by_cases hlt : pre.length < st.length
    · skip
      obtain ⟨z, post, rfl, hx⟩ := mid_lt hl hlt
      refine awp_region ?_
      iterate 8
        refine opsK_cons fun J hJ => ?_
        simp [go_sem, hlt]
        refine hJ _ _ _ ?_
        clear hJ J
      refine opsK_nil ?_
      refine hK12 _ ?_
      clear hK12
      refine awp_condT rfl ?_
      refine awp_skip ?_
      refine hK11 _ ?_
      clear hK11
      refine awp_seq fun K14 hK14 => ?_
      refine awp_block ?_
      cases he : e
      all_goals
        refine awp_draw ?_
        iterate 15
          refine opsK_cons fun J hJ => ?_
          simp [go_sem, hx, hy, he]
          refine hJ _ _ _ ?_
          clear hJ J
        refine opsK_nil ?_
        refine ⟨rfl, ?_⟩
        refine hK14 _ ?_
        clear hK14
        refine awp_region ?_
        iterate 3
          refine opsK_cons fun J hJ => ?_
          simp [go_sem]
          refine hJ _ _ _ ?_
          clear hJ J
        refine opsK_nil ?_
        refine ⟨⟨(pre ++ [z], post, (e || decide (z = y.state))), by simp [← hl], by simp [hgo, eq_comm]⟩, ?_, by simp⟩
        refine weak_of [((0, 64), some (0, 64)), ((0, 80), some (0, 80)), ((0, 144), some (0, 144))] (by simp [go_sem]) ?_ ?_ <;> simp [go_sem, wrap_big hx hL, he, beqI]
    · skip
      obtain ⟨rfl, rfl⟩ := mid_nil hl (by omega)
      refine awp_region ?_
      iterate 8
        refine opsK_cons fun J hJ => ?_
        simp [go_sem, hlt]
        refine hJ _ _ _ ?_
        clear hJ J
      refine opsK_nil ?_
      refine hK12 _ ?_
      clear hK12
      refine awp_condF rfl ?_
      refine awp_exit ?_
      simp only [go_sem]
      refine hK9 _ ?_
      clear hK9
      refine awp_seq fun K15 hK15 => ?_
      refine awp_seq fun K16 hK16 => ?_
      rw [hgo] at *
      have hcin : ∀ t, decide (y.state ∈ st) = t → inC L a st = (if t = true then 0 else 9) ∧ inO L a st = (if t = true then y else zOrd) := by
        intro t ht
        cases t
        · simp at ht; simp [inC, inO, hf, ht]
        · simp at ht; simp [inC, inO, hf, ht]
      cases hin : decide (y.state ∈ st)
      all_goals obtain ⟨hc1, ho1⟩ := hcin _ hin
      all_goals simp only [if_true, Bool.false_eq_true, if_false] at hc1 ho1
      all_goals
        refine awp_draw ?_
        iterate 44
          refine opsK_cons fun J hJ => ?_
          simp [go_sem, hin, hc1, ho1, hy]
          refine hJ _ _ _ ?_
          clear hJ J
        refine opsK_nil ?_
        refine ⟨rfl, ?_⟩
        refine hK16 _ ?_
        clear hK16
        refine awp_condF rfl ?_
        refine awp_skip ?_
        refine hK15 _ ?_
        clear hK15
        refine awp_seq fun K19 hK19 => ?_
        refine awp_region ?_
        iterate 2
          refine opsK_cons fun J hJ => ?_
          simp [go_sem]
          refine hJ _ _ _ ?_
          clear hJ J
        refine opsK_nil ?_
        refine hK19 _ ?_
        clear hK19
        refine awp_seq fun K20 hK20 => ?_
        refine awp_seq fun K21 hK21 => ?_
        refine awp_region ?_
        iterate 1
          refine opsK_cons fun J hJ => ?_
          simp [go_sem]
          refine hJ _ _ _ ?_
          clear hJ J
        refine opsK_nil ?_
        refine hK21 _ ?_
        clear hK21
        refine awp_block ?_
        refine awp_loop (ι := { q : List Ord × List Ord × Int × Int // q.1 ++ q.2.1 = L ∧ heldG v q.2.1 q.2.2.1 = heldG v L 0 ∧ countG v q.2.1 q.2.2.2 = countG v L 0 }) (fun q => st2 b L a st v (inO L a st) (inC L a st) k q.1.1 q.1.2.1 q.1.2.2) (fun q => q.1.2.1.length) ⟨([], L, (0, 0)), rfl, ⟨rfl, rfl⟩⟩ ?_ ?_
        · refine weak_of [((0, 64), some (0, 64)), ((0, 80), some (0, 80)), ((0, 144), some (0, 144))] (by simp [go_sem]) ?_ ?_ <;> simp [go_sem, hc1, ho1]
        intro ⟨⟨pre, post, hc⟩, hl, hgo⟩
        simp only at hl hgo
        have hpl := len_small hl e6
        simp only [st2]
        refine awp_seq fun K22 hK22 => ?_
        refine awp_seq fun K23 hK23 => ?_
        refine awp_region ?_
        iterate 5
          refine opsK_cons fun J hJ => ?_
          simp [go_sem]
          refine hJ _ _ _ ?_
          clear hJ J
        refine opsK_nil ?_
        refine hK23 _ ?_
        clear hK23
        refine awp_cond (t := _) rfl (fun c24 => ?_) (fun c24 => ?_)
        · simp [go_sem] at c24
          obtain ⟨x, post, rfl, hx⟩ := mid_lt hl c24
          refine awp_skip ?_
          refine hK22 _ ?_
          clear hK22
          refine awp_seq fun K25 hK25 => ?_
          refine awp_block ?_
          refine awp_seq fun K26 hK26 => ?_
          refine awp_seq fun K27 hK27 => ?_
          by_cases hcc : x.item = v ∧ (x.state = 1 ∨ x.state = 2)
          · skip
            have hif : ∀ (p q : Int), (if x.item = v ∧ (x.state = 1 ∨ x.state = 2) then p else q) = p := fun p q => if_pos hcc
            have g1 : (x.item == v) = true := by simp [hcc.1]
            cases g2 : (x.state == 1) <;> cases g3 : (x.state == 2)
            all_goals first | (exfalso; simp at g2 g3; omega) | skip
            all_goals
              refine awp_region ?_
              iterate 26
                refine opsK_cons fun J hJ => ?_
                simp [go_sem, hx, g1, g2, g3]
                refine hJ _ _ _ ?_
                clear hJ J
              refine opsK_nil ?_
              refine hK27 _ ?_
              clear hK27
              refine awp_condT rfl ?_
              refine awp_region ?_
              iterate 9
                refine opsK_cons fun J hJ => ?_
                simp [go_sem, hx]
                refine hJ _ _ _ ?_
                clear hJ J
              refine opsK_nil ?_
              refine hK26 _ ?_
              clear hK26
              refine awp_seq fun K29 hK29 => ?_
              refine awp_region ?_
              iterate 8
                refine opsK_cons fun J hJ => ?_
                simp [go_sem, hx]
                refine hJ _ _ _ ?_
                clear hJ J
              refine opsK_nil ?_
              refine hK29 _ ?_
              clear hK29
              refine awp_cond (t := _) rfl (fun c30 => ?_) (fun c30 => ?_)
              · simp [go_sem] at c30
                have hif2 : ∀ (p q : Int), (if x.state = v then p else q) = p := fun p q => if_pos c30
                refine awp_region ?_
                iterate 3
                  refine opsK_cons fun J hJ => ?_
                  simp [go_sem]
                  refine hJ _ _ _ ?_
                  clear hJ J
                refine opsK_nil ?_
                refine hK25 _ ?_
                clear hK25
                refine awp_region ?_
                iterate 3
                  refine opsK_cons fun J hJ => ?_
                  simp [go_sem]
                  refine hJ _ _ _ ?_
                  clear hJ J
                refine opsK_nil ?_
                refine ⟨⟨(pre ++ [x], post, ((if x.item = v ∧ (x.state = 1 ∨ x.state = 2) then IntKind.i64.wrap (hc.1 + x.qty) else hc.1), (if x.state = v then IntKind.i64.wrap (hc.2 + 1) else hc.2))), by simp [← hl], by exact ⟨by rw [← hgo.1]; simp [heldG], by rw [← hgo.2]; simp [countG]⟩⟩, ?_, by simp⟩
                refine weak_of [((0, 64), some (0, 64)), ((0, 80), some (0, 80)), ((0, 144), some (0, 144))] (by simp [go_sem]) ?_ ?_ <;> simp [go_sem, wrap_nat hpl, hif, hif2]
              · simp [go_sem] at c30
                have hif2 : ∀ (p q : Int), (if x.state = v then p else q) = q := fun p q => if_neg c30
                refine awp_skip ?_
                refine hK25 _ ?_
                clear hK25
                refine awp_region ?_
                iterate 3
                  refine opsK_cons fun J hJ => ?_
                  simp [go_sem]
                  refine hJ _ _ _ ?_
                  clear hJ J
                refine opsK_nil ?_
                refine ⟨⟨(pre ++ [x], post, ((if x.item = v ∧ (x.state = 1 ∨ x.state = 2) then IntKind.i64.wrap (hc.1 + x.qty) else hc.1), (if x.state = v then IntKind.i64.wrap (hc.2 + 1) else hc.2))), by simp [← hl], by exact ⟨by rw [← hgo.1]; simp [heldG], by rw [← hgo.2]; simp [countG]⟩⟩, ?_, by simp⟩
                refine weak_of [((0, 64), some (0, 64)), ((0, 80), some (0, 80)), ((0, 144), some (0, 144))] (by simp [go_sem]) ?_ ?_ <;> simp [go_sem, wrap_nat hpl, hif, hif2]
          · skip
            have hif : ∀ (p q : Int), (if x.item = v ∧ (x.state = 1 ∨ x.state = 2) then p else q) = q := fun p q => if_neg hcc
            cases g1 : (x.item == v) <;> cases g2 : (x.state == 1) <;> cases g3 : (x.state == 2)
            all_goals first | (exfalso; simp at g1 g2 g3; omega) | skip
            all_goals
              refine awp_region ?_
              iterate 26
                refine opsK_cons fun J hJ => ?_
                simp [go_sem, hx, g1, g2, g3]
                refine hJ _ _ _ ?_
                clear hJ J
              refine opsK_nil ?_
              refine hK27 _ ?_
              clear hK27
              refine awp_condF rfl ?_
              refine awp_skip ?_
              refine hK26 _ ?_
              clear hK26
              refine awp_seq fun K29 hK29 => ?_
              refine awp_region ?_
              iterate 8
                refine opsK_cons fun J hJ => ?_
                simp [go_sem, hx]
                refine hJ _ _ _ ?_
                clear hJ J
              refine opsK_nil ?_
              refine hK29 _ ?_
              clear hK29
              refine awp_cond (t := _) rfl (fun c30 => ?_) (fun c30 => ?_)
              · simp [go_sem] at c30
                have hif2 : ∀ (p q : Int), (if x.state = v then p else q) = p := fun p q => if_pos c30
                refine awp_region ?_
                iterate 3
                  refine opsK_cons fun J hJ => ?_
                  simp [go_sem]
                  refine hJ _ _ _ ?_
                  clear hJ J
                refine opsK_nil ?_
                refine hK25 _ ?_
                clear hK25
                refine awp_region ?_
                iterate 3
                  refine opsK_cons fun J hJ => ?_
                  simp [go_sem]
                  refine hJ _ _ _ ?_
                  clear hJ J
                refine opsK_nil ?_
                refine ⟨⟨(pre ++ [x], post, ((if x.item = v ∧ (x.state = 1 ∨ x.state = 2) then IntKind.i64.wrap (hc.1 + x.qty) else hc.1), (if x.state = v then IntKind.i64.wrap (hc.2 + 1) else hc.2))), by simp [← hl], by exact ⟨by rw [← hgo.1]; simp [heldG], by rw [← hgo.2]; simp [countG]⟩⟩, ?_, by simp⟩
                refine weak_of [((0, 64), some (0, 64)), ((0, 80), some (0, 80)), ((0, 144), some (0, 144))] (by simp [go_sem]) ?_ ?_ <;> simp [go_sem, wrap_nat hpl, hif, hif2]
              · simp [go_sem] at c30
                have hif2 : ∀ (p q : Int), (if x.state = v then p else q) = q := fun p q => if_neg c30
                refine awp_skip ?_
                refine hK25 _ ?_
                clear hK25
                refine awp_region ?_
                iterate 3
                  refine opsK_cons fun J hJ => ?_
                  simp [go_sem]
                  refine hJ _ _ _ ?_
                  clear hJ J
                refine opsK_nil ?_
                refine ⟨⟨(pre ++ [x], post, ((if x.item = v ∧ (x.state = 1 ∨ x.state = 2) then IntKind.i64.wrap (hc.1 + x.qty) else hc.1), (if x.state = v then IntKind.i64.wrap (hc.2 + 1) else hc.2))), by simp [← hl], by exact ⟨by rw [← hgo.1]; simp [heldG], by rw [← hgo.2]; simp [countG]⟩⟩, ?_, by simp⟩
                refine weak_of [((0, 64), some (0, 64)), ((0, 80), some (0, 80)), ((0, 144), some (0, 144))] (by simp [go_sem]) ?_ ?_ <;> simp [go_sem, wrap_nat hpl, hif, hif2]
        · simp [go_sem] at c24
          obtain ⟨rfl, rfl⟩ := mid_nil hl c24
          refine awp_exit ?_
          simp only [go_sem]
          refine hK20 _ ?_
          clear hK20
          refine awp_seq fun K31 hK31 => ?_
          refine awp_region ?_
          iterate 13
            refine opsK_cons fun J hJ => ?_
            simp [go_sem, heldS_at b L v e6, countS_at b L v e6, ← hgo.1, ← hgo.2, heldG, countG]
            refine hJ _ _ _ ?_
            clear hJ J
          refine opsK_nil ?_
          refine hK31 _ ?_
          clear hK31
          refine awp_ret ?_
          refine finWQ_of [] ?_
          simp [go_sem, Try.f7]

end Go.Proofs.Ytebflegkdfhoaaa.AE
