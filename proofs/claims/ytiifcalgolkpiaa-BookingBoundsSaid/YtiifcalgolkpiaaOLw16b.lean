/-
  BookingBounds. Conditions: none; every contract names its own.
-/
import Derived.Test.YtiifcalgolkpiaaORb
import Derived.Test.YtiifcalgolkpiaaPg
set_option linter.constructorNameAsVariable false
namespace Go.Proofs.Ytiifcalgolkpiaa.AE
open Go Go.Proofs Go.RowKit
set_option linter.unusedVariables false
set_option linter.unusedSimpArgs false
set_option maxRecDepth 100000
set_option maxHeartbeats 4000000
theorem do_bound {b : Bk} {os : List Ord} {c : Chg} (hF : FairB b) (hO : FairO os) : ∃ (d : Bk) (ps : List Ord) (k : Int) (es : List Eff), doH b os c = ⟨.tup [.agg (cBk d (.sl 7 (rows cOrd ps))), .agg (cOc ⟨k, es⟩)], [], []⟩ ∧ FairB d ∧ FairO ps ∧ ps.length ≤ os.length + 1 ∧
    (ps.length = os.length ∨ (ps.length = os.length + 1 ∧ c.kind = 3 ∧ k = 0)) ∧ (∀ (j : Nat) (y : Ord), os[j]? = some y → 0 ≤ placeL ps y.id ∧ (placeL os y.id = j → y.id ≠ aboutC c → ∃ n : Nat, placeL ps y.id = n ∧ ps[n]? = some y)) := by
  have find_at : ∀ {ps : List Ord} {y z : Ord} , findL ps z.id = some y → ∃ n : Nat, placeL ps z.id = n ∧ ps[n]? = some y := by
    intro ps y z h
    rcases place_cases ps z.id with ⟨_, h2⟩ | ⟨k, x, _, h2, h3, _, h5⟩
    · rw [h] at h2; cases h2
    · rw [h] at h5; cases h5; exact ⟨k, h2, h3⟩
  have same : ∀ (j : Nat) (y : Ord), os[j]? = some y → 0 ≤ placeL os y.id ∧ (placeL os y.id = j → y.id ≠ aboutC c → ∃ n : Nat, placeL os y.id = n ∧ os[n]? = some y) :=
    fun j y hy => ⟨placeL_of_mem (List.mem_of_getElem? hy) rfl, fun h _ => ⟨j, h, hy⟩⟩
  rcases hd : doW b os c with e | ⟨d, ps, l, r⟩
  · exact ⟨b, os, e, [], doH_err hd, hF, hO, by omega, .inl rfl, same⟩
  · obtain ⟨h1, h2⟩ := doW_fair hF hO hd
    refine ⟨d, ps, 0, l, doH_ok hd, h1, h2, (doW_lens hF hO hd).2, ?_, ?_⟩
    · rcases doW_put hF hO hd with rfl | ⟨x, rfl, hx, _, hk⟩
      · exact .inl rfl
      · rcases putL_form os x with ⟨k, y, hk2, hp, _, _, _, he⟩ | ⟨hf, hp, i, he⟩
        · left; rw [he]; simp
        · right
          rcases hk with ⟨h3, _, _⟩ | h3
          · exact ⟨by rw [he]; simp; omega, h3, rfl⟩
          · omega
    · rcases doW_put hF hO hd with rfl | ⟨x, rfl, hx, _, hk⟩
      · exact same
      · intro j y hy
        have hm := List.mem_of_getElem? hy
        obtain ⟨z, hz, hid⟩ := putL_stay x hm
        refine ⟨placeL_of_mem hz hid, fun hp hne => find_at ?_⟩
        rw [find_put_ne os (by rw [hx]; exact hne)]
        rcases place_cases os y.id with ⟨h3, _⟩ | ⟨k, x', _, h3, h4, _, h5⟩
        · omega
        · obtain rfl : k = j := by omega
          rw [hy] at h4; cases h4; exact h5
def boundI (b : Bk) (qs : List Ord) (c : Chg) (d : Bk) (ps : List Ord) (k : Int) (es : List Eff) (pre _post : List Ord) : St := ⟨ofL [(2, .ref (0, 32) 0), (3, .ref (0, 48) 0), (5, .ref (0, 80) 0), (6, .ref (0, 96) 0), (7, .ref (0, 112) 0), (8, .int .i64 pre.length)], hOf [((0, 32), .obj (cBk b (.sl 7 (rows cOrd qs)))), ((0, 48), .obj (cChg c)), ((0, 80), .obj (cBk d (.sl 7 (rows cOrd ps)))), ((0, 96), .obj (cOc ⟨k, es⟩)), ((0, 112), .obj (cId (aboutC c)))]⟩
theorem rowsOrd_at {L : List Ord} {n : Nat} {e : Ord} (h : L[n]? = some e) : (rows cOrd L)[n]? = some (cOrd e) := by simp [rows, h]

structure bookingBoundsX where
  b : Bk
  os : List Ord
  os' : AV
  c : Chg
  h_os : SlA 7 cOrd os os'
/-- bookingBounds -/
noncomputable def bookingBoundsS : HSpec := mkH (ι := bookingBoundsX) (fun ⟨b, os, os', c, h_os⟩ => ([.agg (cBk b os'), .agg (cChg c)], [])) fun ⟨b, os, os', c, h_os⟩ => ⟨.bool true, [], []⟩
theorem bookingBoundsS_atG (b : Bk) (os : List Ord) (os' : AV) (c : Chg) (h_os : SlA 7 cOrd os os') : bookingBoundsS [.agg (cBk b os'), .agg (cChg c)] [] = some (⟨.bool true, [], []⟩) :=
  mkH_at (ι := bookingBoundsX) (A := fun ⟨b, os, os', c, h_os⟩ => ([.agg (cBk b os'), .agg (cChg c)], [])) (R := fun ⟨b, os, os', c, h_os⟩ => ⟨.bool true, [], []⟩) (fun i j h => by obtain ⟨b, os, os', c, h_os⟩ := i; obtain ⟨b2, os2, os'2, c2, h_os2⟩ := j; simp [and_assoc, cBk_eq_iff, cId_eq_iff, cOrd_eq_iff, cChg_eq_iff, cEff_eq_iff, cKey_eq_iff, cReq_eq_iff, cV_eq_iff, cOp_eq_iff, cOc_eq_iff] at h; obtain ⟨rfl, rfl, rfl⟩ := h; obtain rfl := SlA.inj (fun x y h => cOrd_inj h) h_os h_os2; rfl) ⟨b, os, os', c, h_os⟩
theorem bookingBoundsS_at (b : Bk) (os : List Ord) (c : Chg) : bookingBoundsS [.agg (cBk b (.sl 7 (rows cOrd os))), .agg (cChg c)] [] = some (⟨.bool true, [], []⟩) := bookingBoundsS_atG b os _ c .sl

theorem bookingBounds_ok : HSound Try.prog 3 bookingBoundsS := by
  refine sound_ofE (fn := Try.f3) rfl rfl (by kernel_rfl) fun args bx hr hS => ?_
  obtain ⟨⟨b, os, os', c, h_os⟩, rfl, rfl, rfl⟩ := mkH_of hS
  clear hS
  refine ⟨_, (EnvOK.consH (g := 13) (by kernel_rfl) alive16_ok (EnvOK.consV (g := 14) (by kernel_rfl) few16_ok (EnvOK.consV (g := 15) (by kernel_rfl) fair16_ok (EnvOK.consH (g := 16) (by kernel_rfl) do16_ok (EnvOK.consV (g := 17) (by kernel_rfl) findRf_ok (EnvOK.nil _)))))), by simp [Try.f3], by simp [go_sem], fun w Mx pin => ?_⟩
  simp only [hB_at, lab_nil, lab_cons, hOf_nil, hOf_cons]
  refine awp_weak (s' := ⟨ofL [(0, .agg (cBk b (.sl 7 (rows cOrd os)))), (1, .agg (cChg c))], hOf []⟩) ?_ ?_
  · cases h_os <;> exact weak_of [] (by simp [go_sem]) (by simp [go_sem]) (by simp [go_sem])
  clear h_os
  obtain ⟨qs, hqs⟩ : ∃ qs, qs = os.take 40 := ⟨_, rfl⟩
  have hlen : qs.length ≤ 40 := by rw [hqs]; simp; omega
  refine awp_seq fun K1 hK1 => ?_
  refine awp_region ?_
  iterate 3
    refine opsK_cons fun J hJ => ?_
    simp [go_sem]
    refine hJ _ _ _ ?_
    clear hJ J
  refine opsK_nil ?_
  refine hK1 _ ?_
  clear hK1
  refine awp_seq fun K2 hK2 => ?_
  refine awp_seq fun K3 hK3 => ?_
  refine awp_region ?_
  iterate 2
    refine opsK_cons fun J hJ => ?_
    simp [go_sem, alive16S_at]
    refine hJ _ _ _ ?_
    clear hJ J
  refine opsK_nil ?_
  refine hK3 _ ?_
  clear hK3
  refine awp_condF rfl ?_
  refine awp_skip ?_
  refine hK2 _ ?_
  clear hK2
  refine awp_seq fun K6 hK6 => ?_
  refine awp_region ?_
  iterate 3
    refine opsK_cons fun J hJ => ?_
    simp [go_sem, few16S_at b os, ← hqs]
    refine hJ _ _ _ ?_
    clear hJ J
  refine opsK_nil ?_
  refine hK6 _ ?_
  clear hK6
  refine awp_seq fun K7 hK7 => ?_
  refine awp_seq fun K8 hK8 => ?_
  cases hfr : fairR b qs
  · skip
    refine awp_region ?_
    iterate 3
      refine opsK_cons fun J hJ => ?_
      simp [go_sem, fair16S_at b qs (show qs.length ≤ 100000 by omega), hfr]
      refine hJ _ _ _ ?_
      clear hJ J
    refine opsK_nil ?_
    refine hK8 _ ?_
    clear hK8
    refine awp_condT rfl ?_
    refine awp_seq fun K10 hK10 => ?_
    refine awp_region ?_
    iterate 1
      refine opsK_cons fun J hJ => ?_
      simp [go_sem]
      refine hJ _ _ _ ?_
      clear hJ J
    refine opsK_nil ?_
    refine hK10 _ ?_
    clear hK10
    refine awp_ret ?_
    refine finWQ_of [] ?_
    simp [go_sem, Try.f3]
  · skip
    obtain ⟨hF, hO⟩ := fairR_of hfr
    have hB : FairB b ∧ FairO qs ∧ qs.length ≤ 40000 := ⟨hF, hO, by omega⟩
    have hlb : qs.length ≤ 100000 := by omega
    obtain ⟨d, ps, k, es, hdo, hFd, hOp, hpl, hpl2, hall⟩ := do_bound hF hO (c := c)
    refine awp_region ?_
    iterate 3
      refine opsK_cons fun J hJ => ?_
      simp [go_sem, fair16S_at b qs (show qs.length ≤ 100000 by omega), hfr]
      refine hJ _ _ _ ?_
      clear hJ J
    refine opsK_nil ?_
    refine hK8 _ ?_
    clear hK8
    refine awp_condF rfl ?_
    refine awp_skip ?_
    refine hK7 _ ?_
    clear hK7
    refine awp_seq fun K11 hK11 => ?_
    refine awp_region ?_
    iterate 10
      refine opsK_cons fun J hJ => ?_
      simp [go_sem, do16S_at b qs c hB, hdo]
      refine hJ _ _ _ ?_
      clear hJ J
    refine opsK_nil ?_
    refine hK11 _ ?_
    clear hK11
    refine awp_seq fun K12 hK12 => ?_
    refine awp_region ?_
    iterate 4
      refine opsK_cons fun J hJ => ?_
      simp [go_sem]
      refine hJ _ _ _ ?_
      clear hJ J
    refine opsK_nil ?_
    refine hK12 _ ?_
    clear hK12
    refine awp_seq fun K13 hK13 => ?_
    refine awp_seq fun K14 hK14 => ?_
    by_cases k3 : c.kind = 3
    · skip
      have hab : cId c.id = cId (aboutC c) := by unfold aboutC; rw [if_pos k3]
      refine awp_region ?_
      iterate 3
        refine opsK_cons fun J hJ => ?_
        simp [go_sem, k3]
        refine hJ _ _ _ ?_
        clear hJ J
      refine opsK_nil ?_
      refine hK14 _ ?_
      clear hK14
      refine awp_condT rfl ?_
      refine awp_region ?_
      iterate 3
        refine opsK_cons fun J hJ => ?_
        simp [go_sem]
        refine hJ _ _ _ ?_
        clear hJ J
      refine opsK_nil ?_
      refine hK13 _ ?_
      clear hK13
      refine awp_seq fun K16 hK16 => ?_
      refine awp_seq fun K17 hK17 => ?_
      refine awp_region ?_
      iterate 1
        refine opsK_cons fun J hJ => ?_
        simp [go_sem]
        refine hJ _ _ _ ?_
        clear hJ J
      refine opsK_nil ?_
      refine hK17 _ ?_
      clear hK17
      refine awp_block ?_
      refine awp_loop (ι := { q : List Ord × List Ord // q.1 ++ q.2 = qs ∧ True }) (fun q => boundI b qs c d ps k es q.1.1 q.1.2) (fun q => q.1.2.length) ⟨([], qs), rfl, trivial⟩ ?_ ?_
      · refine weak_of [((0, 32), some (0, 32)), ((0, 48), some (0, 48)), ((0, 80), some (0, 80)), ((0, 96), some (0, 96)), ((0, 112), some (0, 112))] (by simp [go_sem]) ?_ ?_ <;> simp [go_sem, hab]
      intro ⟨⟨pre, post⟩, hl, hgo⟩
      simp only at hl hgo
      have hpl := len_small hl hlb
      simp only [boundI]
      refine awp_seq fun K18 hK18 => ?_
      refine awp_seq fun K19 hK19 => ?_
      refine awp_region ?_
      iterate 5
        refine opsK_cons fun J hJ => ?_
        simp [go_sem]
        refine hJ _ _ _ ?_
        clear hJ J
      refine opsK_nil ?_
      refine hK19 _ ?_
      clear hK19
      refine awp_cond (t := _) rfl (fun c20 => ?_) (fun c20 => ?_)
      · simp [go_sem] at c20
        obtain ⟨x, post, rfl, hx⟩ := mid_lt hl c20
        refine awp_skip ?_
        refine hK18 _ ?_
        clear hK18
        refine awp_seq fun K21 hK21 => ?_
        refine awp_block ?_
        refine awp_seq fun K22 hK22 => ?_
        refine awp_draw ?_
        iterate 9
          refine opsK_cons fun J hJ => ?_
          simp [go_sem, hx, findRfS_at d ps x.id (show ps.length ≤ 100000 by omega)]
          refine hJ _ _ _ ?_
          clear hJ J
        refine opsK_nil ?_
        refine ⟨rfl, ?_⟩
        refine hK22 _ ?_
        clear hK22
        refine awp_seq fun K23 hK23 => ?_
        refine awp_draw ?_
        iterate 11
          refine opsK_cons fun J hJ => ?_
          simp [go_sem, hx, findRfS_at b qs x.id (show qs.length ≤ 100000 by omega)]
          refine hJ _ _ _ ?_
          clear hJ J
        refine opsK_nil ?_
        refine ⟨rfl, ?_⟩
        refine hK23 _ ?_
        clear hK23
        refine awp_seq fun K24 hK24 => ?_
        obtain ⟨p0, p1⟩ := hall _ _ hx
        have p0n : ¬ placeL ps x.id < 0 := by omega
        rcases (show ¬ placeL qs x.id = (pre.length : Int) ∨ (placeL qs x.id = (pre.length : Int) ∧ x.id = aboutC c) ∨ (placeL qs x.id = (pre.length : Int) ∧ ¬ x.id = aboutC c) by
            by_cases h1 : placeL qs x.id = (pre.length : Int)
            · by_cases h2 : x.id = aboutC c
              · exact .inr (.inl ⟨h1, h2⟩)
              · exact .inr (.inr ⟨h1, h2⟩)
            · exact .inl h1) with z1 | ⟨z1, z2⟩ | ⟨z1, z2⟩
        · skip
          have y1 : (placeL qs x.id == (pre.length : Int)) = false := by simpa using z1
          refine awp_draw ?_
          iterate 28
            refine opsK_cons fun J hJ => ?_
            simp [go_sem, p0n, y1]
            refine hJ _ _ _ ?_
            clear hJ J
          refine opsK_nil ?_
          refine ⟨rfl, ?_⟩
          refine hK24 _ ?_
          clear hK24
          refine awp_condF rfl ?_
          refine awp_skip ?_
          refine hK21 _ ?_
          clear hK21
          refine awp_region ?_
          iterate 3
            refine opsK_cons fun J hJ => ?_
            simp [go_sem]
            refine hJ _ _ _ ?_
            clear hJ J
          refine opsK_nil ?_
          refine ⟨⟨(pre ++ [x], post), by simp [← hl], by exact trivial⟩, ?_, by simp⟩
          refine weak_of [((0, 32), some (0, 32)), ((0, 48), some (0, 48)), ((0, 80), some (0, 80)), ((0, 96), some (0, 96)), ((0, 112), some (0, 112))] (by simp [go_sem]) ?_ ?_ <;> simp [go_sem, wrap_nat hpl]
        · skip
          have y1 : (placeL qs x.id == (pre.length : Int)) = true := by simpa using z1
          have y2 : decide (x.id = aboutC c) = true := by simpa using z2
          refine awp_draw ?_
          iterate 28
            refine opsK_cons fun J hJ => ?_
            simp [go_sem, p0n, y1, hx, y2]
            refine hJ _ _ _ ?_
            clear hJ J
          refine opsK_nil ?_
          refine ⟨rfl, ?_⟩
          refine hK24 _ ?_
          clear hK24
          refine awp_condF rfl ?_
          refine awp_skip ?_
          refine hK21 _ ?_
          clear hK21
          refine awp_region ?_
          iterate 3
            refine opsK_cons fun J hJ => ?_
            simp [go_sem]
            refine hJ _ _ _ ?_
            clear hJ J
          refine opsK_nil ?_
          refine ⟨⟨(pre ++ [x], post), by simp [← hl], by exact trivial⟩, ?_, by simp⟩
          refine weak_of [((0, 32), some (0, 32)), ((0, 48), some (0, 48)), ((0, 80), some (0, 80)), ((0, 96), some (0, 96)), ((0, 112), some (0, 112))] (by simp [go_sem]) ?_ ?_ <;> simp [go_sem, wrap_nat hpl]
        · skip
          have y1 : (placeL qs x.id == (pre.length : Int)) = true := by simpa using z1
          obtain ⟨n, hn, hy⟩ := p1 z1 z2
          refine awp_draw ?_
          iterate 28
            refine opsK_cons fun J hJ => ?_
            simp [go_sem, p0n, y1, hx, z2, hn, hy]
            refine hJ _ _ _ ?_
            clear hJ J
          refine opsK_nil ?_
          refine ⟨rfl, ?_⟩
          refine hK24 _ ?_
          clear hK24
          refine awp_condF rfl ?_
          refine awp_skip ?_
          refine hK21 _ ?_
          clear hK21
          refine awp_region ?_
          iterate 3
            refine opsK_cons fun J hJ => ?_
            simp [go_sem]
            refine hJ _ _ _ ?_
            clear hJ J
          refine opsK_nil ?_
          refine ⟨⟨(pre ++ [x], post), by simp [← hl], by exact trivial⟩, ?_, by simp⟩
          refine weak_of [((0, 32), some (0, 32)), ((0, 48), some (0, 48)), ((0, 80), some (0, 80)), ((0, 96), some (0, 96)), ((0, 112), some (0, 112))] (by simp [go_sem]) ?_ ?_ <;> simp [go_sem, wrap_nat hpl]
      · simp [go_sem] at c20
        obtain ⟨rfl, rfl⟩ := mid_nil hl c20
        refine awp_exit ?_
        simp only [go_sem]
        refine hK16 _ ?_
        clear hK16
        refine awp_seq fun K27 hK27 => ?_
        have hw : IntKind.i64.wrap ((ps.length : Int) - qs.length) = (ps.length : Int) - qs.length := wrap_at (by omega)
        have hfd : fairR d ps = true := fairR_T ⟨hFd, hOp⟩
        rcases hpl2 with g1 | ⟨g1, g2, g3⟩
        · skip
          have hw0 : IntKind.i64.wrap ((ps.length : Int) - qs.length) = 0 := by rw [hw]; omega
          refine awp_region ?_
          iterate 8
            refine opsK_cons fun J hJ => ?_
            simp [go_sem, hw0]
            refine hJ _ _ _ ?_
            clear hJ J
          refine opsK_nil ?_
          refine hK27 _ ?_
          clear hK27
          refine awp_seq fun K28 hK28 => ?_
          refine awp_region ?_
          iterate 21
            refine opsK_cons fun J hJ => ?_
            simp [go_sem, fair16S_at d ps (show ps.length ≤ 100000 by omega), hfd]
            refine hJ _ _ _ ?_
            clear hJ J
          refine opsK_nil ?_
          refine hK28 _ ?_
          clear hK28
          refine awp_ret ?_
          refine finWQ_of [] ?_
          simp [go_sem, Try.f3]
        · skip
          have hw0 : IntKind.i64.wrap ((ps.length : Int) - qs.length) = 1 := by rw [hw]; omega
          refine awp_region ?_
          iterate 8
            refine opsK_cons fun J hJ => ?_
            simp [go_sem, hw0]
            refine hJ _ _ _ ?_
            clear hJ J
          refine opsK_nil ?_
          refine hK27 _ ?_
          clear hK27
          refine awp_seq fun K28 hK28 => ?_
          refine awp_region ?_
          iterate 21
            refine opsK_cons fun J hJ => ?_
            simp [go_sem, fair16S_at d ps (show ps.length ≤ 100000 by omega), hfd, g2, g3]
            refine hJ _ _ _ ?_
            clear hJ J
          refine opsK_nil ?_
          refine hK28 _ ?_
          clear hK28
          refine awp_ret ?_
          refine finWQ_of [] ?_
          simp [go_sem, Try.f3]
    · skip
      have k3b : (c.kind == 3) = false := by simpa using k3
      have hab : cId c.ref = cId (aboutC c) := by unfold aboutC; rw [if_neg k3]
      refine awp_region ?_
      iterate 3
        refine opsK_cons fun J hJ => ?_
        simp [go_sem, k3b]
        refine hJ _ _ _ ?_
        clear hJ J
      refine opsK_nil ?_
      refine hK14 _ ?_
      clear hK14
      refine awp_condF rfl ?_
      refine awp_skip ?_
      refine hK13 _ ?_
      clear hK13
      refine awp_seq fun K16 hK16 => ?_
      refine awp_seq fun K17 hK17 => ?_
      refine awp_region ?_
      iterate 1
        refine opsK_cons fun J hJ => ?_
        simp [go_sem]
        refine hJ _ _ _ ?_
        clear hJ J
      refine opsK_nil ?_
      refine hK17 _ ?_
      clear hK17
      refine awp_block ?_
      refine awp_loop (ι := { q : List Ord × List Ord // q.1 ++ q.2 = qs ∧ True }) (fun q => boundI b qs c d ps k es q.1.1 q.1.2) (fun q => q.1.2.length) ⟨([], qs), rfl, trivial⟩ ?_ ?_
      · refine weak_of [((0, 32), some (0, 32)), ((0, 48), some (0, 48)), ((0, 80), some (0, 80)), ((0, 96), some (0, 96)), ((0, 112), some (0, 112))] (by simp [go_sem]) ?_ ?_ <;> simp [go_sem, hab]
      intro ⟨⟨pre, post⟩, hl, hgo⟩
      simp only at hl hgo
      have hpl := len_small hl hlb
      simp only [boundI]
      refine awp_seq fun K18 hK18 => ?_
      refine awp_seq fun K19 hK19 => ?_
      refine awp_region ?_
      iterate 5
        refine opsK_cons fun J hJ => ?_
        simp [go_sem]
        refine hJ _ _ _ ?_
        clear hJ J
      refine opsK_nil ?_
      refine hK19 _ ?_
      clear hK19
      refine awp_cond (t := _) rfl (fun c20 => ?_) (fun c20 => ?_)
      · simp [go_sem] at c20
        obtain ⟨x, post, rfl, hx⟩ := mid_lt hl c20
        refine awp_skip ?_
        refine hK18 _ ?_
        clear hK18
        refine awp_seq fun K21 hK21 => ?_
        refine awp_block ?_
        refine awp_seq fun K22 hK22 => ?_
        refine awp_draw ?_
        iterate 9
          refine opsK_cons fun J hJ => ?_
          simp [go_sem, hx, findRfS_at d ps x.id (show ps.length ≤ 100000 by omega)]
          refine hJ _ _ _ ?_
          clear hJ J
        refine opsK_nil ?_
        refine ⟨rfl, ?_⟩
        refine hK22 _ ?_
        clear hK22
        refine awp_seq fun K23 hK23 => ?_
        refine awp_draw ?_
        iterate 11
          refine opsK_cons fun J hJ => ?_
          simp [go_sem, hx, findRfS_at b qs x.id (show qs.length ≤ 100000 by omega)]
          refine hJ _ _ _ ?_
          clear hJ J
        refine opsK_nil ?_
        refine ⟨rfl, ?_⟩
        refine hK23 _ ?_
        clear hK23
        refine awp_seq fun K24 hK24 => ?_
        obtain ⟨p0, p1⟩ := hall _ _ hx
        have p0n : ¬ placeL ps x.id < 0 := by omega
        rcases (show ¬ placeL qs x.id = (pre.length : Int) ∨ (placeL qs x.id = (pre.length : Int) ∧ x.id = aboutC c) ∨ (placeL qs x.id = (pre.length : Int) ∧ ¬ x.id = aboutC c) by
            by_cases h1 : placeL qs x.id = (pre.length : Int)
            · by_cases h2 : x.id = aboutC c
              · exact .inr (.inl ⟨h1, h2⟩)
              · exact .inr (.inr ⟨h1, h2⟩)
            · exact .inl h1) with z1 | ⟨z1, z2⟩ | ⟨z1, z2⟩
        · skip
          have y1 : (placeL qs x.id == (pre.length : Int)) = false := by simpa using z1
          refine awp_draw ?_
          iterate 28
            refine opsK_cons fun J hJ => ?_
            simp [go_sem, p0n, y1]
            refine hJ _ _ _ ?_
            clear hJ J
          refine opsK_nil ?_
          refine ⟨rfl, ?_⟩
          refine hK24 _ ?_
          clear hK24
          refine awp_condF rfl ?_
          refine awp_skip ?_
          refine hK21 _ ?_
          clear hK21
          refine awp_region ?_
          iterate 3
            refine opsK_cons fun J hJ => ?_
            simp [go_sem]
            refine hJ _ _ _ ?_
            clear hJ J
          refine opsK_nil ?_
          refine ⟨⟨(pre ++ [x], post), by simp [← hl], by exact trivial⟩, ?_, by simp⟩
          refine weak_of [((0, 32), some (0, 32)), ((0, 48), some (0, 48)), ((0, 80), some (0, 80)), ((0, 96), some (0, 96)), ((0, 112), some (0, 112))] (by simp [go_sem]) ?_ ?_ <;> simp [go_sem, wrap_nat hpl]
        · skip
          have y1 : (placeL qs x.id == (pre.length : Int)) = true := by simpa using z1
          have y2 : decide (x.id = aboutC c) = true := by simpa using z2
          refine awp_draw ?_
          iterate 28
            refine opsK_cons fun J hJ => ?_
            simp [go_sem, p0n, y1, hx, y2]
            refine hJ _ _ _ ?_
            clear hJ J
          refine opsK_nil ?_
          refine ⟨rfl, ?_⟩
          refine hK24 _ ?_
          clear hK24
          refine awp_condF rfl ?_
          refine awp_skip ?_
          refine hK21 _ ?_
          clear hK21
          refine awp_region ?_
          iterate 3
            refine opsK_cons fun J hJ => ?_
            simp [go_sem]
            refine hJ _ _ _ ?_
            clear hJ J
          refine opsK_nil ?_
          refine ⟨⟨(pre ++ [x], post), by simp [← hl], by exact trivial⟩, ?_, by simp⟩
          refine weak_of [((0, 32), some (0, 32)), ((0, 48), some (0, 48)), ((0, 80), some (0, 80)), ((0, 96), some (0, 96)), ((0, 112), some (0, 112))] (by simp [go_sem]) ?_ ?_ <;> simp [go_sem, wrap_nat hpl]
        · skip
          have y1 : (placeL qs x.id == (pre.length : Int)) = true := by simpa using z1
          obtain ⟨n, hn, hy⟩ := p1 z1 z2
          refine awp_draw ?_
          iterate 28
            refine opsK_cons fun J hJ => ?_
            simp [go_sem, p0n, y1, hx, z2, hn, hy]
            refine hJ _ _ _ ?_
            clear hJ J
          refine opsK_nil ?_
          refine ⟨rfl, ?_⟩
          refine hK24 _ ?_
          clear hK24
          refine awp_condF rfl ?_
          refine awp_skip ?_
          refine hK21 _ ?_
          clear hK21
          refine awp_region ?_
          iterate 3
            refine opsK_cons fun J hJ => ?_
            simp [go_sem]
            refine hJ _ _ _ ?_
            clear hJ J
          refine opsK_nil ?_
          refine ⟨⟨(pre ++ [x], post), by simp [← hl], by exact trivial⟩, ?_, by simp⟩
          refine weak_of [((0, 32), some (0, 32)), ((0, 48), some (0, 48)), ((0, 80), some (0, 80)), ((0, 96), some (0, 96)), ((0, 112), some (0, 112))] (by simp [go_sem]) ?_ ?_ <;> simp [go_sem, wrap_nat hpl]
      · simp [go_sem] at c20
        obtain ⟨rfl, rfl⟩ := mid_nil hl c20
        refine awp_exit ?_
        simp only [go_sem]
        refine hK16 _ ?_
        clear hK16
        refine awp_seq fun K27 hK27 => ?_
        have hw : IntKind.i64.wrap ((ps.length : Int) - qs.length) = (ps.length : Int) - qs.length := wrap_at (by omega)
        have hfd : fairR d ps = true := fairR_T ⟨hFd, hOp⟩
        rcases hpl2 with g1 | ⟨g1, g2, g3⟩
        · skip
          have hw0 : IntKind.i64.wrap ((ps.length : Int) - qs.length) = 0 := by rw [hw]; omega
          refine awp_region ?_
          iterate 8
            refine opsK_cons fun J hJ => ?_
            simp [go_sem, hw0]
            refine hJ _ _ _ ?_
            clear hJ J
          refine opsK_nil ?_
          refine hK27 _ ?_
          clear hK27
          refine awp_seq fun K28 hK28 => ?_
          refine awp_region ?_
          iterate 21
            refine opsK_cons fun J hJ => ?_
            simp [go_sem, fair16S_at d ps (show ps.length ≤ 100000 by omega), hfd]
            refine hJ _ _ _ ?_
            clear hJ J
          refine opsK_nil ?_
          refine hK28 _ ?_
          clear hK28
          refine awp_ret ?_
          refine finWQ_of [] ?_
          simp [go_sem, Try.f3]
        · skip
          have hw0 : IntKind.i64.wrap ((ps.length : Int) - qs.length) = 1 := by rw [hw]; omega
          refine awp_region ?_
          iterate 8
            refine opsK_cons fun J hJ => ?_
            simp [go_sem, hw0]
            refine hJ _ _ _ ?_
            clear hJ J
          refine opsK_nil ?_
          refine hK27 _ ?_
          clear hK27
          refine awp_seq fun K28 hK28 => ?_
          refine awp_region ?_
          iterate 21
            refine opsK_cons fun J hJ => ?_
            simp [go_sem, fair16S_at d ps (show ps.length ≤ 100000 by omega), hfd, g2, g3]
            refine hJ _ _ _ ?_
            clear hJ J
          refine opsK_nil ?_
          refine hK28 _ ?_
          clear hK28
          refine awp_ret ?_
          refine finWQ_of [] ?_
          simp [go_sem, Try.f3]

theorem BookingBounds_walk (w : World) (l0 : List Int) (a0 : Option Addr) (c0 : Nat) (L0 : List (List Int)) (g0 : l0.length = 24) (_ : ∀ x ∈ l0, I64 x) (h0 : L0.length ≤ c0) (m0 : c0 ≤ maxLen) (s0 : SlK w.heap.size 7 w a0 L0) (l1 : List Int) (g1 : l1.length = 9) (_ : ∀ x ∈ l1, I64 x) :
    Calls Try.prog 3 #[.agg (bk l0 (.slice a0 L0.length c0)), .agg (A l1)] w fun e w' => e = .returned (.bool true) ∧ Below w.heap.size w w' := by
  obtain ⟨b0, os0, e0, r0⟩ := book_rep g0 h0 m0 s0
  obtain ⟨x1, r1⟩ := agg_rep ex_Chg w g1
  refine true_walk bookingBounds_ok (bookingBoundsS_at b0 os0 x1) w rfl fun i v hi => ?_
  match i, hi with
  | 0, hi => cases hi; exact r0
  | 1, hi => cases hi; exact r1

end Go.Proofs.Ytiifcalgolkpiaa.AE
