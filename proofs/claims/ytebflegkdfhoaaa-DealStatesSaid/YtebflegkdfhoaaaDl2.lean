/-
  Package deal, second part: contracts. Conditions: none; every contract names its own.
-/
import Derived.Test.YtebflegkdfhoaaaCmp
import Derived.Test.YtebflegkdfhoaaaAl
namespace Go.Proofs.Ytebflegkdfhoaaa.AE
open Go Go.Proofs Go.RowKit
set_option linter.unusedVariables false
set_option linter.unusedSimpArgs false
set_option maxRecDepth 100000
set_option maxHeartbeats 4000000
def sameB (b : Bk) (os : List Ord) (d : Bk) (qs : List Ord) : Bool := decide (b = d ∧ os = qs)
theorem Bk.ext_all {b d : Bk} (h : b.st = d.st ∧ b.pr = d.pr ∧ b.pu = d.pu) : b = d := by
  cases b; cases d; simp only at h; obtain ⟨rfl, rfl, rfl⟩ := h; rfl

structure sameX where
  b : Bk
  os : List Ord
  os' : AV
  d : Bk
  qs : List Ord
  qs' : AV
  h_os : SlA 7 cOrd os os'
  h_qs : SlA 7 cOrd qs qs'
  hL : os.length ≤ 100000
/-- deal.Same -/
noncomputable def sameS : HSpec := mkH (ι := sameX) (fun ⟨b, os, os', d, qs, qs', h_os, h_qs, hL⟩ => ([.agg (cBk b os'), .agg (cBk d qs')], [])) fun ⟨b, os, os', d, qs, qs', h_os, h_qs, hL⟩ => ⟨.bool (sameB b os d qs), [], []⟩
theorem sameS_atG (b : Bk) (os : List Ord) (os' : AV) (d : Bk) (qs : List Ord) (qs' : AV) (h_os : SlA 7 cOrd os os') (h_qs : SlA 7 cOrd qs qs') (hL : os.length ≤ 100000) : sameS [.agg (cBk b os'), .agg (cBk d qs')] [] = some (⟨.bool (sameB b os d qs), [], []⟩) :=
  mkH_at (ι := sameX) (A := fun ⟨b, os, os', d, qs, qs', h_os, h_qs, hL⟩ => ([.agg (cBk b os'), .agg (cBk d qs')], [])) (R := fun ⟨b, os, os', d, qs, qs', h_os, h_qs, hL⟩ => ⟨.bool (sameB b os d qs), [], []⟩) (fun i j h => by obtain ⟨b, os, os', d, qs, qs', h_os, h_qs, hL⟩ := i; obtain ⟨b2, os2, os'2, d2, qs2, qs'2, h_os2, h_qs2, hL2⟩ := j; simp [and_assoc, cBk_eq_iff, cId_eq_iff, cOrd_eq_iff, cChg_eq_iff, cEff_eq_iff, cKey_eq_iff, cReq_eq_iff, cV_eq_iff, cOp_eq_iff, cOc_eq_iff] at h; obtain ⟨rfl, rfl, rfl, rfl⟩ := h; obtain rfl := SlA.inj (fun x y h => cOrd_inj h) h_os h_os2; obtain rfl := SlA.inj (fun x y h => cOrd_inj h) h_qs h_qs2; rfl) ⟨b, os, os', d, qs, qs', h_os, h_qs, hL⟩
theorem sameS_at (b : Bk) (os : List Ord) (d : Bk) (qs : List Ord) (hL : os.length ≤ 100000) : sameS [.agg (cBk b (.sl 7 (rows cOrd os))), .agg (cBk d (.sl 7 (rows cOrd qs)))] [] = some (⟨.bool (sameB b os d qs), [], []⟩) := sameS_atG b os _ d qs _ .sl .sl hL

theorem same_ok : HSound Try.prog 36 sameS := by
  refine sound_ofE (fn := Try.f36) rfl rfl (by kernel_rfl) fun args bx hr hS => ?_
  obtain ⟨⟨b, os, os', d, qs, qs', h_os, h_qs, hL⟩, rfl, rfl, rfl⟩ := mkH_of hS
  clear hS
  refine ⟨_, (EnvOK.consV (g := 63) (by kernel_rfl) eqOrd_ok (EnvOK.nil _)), by simp [Try.f36], by simp [go_sem], fun w Mx pin => ?_⟩
  simp only [hB_at, lab_nil, lab_cons, hOf_nil, hOf_cons]
  refine awp_weak (s' := ⟨ofL [(0, .agg (cBk b (.sl 7 (rows cOrd os)))), (1, .agg (cBk d (.sl 7 (rows cOrd qs))))], hOf []⟩) ?_ ?_
  · cases h_os <;> cases h_qs <;> exact weak_of [] (by simp [go_sem]) (by simp [go_sem]) (by simp [go_sem])
  clear h_os h_qs
  refine awp_seq fun K1 hK1 => ?_
  refine awp_region ?_
  iterate 3
    refine opsK_cons fun J hJ => ?_
    simp [go_sem]
    refine hJ _ _ _ ?_
    clear hJ J
  refine opsK_nil ?_
  refine hK1 _ ?_
  clear hK1
  refine awp_seq fun K2 hK2 => ?_
  cases h1 : decide (b.st = d.st) <;> cases h2 : decide (b.pr = d.pr) <;> cases h3 : decide (b.pu = d.pu)
  all_goals
    refine awp_region ?_
    iterate 27
      refine opsK_cons fun J hJ => ?_
      simp [go_sem, h1, h2, h3, eqOrdS_at os qs hL]
      refine hJ _ _ _ ?_
      clear hJ J
    refine opsK_nil ?_
    refine hK2 _ ?_
    clear hK2
    refine awp_ret ?_
    refine finWQ_of [] ?_
    simp at h1 h2 h3
    first
      | (have hbd : b = d := Bk.ext_all ⟨h1, h2, h3⟩; simp [go_sem, Try.f36, sameB, hbd]; done)
      | (have hbd : b ≠ d := (by rintro rfl; simp at h1 h2 h3); simp [go_sem, Try.f36, sameB, hbd]; done)

structure plBookX where
  b : Bk
  os : List Ord
  os' : AV
  d : Bk
  qs : List Ord
  qs' : AV
  h_os : SlA 7 cOrd os os'
  h_qs : SlA 7 cOrd qs qs'
  hL : os.length ≤ 100000
/-- countermandplain.Book -/
noncomputable def plBookS : HSpec := mkH (ι := plBookX) (fun ⟨b, os, os', d, qs, qs', h_os, h_qs, hL⟩ => ([.agg (cBk b os'), .agg (cBk d qs')], [])) fun ⟨b, os, os', d, qs, qs', h_os, h_qs, hL⟩ => ⟨.bool (sameB b os d qs), [], []⟩
theorem plBookS_atG (b : Bk) (os : List Ord) (os' : AV) (d : Bk) (qs : List Ord) (qs' : AV) (h_os : SlA 7 cOrd os os') (h_qs : SlA 7 cOrd qs qs') (hL : os.length ≤ 100000) : plBookS [.agg (cBk b os'), .agg (cBk d qs')] [] = some (⟨.bool (sameB b os d qs), [], []⟩) :=
  mkH_at (ι := plBookX) (A := fun ⟨b, os, os', d, qs, qs', h_os, h_qs, hL⟩ => ([.agg (cBk b os'), .agg (cBk d qs')], [])) (R := fun ⟨b, os, os', d, qs, qs', h_os, h_qs, hL⟩ => ⟨.bool (sameB b os d qs), [], []⟩) (fun i j h => by obtain ⟨b, os, os', d, qs, qs', h_os, h_qs, hL⟩ := i; obtain ⟨b2, os2, os'2, d2, qs2, qs'2, h_os2, h_qs2, hL2⟩ := j; simp [and_assoc, cBk_eq_iff, cId_eq_iff, cOrd_eq_iff, cChg_eq_iff, cEff_eq_iff, cKey_eq_iff, cReq_eq_iff, cV_eq_iff, cOp_eq_iff, cOc_eq_iff] at h; obtain ⟨rfl, rfl, rfl, rfl⟩ := h; obtain rfl := SlA.inj (fun x y h => cOrd_inj h) h_os h_os2; obtain rfl := SlA.inj (fun x y h => cOrd_inj h) h_qs h_qs2; rfl) ⟨b, os, os', d, qs, qs', h_os, h_qs, hL⟩
theorem plBookS_at (b : Bk) (os : List Ord) (d : Bk) (qs : List Ord) (hL : os.length ≤ 100000) : plBookS [.agg (cBk b (.sl 7 (rows cOrd os))), .agg (cBk d (.sl 7 (rows cOrd qs)))] [] = some (⟨.bool (sameB b os d qs), [], []⟩) := plBookS_atG b os _ d qs _ .sl .sl hL

def plBookI (b : Bk) (os : List Ord) (d : Bk) (qs pre _post _q : List Ord) : St := ⟨ofL [(2, .ref (0, 32) 0), (3, .ref (0, 48) 0), (5, .int .i64 pre.length)], hOf [((0, 32), .obj (cBk b (.sl 7 (rows cOrd os)))), ((0, 48), .obj (cBk d (.sl 7 (rows cOrd qs))))]⟩

theorem plBook_ok : HSound Try.prog 31 plBookS := by
  refine sound_ofE (fn := Try.f31) rfl rfl (by kernel_rfl) fun args bx hr hS => ?_
  obtain ⟨⟨b, os, os', d, qs, qs', h_os, h_qs, hL⟩, rfl, rfl, rfl⟩ := mkH_of hS
  clear hS
  refine ⟨_, (EnvOK.nil _), by simp [Try.f31], by simp [go_sem], fun w Mx pin => ?_⟩
  simp only [hB_at, lab_nil, lab_cons, hOf_nil, hOf_cons]
  refine awp_weak (s' := ⟨ofL [(0, .agg (cBk b (.sl 7 (rows cOrd os)))), (1, .agg (cBk d (.sl 7 (rows cOrd qs))))], hOf []⟩) ?_ ?_
  · cases h_os <;> cases h_qs <;> exact weak_of [] (by simp [go_sem]) (by simp [go_sem]) (by simp [go_sem])
  clear h_os h_qs
  refine awp_seq fun K1 hK1 => ?_
  refine awp_region ?_
  iterate 3
    refine opsK_cons fun J hJ => ?_
    simp [go_sem]
    refine hJ _ _ _ ?_
    clear hJ J
  refine opsK_nil ?_
  refine hK1 _ ?_
  clear hK1
  refine awp_seq fun K2 hK2 => ?_
  refine awp_seq fun K3 hK3 => ?_
  by_cases hbd : b = d
  · skip
    subst hbd
    refine awp_region ?_
    iterate 28
      refine opsK_cons fun J hJ => ?_
      simp [go_sem]
      refine hJ _ _ _ ?_
      clear hJ J
    refine opsK_nil ?_
    refine hK3 _ ?_
    clear hK3
    refine awp_cond (t := _) rfl (fun c4 => ?_) (fun c4 => ?_)
    · simp [go_sem] at c4
      have hne : os ≠ qs := fun h => c4 (by rw [h])
      refine awp_seq fun K5 hK5 => ?_
      refine awp_region ?_
      iterate 1
        refine opsK_cons fun J hJ => ?_
        simp [go_sem]
        refine hJ _ _ _ ?_
        clear hJ J
      refine opsK_nil ?_
      refine hK5 _ ?_
      clear hK5
      refine awp_ret ?_
      refine finWQ_of [] ?_
      simp [go_sem, Try.f31, sameB, hne]
    · simp [go_sem] at c4
      refine awp_skip ?_
      refine hK2 _ ?_
      clear hK2
      refine awp_seq fun K6 hK6 => ?_
      refine awp_seq fun K7 hK7 => ?_
      refine awp_region ?_
      iterate 1
        refine opsK_cons fun J hJ => ?_
        simp [go_sem]
        refine hJ _ _ _ ?_
        clear hJ J
      refine opsK_nil ?_
      refine hK7 _ ?_
      clear hK7
      refine awp_block ?_
      refine awp_loop (ι := { q : List Ord × List Ord × List Ord // q.1 ++ q.2.1 = os ∧ q.1 ++ q.2.2 = qs }) (fun q => plBookI b os b qs q.1.1 q.1.2.1 q.1.2.2) (fun q => q.1.2.1.length) ⟨([], os, qs), rfl, rfl⟩ ?_ ?_
      · refine weak_of [((0, 32), some (0, 32)), ((0, 48), some (0, 48))] (by simp [go_sem]) ?_ ?_ <;> simp [go_sem]
      intro ⟨⟨pre, post, p2⟩, hl, hgo⟩
      simp only at hl hgo
      have hpl := len_small hl hL
      simp only [plBookI]
      refine awp_seq fun K8 hK8 => ?_
      refine awp_seq fun K9 hK9 => ?_
      refine awp_region ?_
      iterate 5
        refine opsK_cons fun J hJ => ?_
        simp [go_sem]
        refine hJ _ _ _ ?_
        clear hJ J
      refine opsK_nil ?_
      refine hK9 _ ?_
      clear hK9
      refine awp_cond (t := _) rfl (fun c10 => ?_) (fun c10 => ?_)
      · simp [go_sem] at c10
        obtain ⟨x, post, rfl, hx⟩ := mid_lt hl c10
        obtain ⟨y, p2, rfl, hy⟩ := mid_lt hgo (by omega)
        refine awp_skip ?_
        refine hK8 _ ?_
        clear hK8
        refine awp_seq fun K11 hK11 => ?_
        refine awp_block ?_
        refine awp_seq fun K12 hK12 => ?_
        refine awp_draw ?_
        iterate 11
          refine opsK_cons fun J hJ => ?_
          simp [go_sem, hx, hy]
          refine hJ _ _ _ ?_
          clear hJ J
        refine opsK_nil ?_
        refine ⟨rfl, ?_⟩
        refine hK12 _ ?_
        clear hK12
        refine awp_cond (t := _) rfl (fun c13 => ?_) (fun c13 => ?_)
        · skip
          refine awp_seq fun K14 hK14 => ?_
          refine awp_region ?_
          iterate 1
            refine opsK_cons fun J hJ => ?_
            simp [go_sem]
            refine hJ _ _ _ ?_
            clear hJ J
          refine opsK_nil ?_
          refine hK14 _ ?_
          clear hK14
          refine awp_ret ?_
          have hne : os ≠ qs := by
            rintro rfl
            rw [hx] at hy
            cases hy
            simp at c13
          refine finWQ_of [] ?_
          simp [go_sem, Try.f31, sameB, hne]
        · skip
          refine awp_skip ?_
          refine hK11 _ ?_
          clear hK11
          refine awp_region ?_
          iterate 3
            refine opsK_cons fun J hJ => ?_
            simp [go_sem]
            refine hJ _ _ _ ?_
            clear hJ J
          refine opsK_nil ?_
          obtain rfl : x = y := by simpa using c13
          refine ⟨⟨(pre ++ [x], post, p2), by simp [← hl], by rw [← hgo]; simp⟩, ?_, by simp⟩
          refine weak_of [((0, 32), some (0, 32)), ((0, 48), some (0, 48))] (by simp [go_sem]) ?_ ?_ <;> simp [go_sem, wrap_nat hpl]
      · simp [go_sem] at c10
        obtain ⟨rfl, rfl⟩ := mid_nil hl c10
        obtain rfl : p2 = [] := by have := congrArg List.length hgo; simp at this; exact List.eq_nil_of_length_eq_zero (by omega)
        simp at hgo
        refine awp_exit ?_
        simp only [go_sem]
        refine hK6 _ ?_
        clear hK6
        refine awp_seq fun K15 hK15 => ?_
        refine awp_region ?_
        iterate 1
          refine opsK_cons fun J hJ => ?_
          simp [go_sem]
          refine hJ _ _ _ ?_
          clear hJ J
        refine opsK_nil ?_
        refine hK15 _ ?_
        clear hK15
        refine awp_ret ?_
        refine finWQ_of [] ?_
        simp [go_sem, Try.f31, sameB, hgo]
  · skip
    have hxx : ¬ (b.st = d.st ∧ b.pr = d.pr ∧ b.pu = d.pu) := fun h => hbd (Bk.ext_all h)
    cases h1 : decide (b.st = d.st) <;> cases h2 : decide (b.pr = d.pr) <;> cases h3 : decide (b.pu = d.pu)
    all_goals first | (exfalso; simp at h1 h2 h3; exact hxx ⟨h1, h2, h3⟩) | clear hxx
    all_goals
      refine awp_region ?_
      iterate 28
        refine opsK_cons fun J hJ => ?_
        simp [go_sem, h1, h2, h3]
        refine hJ _ _ _ ?_
        clear hJ J
      refine opsK_nil ?_
      refine hK3 _ ?_
      clear hK3
      refine awp_condT rfl ?_
      refine awp_seq fun K5 hK5 => ?_
      refine awp_region ?_
      iterate 1
        refine opsK_cons fun J hJ => ?_
        simp [go_sem]
        refine hJ _ _ _ ?_
        clear hJ J
      refine opsK_nil ?_
      refine hK5 _ ?_
      clear hK5
      refine awp_ret ?_
      refine finWQ_of [] ?_
      simp [go_sem, Try.f31, sameB, hbd]

end Go.Proofs.Ytebflegkdfhoaaa.AE
