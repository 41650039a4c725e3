/-
  Law 15: the laws' contracts. Conditions: none; every contract names its own.
-/
import Derived.Test.YtebflegkdfhoaaaAl15
namespace Go.Proofs.Ytebflegkdfhoaaa.AE
open Go Go.Proofs Go.RowKit
set_option linter.unusedVariables false
set_option linter.unusedSimpArgs false
set_option maxRecDepth 100000
set_option maxHeartbeats 4000000
structure dealSameX where
  b : Bk
  os : List Ord
  os' : AV
  d : Bk
  qs : List Ord
  qs' : AV
  h_os : SlA 7 cOrd os os'
  h_qs : SlA 7 cOrd qs qs'
/-- countermand/countermandlaw15.DealSame -/
noncomputable def dealSameS : HSpec := mkH (ι := dealSameX) (fun ⟨b, os, os', d, qs, qs', h_os, h_qs⟩ => ([.agg (cBk b os'), .agg (cBk d qs')], [])) fun ⟨b, os, os', d, qs, qs', h_os, h_qs⟩ => ⟨.bool true, [], []⟩
theorem dealSameS_atG (b : Bk) (os : List Ord) (os' : AV) (d : Bk) (qs : List Ord) (qs' : AV) (h_os : SlA 7 cOrd os os') (h_qs : SlA 7 cOrd qs qs') : dealSameS [.agg (cBk b os'), .agg (cBk d qs')] [] = some (⟨.bool true, [], []⟩) :=
  mkH_at (ι := dealSameX) (A := fun ⟨b, os, os', d, qs, qs', h_os, h_qs⟩ => ([.agg (cBk b os'), .agg (cBk d qs')], [])) (R := fun ⟨b, os, os', d, qs, qs', h_os, h_qs⟩ => ⟨.bool true, [], []⟩) (fun i j h => by obtain ⟨b, os, os', d, qs, qs', h_os, h_qs⟩ := i; obtain ⟨b2, os2, os'2, d2, qs2, qs'2, h_os2, h_qs2⟩ := j; simp [and_assoc, cBk_eq_iff, cId_eq_iff, cOrd_eq_iff, cChg_eq_iff, cEff_eq_iff, cKey_eq_iff, cReq_eq_iff, cV_eq_iff, cOp_eq_iff, cOc_eq_iff] at h; obtain ⟨rfl, rfl, rfl, rfl⟩ := h; obtain rfl := SlA.inj (fun x y h => cOrd_inj h) h_os h_os2; obtain rfl := SlA.inj (fun x y h => cOrd_inj h) h_qs h_qs2; rfl) ⟨b, os, os', d, qs, qs', h_os, h_qs⟩
theorem dealSameS_at (b : Bk) (os : List Ord) (d : Bk) (qs : List Ord) : dealSameS [.agg (cBk b (.sl 7 (rows cOrd os))), .agg (cBk d (.sl 7 (rows cOrd qs)))] [] = some (⟨.bool true, [], []⟩) := dealSameS_atG b os _ d qs _ .sl .sl

theorem dealSame_ok : HSound Try.prog 8 dealSameS := by
  refine sound_ofE (fn := Try.f8) rfl rfl (by kernel_rfl) fun args bx hr hS => ?_
  obtain ⟨⟨b, os, os', d, qs, qs', h_os, h_qs⟩, rfl, rfl, rfl⟩ := mkH_of hS
  clear hS
  refine ⟨_, (EnvOK.consV (g := 25) (by kernel_rfl) alive15_ok (EnvOK.consV (g := 26) (by kernel_rfl) few15_ok (EnvOK.consV (g := 32) (by kernel_rfl) new_ok (EnvOK.consV (g := 30) (by kernel_rfl) find_ok (EnvOK.consV (g := 33) (by kernel_rfl) in_ok (EnvOK.consV (g := 34) (by kernel_rfl) held_ok (EnvOK.consV (g := 35) (by kernel_rfl) count_ok (EnvOK.consV (g := 36) (by kernel_rfl) same_ok (EnvOK.consV (g := 27) (by kernel_rfl) put_ok (EnvOK.consV (g := 28) (by kernel_rfl) putRf_ok (EnvOK.consV (g := 29) (by kernel_rfl) findRf_ok (EnvOK.consV (g := 31) (by kernel_rfl) plBook_ok (EnvOK.nil _))))))))))))), by simp [Try.f8], by simp [go_sem], fun w Mx pin => ?_⟩
  simp only [hB_at, lab_nil, lab_cons, hOf_nil, hOf_cons]
  refine awp_weak (s' := ⟨ofL [(0, .agg (cBk b (.sl 7 (rows cOrd os)))), (1, .agg (cBk d (.sl 7 (rows cOrd qs))))], hOf []⟩) ?_ ?_
  · cases h_os <;> cases h_qs <;> exact weak_of [] (by simp [go_sem]) (by simp [go_sem]) (by simp [go_sem])
  clear h_os h_qs
  have e1 : (os.take 40).length ≤ 100000 := by simp; omega
  have e2 : (qs.take 40).length ≤ 100000 := by simp; omega
  refine awp_seq fun K1 hK1 => ?_
  refine awp_region ?_
  iterate 3
    refine opsK_cons fun J hJ => ?_
    simp [go_sem]
    refine hJ _ _ _ ?_
    clear hJ J
  refine opsK_nil ?_
  refine hK1 _ ?_
  clear hK1
  refine awp_seq fun K2 hK2 => ?_
  refine awp_seq fun K3 hK3 => ?_
  refine awp_region ?_
  iterate 2
    refine opsK_cons fun J hJ => ?_
    simp [go_sem, alive15S_at]
    refine hJ _ _ _ ?_
    clear hJ J
  refine opsK_nil ?_
  refine hK3 _ ?_
  clear hK3
  refine awp_condF rfl ?_
  refine awp_skip ?_
  refine hK2 _ ?_
  clear hK2
  refine awp_seq fun K6 hK6 => ?_
  refine awp_draw ?_
  iterate 6
    refine opsK_cons fun J hJ => ?_
    simp [go_sem, few15S_at]
    refine hJ _ _ _ ?_
    clear hJ J
  refine opsK_nil ?_
  refine ⟨rfl, ?_⟩
  refine hK6 _ ?_
  clear hK6
  refine awp_seq fun K7 hK7 => ?_
  refine awp_draw ?_
  iterate 13
    refine opsK_cons fun J hJ => ?_
    simp [go_sem, sameS_at b (os.take 40) d (qs.take 40) e1, plBookS_at b (os.take 40) d (qs.take 40) e1, sameS_at b (os.take 40) b (os.take 40) e1, show sameB b (os.take 40) b (os.take 40) = true by simp [sameB]]
    refine hJ _ _ _ ?_
    clear hJ J
  refine opsK_nil ?_
  refine ⟨rfl, ?_⟩
  refine hK7 _ ?_
  clear hK7
  refine awp_ret ?_
  refine finWQ_of [] ?_
  simp [go_sem, Try.f8]

theorem pl0 : plBookS [.agg (cBk zBk (.sl 7 [])), .agg (cBk zBk .nils)] [] = some ⟨.bool true, [], []⟩ := plBookS_atG zBk [] (.sl 7 []) zBk [] .nils (.sl (L := [])) .nil (by simp)
theorem place_cases2 (os : List Ord) (a : Id) : placeL os a = -1 ∧ findL os a = none ∧ True ∧ True ∨ ∃ (k : Nat) (x : Ord), placeL os a = (k : Int) ∧ findL os a = some x ∧ k < os.length ∧ os[k]? = some x := by
  rcases place_cases os a with ⟨h1, h2⟩ | ⟨k, x, h1, h2, h3, _, h5⟩
  · exact .inl ⟨h1, h2, trivial, trivial⟩
  · exact .inr ⟨k, x, h2, h5, h1, h3⟩
theorem find_set {α : Type} (p : α → Bool) (o : α) (ho : p o = true) : ∀ (l : List α) (i k : Nat), idxL p l i = ((i + k : Nat) : Int) → (l.set k o).find? p = some o
  | [], i, k, h => by simp [idxL] at h; omega
  | x :: r, i, k, h => by
    by_cases hx : p x = true
    · simp [idxL, hx] at h
      obtain rfl : k = 0 := by omega
      simp [ho]
    · simp only [idxL, hx] at h
      cases k with
      | zero =>
        rcases idxL_ge p r (i + 1) with ⟨h1, _⟩ | ⟨k, y, h1, h2, _⟩
        · rw [if_neg (by simp), h1] at h; omega
        · rw [if_neg (by simp), h2] at h; omega
      | succ k =>
        rw [if_neg (by simp)] at h
        simp only [List.set_cons_succ, List.find?_cons, hx]
        exact find_set p o ho r (i + 1) k (by rw [h]; congr 1; omega)
theorem find_put (os : List Ord) (o : Ord) : findL (putL os o) o.id = some o := by
  have ho : isOrd o.id o = true := by simp [isOrd]
  unfold putL
  rcases place_cases2 os o.id with ⟨h1, h2, _⟩ | ⟨k, x, h1, h2, h3, h4⟩
  · rw [if_neg (by omega)]
    have hn : ∀ x ∈ os, ¬ isOrd o.id x = true := by simpa [findL] using h2
    have ht : (os.take (atG o.id os 0 0)).find? (isOrd o.id) = none := by
      rw [List.find?_eq_none]
      exact fun x hx => hn x (List.mem_of_mem_take hx)
    simp only [findL, List.find?_append, ht, List.find?_cons, ho, Option.none_or, Option.some_or]
  · rw [if_pos (by omega), h1]
    exact find_set _ o ho os 0 k (by rw [show idxL (isOrd o.id) os 0 = placeL os o.id from rfl, h1]; simp)

structure dealPutsX where
  b : Bk
  os : List Ord
  os' : AV
  x : Ord
  a : Id
  h_os : SlA 7 cOrd os os'
/-- countermand/countermandlaw15.DealPuts -/
noncomputable def dealPutsS : HSpec := mkH (ι := dealPutsX) (fun ⟨b, os, os', x, a, h_os⟩ => ([.agg (cBk b os'), .agg (cOrd x), .agg (cId a)], [])) fun ⟨b, os, os', x, a, h_os⟩ => ⟨.bool true, [], []⟩
theorem dealPutsS_atG (b : Bk) (os : List Ord) (os' : AV) (x : Ord) (a : Id) (h_os : SlA 7 cOrd os os') : dealPutsS [.agg (cBk b os'), .agg (cOrd x), .agg (cId a)] [] = some (⟨.bool true, [], []⟩) :=
  mkH_at (ι := dealPutsX) (A := fun ⟨b, os, os', x, a, h_os⟩ => ([.agg (cBk b os'), .agg (cOrd x), .agg (cId a)], [])) (R := fun ⟨b, os, os', x, a, h_os⟩ => ⟨.bool true, [], []⟩) (fun i j h => by obtain ⟨b, os, os', x, a, h_os⟩ := i; obtain ⟨b2, os2, os'2, x2, a2, h_os2⟩ := j; simp [and_assoc, cBk_eq_iff, cId_eq_iff, cOrd_eq_iff, cChg_eq_iff, cEff_eq_iff, cKey_eq_iff, cReq_eq_iff, cV_eq_iff, cOp_eq_iff, cOc_eq_iff] at h; obtain ⟨rfl, rfl, rfl, rfl⟩ := h; obtain rfl := SlA.inj (fun x y h => cOrd_inj h) h_os h_os2; rfl) ⟨b, os, os', x, a, h_os⟩
theorem dealPutsS_at (b : Bk) (os : List Ord) (x : Ord) (a : Id) : dealPutsS [.agg (cBk b (.sl 7 (rows cOrd os))), .agg (cOrd x), .agg (cId a)] [] = some (⟨.bool true, [], []⟩) := dealPutsS_atG b os _ x a .sl
theorem dealPutsS_atN (b : Bk) (x : Ord) (a : Id) : dealPutsS [.agg (cBk b .nils), .agg (cOrd x), .agg (cId a)] [] = some ((fun (os : List Ord) => ⟨.bool true, [], []⟩) []) := dealPutsS_atG b [] _ x a .nil

theorem dealPuts_ok : HSound Try.prog 6 dealPutsS := by
  refine sound_ofE (fn := Try.f6) rfl rfl (by kernel_rfl) fun args bx hr hS => ?_
  obtain ⟨⟨b, os, os', x, a, h_os⟩, rfl, rfl, rfl⟩ := mkH_of hS
  clear hS
  refine ⟨_, (EnvOK.consV (g := 25) (by kernel_rfl) alive15_ok (EnvOK.consV (g := 26) (by kernel_rfl) few15_ok (EnvOK.consV (g := 32) (by kernel_rfl) new_ok (EnvOK.consV (g := 30) (by kernel_rfl) find_ok (EnvOK.consV (g := 33) (by kernel_rfl) in_ok (EnvOK.consV (g := 34) (by kernel_rfl) held_ok (EnvOK.consV (g := 35) (by kernel_rfl) count_ok (EnvOK.consV (g := 36) (by kernel_rfl) same_ok (EnvOK.consV (g := 27) (by kernel_rfl) put_ok (EnvOK.consV (g := 28) (by kernel_rfl) putRf_ok (EnvOK.consV (g := 29) (by kernel_rfl) findRf_ok (EnvOK.consV (g := 31) (by kernel_rfl) plBook_ok (EnvOK.nil _))))))))))))), by simp [Try.f6], by simp [go_sem], fun w Mx pin => ?_⟩
  simp only [hB_at, lab_nil, lab_cons, hOf_nil, hOf_cons]
  refine awp_weak (s' := ⟨ofL [(0, .agg (cBk b (.sl 7 (rows cOrd os)))), (1, .agg (cOrd x)), (2, .agg (cId a))], hOf []⟩) ?_ ?_
  · cases h_os <;> exact weak_of [] (by simp [go_sem]) (by simp [go_sem]) (by simp [go_sem])
  clear h_os
  obtain ⟨L, hLd⟩ : ∃ L, L = os.take 40 := ⟨_, rfl⟩
  have e40 : L.length ≤ 40 := by rw [hLd]; simp; omega
  have e5 : L.length ≤ 50000 := by omega
  have e6 : L.length ≤ 100000 := by omega
  have e7 : (putL L x).length ≤ 100000 := by have := putL_len L x; omega
  have m1 : L.length * 56 ≤ 140737488355328 := by omega
  have m2 : L.length ≤ maxLen := by simp only [maxLen]; omega
  have s1 : sameB b (putL L x) b (putL L x) = true := by simp [sameB]
  have s2 : sameB b L b L = true := by simp [sameB]
  have s3 : sameB zBk [] zBk [] = true := by decide
  have hfp := find_put L x
  refine awp_seq fun K1 hK1 => ?_
  refine awp_region ?_
  iterate 4
    refine opsK_cons fun J hJ => ?_
    simp [go_sem]
    refine hJ _ _ _ ?_
    clear hJ J
  refine opsK_nil ?_
  refine hK1 _ ?_
  clear hK1
  refine awp_seq fun K2 hK2 => ?_
  refine awp_seq fun K3 hK3 => ?_
  refine awp_region ?_
  iterate 2
    refine opsK_cons fun J hJ => ?_
    simp [go_sem, alive15S_at]
    refine hJ _ _ _ ?_
    clear hJ J
  refine opsK_nil ?_
  refine hK3 _ ?_
  clear hK3
  refine awp_condF rfl ?_
  refine awp_skip ?_
  refine hK2 _ ?_
  clear hK2
  refine awp_seq fun K6 hK6 => ?_
  refine awp_region ?_
  iterate 3
    refine opsK_cons fun J hJ => ?_
    simp [go_sem, few15S_at, ← hLd]
    refine hJ _ _ _ ?_
    clear hJ J
  refine opsK_nil ?_
  refine hK6 _ ?_
  clear hK6
  refine awp_seq fun K7 hK7 => ?_
  refine awp_region ?_
  iterate 3
    refine opsK_cons fun J hJ => ?_
    simp [go_sem]
    refine hJ _ _ _ ?_
    clear hJ J
  refine opsK_nil ?_
  refine hK7 _ ?_
  clear hK7
  refine awp_seq fun K8 hK8 => ?_
  refine awp_region ?_
  iterate 6
    refine opsK_cons fun J hJ => ?_
    simp [go_sem, m1, m2]
    refine hJ _ _ _ ?_
    clear hJ J
  refine opsK_nil ?_
  refine hK8 _ ?_
  clear hK8
  refine awp_seq fun K9 hK9 => ?_
  refine awp_region ?_
  iterate 5
    refine opsK_cons fun J hJ => ?_
    simp [go_sem, putS_at b L x e5]
    refine hJ _ _ _ ?_
    clear hJ J
  refine opsK_nil ?_
  refine hK9 _ ?_
  clear hK9
  refine awp_seq fun K10 hK10 => ?_
  refine awp_region ?_
  iterate 5
    refine opsK_cons fun J hJ => ?_
    simp [go_sem, putRfS_at b L x e5]
    refine hJ _ _ _ ?_
    clear hJ J
  refine opsK_nil ?_
  refine hK10 _ ?_
  clear hK10
  refine awp_seq fun K11 hK11 => ?_
  refine awp_region ?_
  iterate 4
    refine opsK_cons fun J hJ => ?_
    simp [go_sem, findRfS_at b L a e6]
    refine hJ _ _ _ ?_
    clear hJ J
  refine opsK_nil ?_
  refine hK11 _ ?_
  clear hK11
  refine awp_seq fun K12 hK12 => ?_
  rcases place_cases2 L a with ⟨hk, hf, hk0, hx⟩ | ⟨k, y, hk, hf, hk0, hx⟩
  all_goals
    refine awp_region ?_
    iterate 9
      refine opsK_cons fun J hJ => ?_
      simp [go_sem, findS_at b L a e6, findR, hf]
      refine hJ _ _ _ ?_
      clear hJ J
    refine opsK_nil ?_
    refine hK12 _ ?_
    clear hK12
    refine awp_seq fun K13 hK13 => ?_
    refine awp_seq fun K14 hK14 => ?_
    refine awp_draw ?_
    iterate 37
      refine opsK_cons fun J hJ => ?_
      simp [go_sem, hf, hk, hx, plBookS_at b (putL L x) b (putL L x) e7, plBookS_at b L b L e6, s1, s2]
      refine hJ _ _ _ ?_
      clear hJ J
    refine opsK_nil ?_
    refine ⟨rfl, ?_⟩
    refine hK14 _ ?_
    clear hK14
    refine awp_condF rfl ?_
    refine awp_skip ?_
    refine hK13 _ ?_
    clear hK13
    refine awp_seq fun K17 hK17 => ?_
    refine awp_region ?_
    iterate 10
      refine opsK_cons fun J hJ => ?_
      simp [go_sem, findS_at b (putL L x) x.id e7, findR, hfp]
      refine hJ _ _ _ ?_
      clear hJ J
    refine opsK_nil ?_
    refine hK17 _ ?_
    clear hK17
    refine awp_seq fun K18 hK18 => ?_
    rcases (show 0 ≤ placeL L x.id ∨ ¬ 0 ≤ placeL L x.id ∧ 32 ≤ L.length ∨ ¬ 0 ≤ placeL L x.id ∧ ¬ 32 ≤ L.length by omega) with hp | ⟨hp, hp2⟩ | ⟨hp, hp2⟩
    · skip
      have hn : newR b L x = _ := newR_e (e := 9) (by simp [newC, hp]) (by decide)
      refine awp_region ?_
      iterate 9
        refine opsK_cons fun J hJ => ?_
        simp [go_sem, newS_at b L x e5, hn]
        refine hJ _ _ _ ?_
        clear hJ J
      refine opsK_nil ?_
      refine hK18 _ ?_
      clear hK18
      refine awp_seq fun K19 hK19 => ?_
      refine awp_seq fun K20 hK20 => ?_
      refine awp_region ?_
      iterate 5
        refine opsK_cons fun J hJ => ?_
        simp [go_sem, findRfS_at b L x.id e6, hp]
        refine hJ _ _ _ ?_
        clear hJ J
      refine opsK_nil ?_
      refine hK20 _ ?_
      clear hK20
      refine awp_condT rfl ?_
      refine awp_seq fun K22 hK22 => ?_
      refine awp_region ?_
      iterate 16
        refine opsK_cons fun J hJ => ?_
        simp [go_sem, pl0]
        refine hJ _ _ _ ?_
        clear hJ J
      refine opsK_nil ?_
      refine hK22 _ ?_
      clear hK22
      refine awp_ret ?_
      refine finWQ_of [] ?_
      simp [go_sem, Try.f6]
    · skip
      have hn : newR b L x = _ := newR_e (e := 3) (by simp [newC, hp, hp2]) (by decide)
      have hp3 : (32 : Int) ≤ L.length := by omega
      refine awp_region ?_
      iterate 9
        refine opsK_cons fun J hJ => ?_
        simp [go_sem, newS_at b L x e5, hn]
        refine hJ _ _ _ ?_
        clear hJ J
      refine opsK_nil ?_
      refine hK18 _ ?_
      clear hK18
      refine awp_seq fun K19 hK19 => ?_
      refine awp_seq fun K20 hK20 => ?_
      refine awp_region ?_
      iterate 5
        refine opsK_cons fun J hJ => ?_
        simp [go_sem, findRfS_at b L x.id e6, hp]
        refine hJ _ _ _ ?_
        clear hJ J
      refine opsK_nil ?_
      refine hK20 _ ?_
      clear hK20
      refine awp_condF rfl ?_
      refine awp_skip ?_
      refine hK19 _ ?_
      clear hK19
      refine awp_seq fun K23 hK23 => ?_
      refine awp_seq fun K24 hK24 => ?_
      refine awp_region ?_
      iterate 4
        refine opsK_cons fun J hJ => ?_
        simp [go_sem, hp2, hp3]
        refine hJ _ _ _ ?_
        clear hJ J
      refine opsK_nil ?_
      refine hK24 _ ?_
      clear hK24
      refine awp_condT rfl ?_
      refine awp_seq fun K26 hK26 => ?_
      refine awp_region ?_
      iterate 16
        refine opsK_cons fun J hJ => ?_
        simp [go_sem, pl0]
        refine hJ _ _ _ ?_
        clear hJ J
      refine opsK_nil ?_
      refine hK26 _ ?_
      clear hK26
      refine awp_ret ?_
      refine finWQ_of [] ?_
      simp [go_sem, Try.f6]
    · skip
      have hn : newR b L x = _ := newR_0 (by simp [newC, hp, hp2])
      have hp3 : ¬ (32 : Int) ≤ L.length := by omega
      refine awp_region ?_
      iterate 9
        refine opsK_cons fun J hJ => ?_
        simp [go_sem, newS_at b L x e5, hn]
        refine hJ _ _ _ ?_
        clear hJ J
      refine opsK_nil ?_
      refine hK18 _ ?_
      clear hK18
      refine awp_seq fun K19 hK19 => ?_
      refine awp_seq fun K20 hK20 => ?_
      refine awp_region ?_
      iterate 5
        refine opsK_cons fun J hJ => ?_
        simp [go_sem, findRfS_at b L x.id e6, hp]
        refine hJ _ _ _ ?_
        clear hJ J
      refine opsK_nil ?_
      refine hK20 _ ?_
      clear hK20
      refine awp_condF rfl ?_
      refine awp_skip ?_
      refine hK19 _ ?_
      clear hK19
      refine awp_seq fun K23 hK23 => ?_
      refine awp_seq fun K24 hK24 => ?_
      refine awp_region ?_
      iterate 4
        refine opsK_cons fun J hJ => ?_
        simp [go_sem, hp2, hp3]
        refine hJ _ _ _ ?_
        clear hJ J
      refine opsK_nil ?_
      refine hK24 _ ?_
      clear hK24
      refine awp_condF rfl ?_
      refine awp_skip ?_
      refine hK23 _ ?_
      clear hK23
      refine awp_seq fun K27 hK27 => ?_
      refine awp_region ?_
      iterate 16
        refine opsK_cons fun J hJ => ?_
        simp [go_sem, plBookS_at b (putL L x) b (putL L x) e7, s1]
        refine hJ _ _ _ ?_
        clear hJ J
      refine opsK_nil ?_
      refine hK27 _ ?_
      clear hK27
      refine awp_ret ?_
      refine finWQ_of [] ?_
      simp [go_sem, Try.f6]

end Go.Proofs.Ytebflegkdfhoaaa.AE
