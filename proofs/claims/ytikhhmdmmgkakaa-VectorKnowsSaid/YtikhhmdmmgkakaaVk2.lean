/-
  Contracts of vector.Of, vector.Lacking and few, by the plain machine. Conditions: none; every contract names its own.
-/
import Derived.Test.YtikhhmdmmgkakaaVk1
namespace Go.Proofs.Ytikhhmdmmgkakaa.AE
open Go Go.Proofs Go.RowKit
set_option linter.unusedVariables false
set_option maxRecDepth 100000
theorem get_nth {l : List Int} {i : Nat} (h : i < l.length) : l[i]? = some (nth l i) := by rw [List.getElem?_eq_getElem h, nth_eq h]
theorem over_AI {l : List Int} {i : Nat} (h : i < l.length) (x : Int) : AI (l.take i) ++ .int .i64 x :: AI (l.drop (i + 1)) = AI (l.set i x) := by
  rw [List.set_eq_take_append_cons_drop, if_pos h]
  simp [AI]
/-- A slice of structs of k numbers. -/
def rowsS (k : Nat) (f : List (List Int) → AV) : Spec
  | [.sl k' L] => if k' = k then (toR k L).map f else none
  | _ => none
theorem rowsS_at {k : Nat} (f : List (List Int) → AV) {L : List (List Int)} (h : ∀ l ∈ L, l.length = k) : rowsS k f [.sl k (RI L)] = some (f L) := by
  simp [rowsS, toR_RI h]
theorem rowsS_of {k : Nat} {f : List (List Int) → AV} {args : List AV} {r : AV} (h : rowsS k f args = some r) : ∃ L : List (List Int), args = [.sl k (RI L)] ∧ (∀ l ∈ L, l.length = k) ∧ r = f L := by
  match args, h with
  | [.sl k' L], h =>
    simp only [rowsS] at h
    split at h
    · rename_i hk
      subst hk
      simp only [Option.map_eq_some_iff] at h
      obtain ⟨R, hR, rfl⟩ := h
      obtain ⟨h1, h2⟩ := toR_some hR
      exact ⟨R, by rw [h1], h2, rfl⟩
    · cases h
def fewS : Spec := rowsS 9 fun L => .sl 9 (RI (L.take 40))
theorem f17_ok : Sound Try.prog 17 fewS := by
  refine sound_of (fn := Try.f17) rfl rfl (by kernel_rfl) (EnvOK.nil _) fun args r hS => ?_
  match args, hS with
  | args, hS =>
    obtain ⟨L, rfl, h9, rfl⟩ := rowsS_of hS
    refine ⟨by simp [Try.f17], fun w Mx => ?_⟩
    refine awp_sl (i := 0) rfl fun hm _ => ?_
    rw [RI_len] at hm
    simp only [maxLen] at hm
    refine awp_seq fun K1 hK1 => ?_
    refine awp_region ?_
    iterate 1
      refine opsK_cons fun J hJ => ?_
      simp [go_sem]
      refine hJ _ _ _ ?_
      clear hJ J
    refine opsK_nil ?_
    refine hK1 _ ?_
    clear hK1
    refine awp_seq fun K2 hK2 => ?_
    refine awp_seq fun K3 hK3 => ?_
    refine awp_region ?_
    iterate 3
      refine opsK_cons fun J hJ => ?_
      simp [go_sem]
      refine hJ _ _ _ ?_
      clear hJ J
    refine opsK_nil ?_
    refine hK3 _ ?_
    clear hK3
    refine awp_cond (t := _) rfl (fun c4 => ?_) (fun c4 => ?_)
    · simp [go_sem] at c4
      refine awp_seq fun K5 hK5 => ?_
      refine awp_region ?_
      iterate 3
        refine opsK_cons fun J hJ => ?_
        simp [go_sem, show (40 : Nat) ≤ L.length by omega]
        refine hJ _ _ _ ?_
        clear hJ J
      refine opsK_nil ?_
      refine hK5 _ ?_
      clear hK5
      refine awp_ret ?_
      simp [go_sem, Try.f17, c4]
    · simp [go_sem] at c4
      refine awp_skip ?_
      refine hK2 _ ?_
      clear hK2
      refine awp_seq fun K6 hK6 => ?_
      refine awp_region ?_
      iterate 2
        refine opsK_cons fun J hJ => ?_
        simp [go_sem]
        refine hJ _ _ _ ?_
        clear hJ J
      refine opsK_nil ?_
      refine hK6 _ ?_
      clear hK6
      refine awp_ret ?_
      simp [go_sem, Try.f17, List.take_of_length_le (show L.length ≤ 40 by omega)]
def ofS : Spec := rowsS 9 fun L => .agg (AI (Ytikhhmdmmgkakaa.ofL L))
def ofI (L : List (List Int)) (i : {k : Nat // k ≤ L.length}) : St := ⟨AE.ofL [(2, .ref (0, 32) 0), (3, .ref (0, 48) 0), (7, .sl 9 (RI L)), (8, .int .i64 L.length), (9, .int .i64 i.1)], hOf [((0, 32), .obj (AI z4)), ((0, 48), .obj (AI ((L.take i.1).foldl ofStep z4)))]⟩
theorem f18_ok : Sound Try.prog 18 ofS := by
  refine sound_of (fn := Try.f18) rfl rfl (by kernel_rfl) (EnvOK.cons (g := 46) (by kernel_rfl) there_ok (EnvOK.nil _)) fun args r hS => ?_
  match args, hS with
  | args, hS =>
    obtain ⟨L, rfl, h9, rfl⟩ := rowsS_of hS
    refine ⟨by simp [Try.f18], fun w Mx => ?_⟩
    refine awp_sl (i := 0) rfl fun hm _ => ?_
    rw [RI_len] at hm
    simp only [maxLen] at hm
    refine awp_seq fun K1 hK1 => ?_
    refine awp_region ?_
    iterate 1
      refine opsK_cons fun J hJ => ?_
      simp [go_sem]
      refine hJ _ _ _ ?_
      clear hJ J
    refine opsK_nil ?_
    refine hK1 _ ?_
    clear hK1
    refine awp_seq fun K2 hK2 => ?_
    refine awp_region ?_
    iterate 1
      refine opsK_cons fun J hJ => ?_
      simp [go_sem]
      refine hJ _ _ _ ?_
      clear hJ J
    refine opsK_nil ?_
    refine hK2 _ ?_
    clear hK2
    refine awp_seq fun K3 hK3 => ?_
    refine awp_seq fun K4 hK4 => ?_
    refine awp_region ?_
    iterate 3
      refine opsK_cons fun J hJ => ?_
      simp [go_sem]
      refine hJ _ _ _ ?_
      clear hJ J
    refine opsK_nil ?_
    refine hK4 _ ?_
    clear hK4
    refine awp_block ?_
    refine awp_loop (ofI L) (fun i => L.length - i.1) ⟨0, by simp⟩ ?_ ?_
    · refine weak_of [((0, 32), some (0, 32)), ((0, 48), some (0, 48))] (by simp [go_sem]) ?_ ?_ <;> simp [go_sem, z4, AI]
    intro ⟨k, hk⟩
    simp only [ofI]
    obtain ⟨v, hv⟩ : ∃ v, v = (L.take k).foldl ofStep z4 := ⟨_, rfl⟩
    have v4 : v.length = 4 := by rw [hv, len_fold]; rfl
    rw [← hv]
    refine awp_seq fun K5 hK5 => ?_
    refine awp_region ?_
    iterate 1
      refine opsK_cons fun J hJ => ?_
      simp [go_sem]
      refine hJ _ _ _ ?_
      clear hJ J
    refine opsK_nil ?_
    refine hK5 _ ?_
    clear hK5
    refine awp_seq fun K6 hK6 => ?_
    refine awp_cond (t := _) rfl (fun c7 => ?_) (fun c7 => ?_)
    · simp [go_sem] at c7
      obtain ⟨c, hc⟩ : ∃ c, L[k]? = some c := ⟨_, List.getElem?_eq_getElem (by omega)⟩
      have c9 := h9 c (List.mem_of_getElem? hc)
      have n0 := get_nth (l := c) (i := 0) (by omega)
      have n1 := get_nth (l := c) (i := 1) (by omega)
      have t9 : c.take 9 = c := List.take_of_length_le (by omega)
      refine awp_skip ?_
      refine hK6 _ ?_
      clear hK6
      refine awp_seq fun K8 hK8 => ?_
      refine awp_block ?_
      refine awp_seq fun K9 hK9 => ?_
      refine awp_region ?_
      iterate 4
        refine opsK_cons fun J hJ => ?_
        simp [go_sem, hc, c9, t9]
        refine hJ _ _ _ ?_
        clear hJ J
      refine opsK_nil ?_
      refine hK9 _ ?_
      clear hK9
      refine awp_seq fun K10 hK10 => ?_
      refine awp_region ?_
      iterate 4
        refine opsK_cons fun J hJ => ?_
        simp [go_sem, n0]
        refine hJ _ _ _ ?_
        clear hJ J
      refine opsK_nil ?_
      refine hK10 _ ?_
      clear hK10
      refine awp_seq fun K11 hK11 => ?_
      refine awp_region ?_
      iterate 2
        refine opsK_cons fun J hJ => ?_
        simp [go_sem]
        refine hJ _ _ _ ?_
        clear hJ J
      refine opsK_nil ?_
      refine hK11 _ ?_
      clear hK11
      refine awp_cond (t := _) rfl (fun c12 => ?_) (fun c12 => ?_)
      · simp [go_sem] at c12
        have c3 : nth c 0 ≤ 3 := by omega
        have ov := over_AI (l := v) (i := (nth c 0).toNat) (by omega)
        refine awp_draw ?_
        iterate 10
          refine opsK_cons fun J hJ => ?_
          simp [go_sem, ov, v4, c9, c12.1, c12.2, c3]
          refine hJ _ _ _ ?_
          clear hJ J
        refine opsK_nil ?_
        refine ⟨rfl, ?_⟩
        refine hK8 _ ?_
        clear hK8
        refine awp_region ?_
        iterate 2
          refine opsK_cons fun J hJ => ?_
          simp [go_sem]
          refine hJ _ _ _ ?_
          clear hJ J
        refine opsK_nil ?_
        refine ⟨⟨k + 1, by omega⟩, ?_, by simp only []; omega⟩
        refine weak_of [((0, 32), some (0, 32)), ((0, 48), some (0, 48))] (by simp [go_sem]) ?_ ?_ <;> simp [go_sem]
        · exact wrap_ok (by omega) (by omega)
        · rw [fold_snoc L k (by omega), ← hv, show el L k = c by rw [el_eq (by omega)]; exact (List.getElem?_eq_some_iff.1 hc).2]
          first | (rw [ofStep, if_pos c12]; rfl) | (rw [ofStep, if_neg (by omega)]; done)
      · simp [go_sem] at c12
        refine awp_skip ?_
        refine hK8 _ ?_
        clear hK8
        refine awp_region ?_
        iterate 2
          refine opsK_cons fun J hJ => ?_
          simp [go_sem]
          refine hJ _ _ _ ?_
          clear hJ J
        refine opsK_nil ?_
        refine ⟨⟨k + 1, by omega⟩, ?_, by simp only []; omega⟩
        refine weak_of [((0, 32), some (0, 32)), ((0, 48), some (0, 48))] (by simp [go_sem]) ?_ ?_ <;> simp [go_sem]
        · exact wrap_ok (by omega) (by omega)
        · rw [fold_snoc L k (by omega), ← hv, show el L k = c by rw [el_eq (by omega)]; exact (List.getElem?_eq_some_iff.1 hc).2]
          first | (rw [ofStep, if_pos c12]; rfl) | (rw [ofStep, if_neg (by omega)]; done)
    · simp [go_sem] at c7
      have : k = L.length := by omega
      subst this
      have t4 : v.take 4 = v := List.take_of_length_le (by omega)
      rw [List.take_length] at hv
      refine awp_exit ?_
      simp only [go_sem]
      refine hK3 _ ?_
      clear hK3
      refine awp_seq fun K13 hK13 => ?_
      refine awp_region ?_
      iterate 2
        refine opsK_cons fun J hJ => ?_
        simp [go_sem, v4, t4, z4]
        refine hJ _ _ _ ?_
        clear hJ J
      refine opsK_nil ?_
      refine hK13 _ ?_
      clear hK13
      refine awp_ret ?_
      rw [Ytikhhmdmmgkakaa.ofL, ← hv]
      simp [go_sem, Try.f18, v4, t4]
def lackS : Spec
  | [.agg v, .sl k L] => (toI v).bind fun v => if v.length = 4 ∧ k = 9 ∧ L.length ≤ 1000 then (toR 9 L).map fun R => .sl 9 (RI (lackL v R)) else none
  | _ => none
theorem lackS_of {args : List AV} {r : AV} (h : lackS args = some r) : ∃ (v : List Int) (L : List (List Int)), args = [.agg (AI v), .sl 9 (RI L)] ∧ v.length = 4 ∧ (∀ l ∈ L, l.length = 9) ∧ L.length ≤ 1000 ∧ r = .sl 9 (RI (lackL v L)) := by
  match args, h with
  | [.agg v, .sl k L], h =>
    simp only [lackS, Option.bind_eq_some_iff] at h
    obtain ⟨x, hx, h⟩ := h
    split at h
    · rename_i hk
      simp only [Option.map_eq_some_iff] at h
      obtain ⟨R, hR, rfl⟩ := h
      obtain ⟨h1, h2⟩ := toR_some hR
      exact ⟨x, R, by rw [toI_some hx, h1, hk.2.1], hk.1, h2, by rw [h1, RI_len] at hk; exact hk.2.2, rfl⟩
    · cases h
theorem lackS_at {v : List Int} {L : List (List Int)} (hv : v.length = 4) (h : ∀ l ∈ L, l.length = 9) (hm : L.length ≤ 1000) : lackS [.agg (AI v), .sl 9 (RI L)] = some (.sl 9 (RI (lackL v L))) := by
  simp [lackS, toI_AI, hv, toR_RI h, RI_len, hm]
def lackI (v : List Int) (L : List (List Int)) (i : {k : Nat // k ≤ L.length}) : St := ⟨AE.ofL [(2, .ref (0, 32) 0), (5, .own (0, 1) (lackL v (L.take i.1)).length), (8, .sl 9 (RI L)), (9, .int .i64 L.length), (10, .int .i64 i.1)], hOf [((0, 32), .obj (AI v)), ((0, 1), .row 34 9 (RI (lackL v (L.take i.1))) false)]⟩
theorem f19_ok : Sound Try.prog 19 lackS := by
  refine sound_of (fn := Try.f19) rfl rfl (by kernel_rfl) (EnvOK.cons (g := 44) (by kernel_rfl) has_ok (EnvOK.nil _)) fun args r hS => ?_
  match args, hS with
  | args, hS =>
    obtain ⟨v, L, rfl, v4, h9, hm, rfl⟩ := lackS_of hS
    refine ⟨by simp [Try.f19], fun w Mx => ?_⟩
    refine awp_seq fun K1 hK1 => ?_
    refine awp_region ?_
    iterate 2
      refine opsK_cons fun J hJ => ?_
      simp [go_sem]
      refine hJ _ _ _ ?_
      clear hJ J
    refine opsK_nil ?_
    refine hK1 _ ?_
    clear hK1
    refine awp_seq fun K2 hK2 => ?_
    refine awp_region ?_
    iterate 1
      refine opsK_cons fun J hJ => ?_
      simp [go_sem]
      refine hJ _ _ _ ?_
      clear hJ J
    refine opsK_nil ?_
    refine hK2 _ ?_
    clear hK2
    refine awp_seq fun K3 hK3 => ?_
    refine awp_seq fun K4 hK4 => ?_
    refine awp_region ?_
    iterate 3
      refine opsK_cons fun J hJ => ?_
      simp [go_sem]
      refine hJ _ _ _ ?_
      clear hJ J
    refine opsK_nil ?_
    refine hK4 _ ?_
    clear hK4
    refine awp_block ?_
    refine awp_loop (lackI v L) (fun i => L.length - i.1) ⟨0, by simp⟩ ?_ ?_
    · refine weak_of [((0, 32), some (0, 32)), ((0, 1), none)] (by simp [go_sem]) ?_ ?_ <;> simp [go_sem, lackL, RI]
    intro ⟨k, hk⟩
    simp only [lackI]
    have hle := lack_le v (L.take k)
    rw [List.length_take] at hle
    obtain ⟨o, ho⟩ : ∃ o, o = lackL v (L.take k) := ⟨_, rfl⟩
    rw [← ho] at hle ⊢
    refine awp_seq fun K5 hK5 => ?_
    refine awp_region ?_
    iterate 1
      refine opsK_cons fun J hJ => ?_
      simp [go_sem]
      refine hJ _ _ _ ?_
      clear hJ J
    refine opsK_nil ?_
    refine hK5 _ ?_
    clear hK5
    refine awp_seq fun K6 hK6 => ?_
    refine awp_cond (t := _) rfl (fun c7 => ?_) (fun c7 => ?_)
    · simp [go_sem] at c7
      obtain ⟨c, hc⟩ : ∃ c, L[k]? = some c := ⟨_, List.getElem?_eq_getElem (by omega)⟩
      have c9 := h9 c (List.mem_of_getElem? hc)
      have t9 : c.take 9 = c := List.take_of_length_le (by omega)
      have t4 : v.take 4 = v := List.take_of_length_le (by omega)
      have hs : hasS [.agg (AI v), .agg (AI (c.take 2))] = some (.bool (hasB v (c.take 2))) := two_at 4 2 _ _ _ v4 (by rw [List.length_take]; omega)
      have hsn := lack_snoc v L k (by omega)
      rw [← ho, show el L k = c by rw [el_eq (by omega)]; exact (List.getElem?_eq_some_iff.1 hc).2] at hsn
      refine awp_skip ?_
      refine hK6 _ ?_
      clear hK6
      refine awp_seq fun K8 hK8 => ?_
      refine awp_block ?_
      refine awp_seq fun K9 hK9 => ?_
      refine awp_region ?_
      iterate 4
        refine opsK_cons fun J hJ => ?_
        simp [go_sem, hc, c9, t9]
        refine hJ _ _ _ ?_
        clear hJ J
      refine opsK_nil ?_
      refine hK9 _ ?_
      clear hK9
      refine awp_seq fun K10 hK10 => ?_
      refine awp_region ?_
      iterate 5
        refine opsK_cons fun J hJ => ?_
        simp [go_sem, c9, v4, t4, hs]
        refine hJ _ _ _ ?_
        clear hJ J
      refine opsK_nil ?_
      refine hK10 _ ?_
      clear hK10
      refine awp_cond (t := _) rfl (fun c11 => ?_) (fun c11 => ?_)
      · simp [go_sem] at c11
        have b1 : (o.length + 1) * 72 ≤ 140737488355328 := by omega
        have b2 : o.length + 1 ≤ maxLen := by simp only [maxLen]; omega
        refine awp_region ?_
        iterate 5
          refine opsK_cons fun J hJ => ?_
          simp [go_sem, c9, t9, b1, b2]
          refine hJ _ _ _ ?_
          clear hJ J
        refine opsK_nil ?_
        refine hK8 _ ?_
        clear hK8
        refine awp_region ?_
        iterate 2
          refine opsK_cons fun J hJ => ?_
          simp [go_sem]
          refine hJ _ _ _ ?_
          clear hJ J
        refine opsK_nil ?_
        refine ⟨⟨k + 1, by omega⟩, ?_, by simp only []; omega⟩
        refine weak_of [((0, 32), some (0, 32)), ((0, 1), some (0, 352))] (by simp [go_sem]) ?_ ?_ <;> simp [go_sem, hsn, c11]
        · exact wrap_ok (by omega) (by omega)
        · simp [RI]
      · simp [go_sem] at c11
        refine awp_skip ?_
        refine hK8 _ ?_
        clear hK8
        refine awp_region ?_
        iterate 2
          refine opsK_cons fun J hJ => ?_
          simp [go_sem]
          refine hJ _ _ _ ?_
          clear hJ J
        refine opsK_nil ?_
        refine ⟨⟨k + 1, by omega⟩, ?_, by simp only []; omega⟩
        refine weak_of [((0, 32), some (0, 32)), ((0, 1), some (0, 1))] (by simp [go_sem]) ?_ ?_ <;> simp [go_sem, hsn, c11]
        exact wrap_ok (by omega) (by omega)
    · simp [go_sem] at c7
      have : k = L.length := by omega
      subst this
      rw [List.take_length] at ho
      refine awp_exit ?_
      simp only [go_sem]
      refine hK3 _ ?_
      clear hK3
      refine awp_seq fun K12 hK12 => ?_
      refine awp_region ?_
      iterate 2
        refine opsK_cons fun J hJ => ?_
        simp [go_sem]
        refine hJ _ _ _ ?_
        clear hJ J
      refine opsK_nil ?_
      refine hK12 _ ?_
      clear hK12
      refine awp_ret ?_
      simp [go_sem, Try.f19, ho]
end Go.Proofs.Ytikhhmdmmgkakaa.AE
