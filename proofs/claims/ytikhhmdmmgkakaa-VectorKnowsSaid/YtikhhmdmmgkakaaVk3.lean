/-
  The law VectorKnows, by the plain machine: it answers true. Conditions: none; every contract names its own.
-/
import Derived.Test.YtikhhmdmmgkakaaVk2
namespace Go.Proofs.Ytikhhmdmmgkakaa.AE
open Go Go.Proofs Go.RowKit
set_option linter.unusedVariables false
set_option maxRecDepth 100000
@[go_sem] theorem kd_AI (l : List Int) : (AI l).map kd = List.replicate l.length (some (.int .i64)) := by
  induction l with
  | nil => rfl
  | cons a l ih => show some _ :: List.map kd (AI l) = _; rw [ih]; rfl
theorem eqvs_AI : ∀ (l m : List Int), l.length = m.length → eqvs (AI l) (AI m) = some (l == m)
  | [], [], _ => rfl
  | a :: l, b :: m, h => by
    show both (eqv _ _) (eqvs (AI l) (AI m)) = _
    rw [eqvs_AI l m (by simpa using h), eqv_int]
    rfl
  | [], _ :: _, h => by simp at h
  | _ :: _, [], h => by simp at h
theorem of_len (L : List (List Int)) : (Ytikhhmdmmgkakaa.ofL L).length = 4 := by rw [Ytikhhmdmmgkakaa.ofL, len_fold]; rfl
theorem le_step (v c : List Int) (j : Nat) : nth v j ≤ nth (ofStep v c) j := by
  unfold ofStep
  split
  · by_cases h : (nth c 0).toNat < v.length
    · rw [nth_set h]
      split
      · rename_i e; subst e; unfold Ytikhhmdmmgkakaa.mx; split <;> omega
      · exact Int.le_refl _
    · rw [List.set_eq_of_length_le (by omega)]; exact Int.le_refl _
  · exact Int.le_refl _
theorem le_fold (L : List (List Int)) : ∀ (v : List Int) (j : Nat), nth v j ≤ nth (L.foldl ofStep v) j := by
  induction L with
  | nil => intro v j; exact Int.le_refl _
  | cons c L ih => intro v j; exact Int.le_trans (le_step v c j) (ih _ j)
theorem in_fold (L : List (List Int)) : ∀ (v : List Int), v.length = 4 → ∀ c ∈ L, 0 ≤ nth c 0 → nth c 0 < 4 → nth c 1 ≤ nth (L.foldl ofStep v) (nth c 0).toNat := by
  induction L with
  | nil => intro v _ c hc; simp at hc
  | cons d L ih =>
    intro v hv c hc h0 h1
    rcases List.mem_cons.1 hc with rfl | hc
    · refine Int.le_trans ?_ (le_fold L _ _)
      rw [ofStep, if_pos ⟨h0, h1⟩, nth_set (by omega), if_pos rfl]
      unfold Ytikhhmdmmgkakaa.mx
      split <;> omega
    · exact ih _ (by rw [len_ofStep, hv]) c hc h0 h1
theorem none_lacks (L : List (List Int)) (h9 : ∀ l ∈ L, l.length = 9) (c : List Int) (hc : c ∈ lackL (Ytikhhmdmmgkakaa.ofL L) L) : nth c 0 < 0 ∨ (0 ≤ nth c 0 ∧ ¬ nth c 0 < 4) ∨ (0 ≤ nth c 0 ∧ nth c 0 < 4 ∧ ¬ 1 ≤ nth c 1) := by
  rw [lackL, List.mem_filter] at hc
  obtain ⟨h1, h2⟩ := hc
  have hl := h9 c h1
  by_cases h0 : 0 ≤ nth c 0
  · by_cases h4 : nth c 0 < 4
    · have h3 := in_fold L z4 rfl c h1 h0 h4
      have e0 : nth (c.take 2) 0 = nth c 0 := by simp [nth]
      have e1 : nth (c.take 2) 1 = nth c 1 := by simp [nth]
      refine .inr (.inr ⟨h0, h4, fun h => ?_⟩)
      have : hasB (Ytikhhmdmmgkakaa.ofL L) (c.take 2) = true := by
        unfold hasB
        rw [e0, e1]
        exact decide_eq_true ⟨h0, h4, h, h3⟩
      rw [this] at h2
      simp at h2
    · exact .inr (.inl ⟨h0, h4⟩)
  · exact .inl (by omega)
theorem mx_le (a b : Int) (h : b ≤ a) : Ytikhhmdmmgkakaa.mx a b = a := by unfold Ytikhhmdmmgkakaa.mx; split <;> omega
theorem nth_ext {l m : List Int} (h : l.length = m.length) (hn : ∀ j, j < l.length → nth l j = nth m j) : l = m := by
  apply List.ext_getElem h
  intro i h1 h2
  have := hn i h1
  rwa [nth_eq h1, nth_eq h2] at this
theorem nth_ofStep (v c : List Int) (hv : v.length = 4) (j : Nat) (hj : j < 4) : nth (ofStep v c) j = if nth c 0 = j then Ytikhhmdmmgkakaa.mx (nth v j) (nth c 1) else nth v j := by
  unfold ofStep
  by_cases h : 0 ≤ nth c 0 ∧ nth c 0 < 4
  · rw [if_pos h, nth_set (by omega)]
    by_cases e : nth c 0 = j
    · rw [if_pos (by omega), if_pos e, e]; rfl
    · rw [if_neg (by omega), if_neg e]
  · rw [if_neg h, if_neg (by omega)]
/-- The greatest that a list tells, at one place. -/
def top (L : List (List Int)) (j : Nat) (x : Int) : Int := L.foldl (fun x c => if nth c 0 = j then Ytikhhmdmmgkakaa.mx x (nth c 1) else x) x
theorem top_cons (c : List Int) (L : List (List Int)) (j : Nat) (x : Int) : top (c :: L) j x = top L j (if nth c 0 = j then Ytikhhmdmmgkakaa.mx x (nth c 1) else x) := rfl
theorem nth_fold (L : List (List Int)) (j : Nat) (hj : j < 4) : ∀ v : List Int, v.length = 4 → nth (L.foldl ofStep v) j = top L j (nth v j) := by
  induction L with
  | nil => intro v _; rfl
  | cons c L ih =>
    intro v hv
    show nth (L.foldl ofStep (ofStep v c)) j = top L j _
    rw [ih _ (by rw [len_ofStep, hv]), nth_ofStep v c hv j hj]
theorem mx_assoc (a b c : Int) : Ytikhhmdmmgkakaa.mx (Ytikhhmdmmgkakaa.mx a b) c = Ytikhhmdmmgkakaa.mx a (Ytikhhmdmmgkakaa.mx b c) := by
  unfold Ytikhhmdmmgkakaa.mx
  repeat' split
  all_goals omega
theorem top_mx (L : List (List Int)) (j : Nat) : ∀ a b : Int, Ytikhhmdmmgkakaa.mx a (top L j b) = top L j (Ytikhhmdmmgkakaa.mx a b) := by
  induction L with
  | nil => intro a b; rfl
  | cons c L ih =>
    intro a b
    rw [top_cons, top_cons, ih]
    split
    · rw [mx_assoc]
    · rfl
theorem top_lack (v : List Int) (hv : v.length = 4) (j : Nat) (hj : j < 4) : ∀ (M : List (List Int)) (x : Int), 0 ≤ x → nth v j ≤ x → (∀ c ∈ M, c.length = 9) → top (lackL v M) j x = top M j x := by
  intro M
  induction M with
  | nil => intro x _ _ _; rfl
  | cons c M ih =>
    intro x h0 hx h9
    have hc := h9 c (by simp)
    have ht : ∀ c ∈ M, c.length = 9 := fun c h => h9 c (by simp [h])
    have e0 : nth (c.take 2) 0 = nth c 0 := by simp [nth]
    have e1 : nth (c.take 2) 1 = nth c 1 := by simp [nth]
    have hm : ∀ y : Int, x ≤ Ytikhhmdmmgkakaa.mx x y := by intro y; unfold Ytikhhmdmmgkakaa.mx; split <;> omega
    by_cases hh : hasB v (c.take 2) = true
    · have : lackL v (c :: M) = lackL v M := by simp [lackL, hh]
      rw [this]
      show _ = top M j (if nth c 0 = j then Ytikhhmdmmgkakaa.mx x (nth c 1) else x)
      rw [ih x h0 hx ht]
      unfold hasB at hh
      rw [e0, e1] at hh
      have hh := of_decide_eq_true hh
      split
      · rename_i e
        rw [mx_le]
        have : (nth c 0).toNat = j := by omega
        rw [this] at hh
        omega
      · rfl
    · have : lackL v (c :: M) = c :: lackL v M := by simp [lackL, hh]
      rw [this]
      rw [top_cons, top_cons]
      have := hm (nth c 1)
      split
      · exact ih _ (by omega) (by omega) ht
      · exact ih _ h0 hx ht
theorem knows (L M : List (List Int)) (h9 : ∀ c ∈ M, c.length = 9) : joinL (Ytikhhmdmmgkakaa.ofL L) (Ytikhhmdmmgkakaa.ofL (lackL (Ytikhhmdmmgkakaa.ofL L) M)) = Ytikhhmdmmgkakaa.ofL (L ++ M) := by
  have hL := of_len L
  refine nth_ext (by rw [of_len, joinL]; exact len_joinTo _ _ 4) fun j hj => ?_
  have hj : j < 4 := by rw [joinL, len_joinTo] at hj; exact hj
  rw [joinL, nth_joinTo _ _ 4 j hj, if_pos hj]
  have h0 : (0 : Int) ≤ nth (Ytikhhmdmmgkakaa.ofL L) j := by
    have := le_fold L z4 j
    have hz : nth z4 j = 0 := by
      match j, hj with
      | 0, _ => rfl
      | 1, _ => rfl
      | 2, _ => rfl
      | 3, _ => rfl
    rw [hz] at this
    exact this
  have hz : nth z4 j = 0 := by
    match j, hj with
    | 0, _ => rfl
    | 1, _ => rfl
    | 2, _ => rfl
    | 3, _ => rfl
  have e1 : nth (Ytikhhmdmmgkakaa.ofL (lackL (Ytikhhmdmmgkakaa.ofL L) M)) j = top (lackL (Ytikhhmdmmgkakaa.ofL L) M) j 0 := by
    rw [← hz]; exact nth_fold _ j hj z4 rfl
  rw [e1, top_mx, mx_le _ _ h0, top_lack _ hL j hj M _ h0 (Int.le_refl _) h9]
  unfold Ytikhhmdmmgkakaa.ofL
  rw [List.foldl_append, nth_fold M j hj _ (by rw [len_fold]; rfl)]
def knowsS : Spec
  | [.sl k L, .sl k' M] => if k = 9 ∧ k' = 9 then (toR 9 L).bind fun _ => (toR 9 M).map fun _ => .bool true else none
  | _ => none
theorem knowsS_of {args : List AV} {r : AV} (h : knowsS args = some r) : ∃ (L M : List (List Int)), args = [.sl 9 (RI L), .sl 9 (RI M)] ∧ (∀ l ∈ L, l.length = 9) ∧ (∀ l ∈ M, l.length = 9) ∧ r = .bool true := by
  match args, h with
  | [.sl k L, .sl k' M], h =>
    simp only [knowsS] at h
    split at h
    · rename_i hk
      simp only [Option.bind_eq_some_iff, Option.map_eq_some_iff] at h
      obtain ⟨R, hR, T, hT, rfl⟩ := h
      obtain ⟨h1, h2⟩ := toR_some hR
      obtain ⟨h3, h4⟩ := toR_some hT
      exact ⟨R, T, by rw [h1, h3, hk.1, hk.2], h2, h4, rfl⟩
    · cases h
theorem knowsS_at {L M : List (List Int)} (h1 : ∀ l ∈ L, l.length = 9) (h2 : ∀ l ∈ M, l.length = 9) : knowsS [.sl 9 (RI L), .sl 9 (RI M)] = some (.bool true) := by
  simp [knowsS, toR_RI h1, toR_RI h2]
def knI (v : List Int) (A B W : List (List Int)) (i : {k : Nat // k ≤ W.length}) : St := ⟨AE.ofL [(5, .ref (0, 80) 0), (6, .own (0, 368) (A ++ B).length), (7, .sl 9 (RI (lackL v B))), (8, .sl 9 (RI W)), (9, .int .i64 i.1)], hOf [((0, 80), .obj (AI v)), ((0, 368), .row 34 9 (RI (A ++ B)) false)]⟩
theorem f4_ok : Sound Try.prog 4 knowsS := by
  refine sound_of (fn := Try.f4) rfl rfl (by kernel_rfl) (EnvOK.cons (g := 14) (by kernel_rfl) alive_ok (EnvOK.cons (g := 15) (by kernel_rfl) join_ok (EnvOK.cons (g := 17) (by kernel_rfl) f17_ok (EnvOK.cons (g := 18) (by kernel_rfl) f18_ok (EnvOK.cons (g := 19) (by kernel_rfl) f19_ok (EnvOK.nil _)))))) fun args r hS => ?_
  match args, hS with
  | args, hS =>
    obtain ⟨L, M, rfl, l9, m9, rfl⟩ := knowsS_of hS
    refine ⟨by simp [Try.f4], fun w Mx => ?_⟩
    obtain ⟨A, hA⟩ : ∃ A, A = L.take 40 := ⟨_, rfl⟩
    obtain ⟨B, hB⟩ : ∃ B, B = M.take 40 := ⟨_, rfl⟩
    have a9 : ∀ l ∈ A, l.length = 9 := fun l h => l9 l (List.mem_of_mem_take (hA ▸ h))
    have b9 : ∀ l ∈ B, l.length = 9 := fun l h => m9 l (List.mem_of_mem_take (hB ▸ h))
    have a40 : A.length ≤ 40 := by rw [hA, List.length_take]; omega
    have b40 : B.length ≤ 40 := by rw [hB, List.length_take]; omega
    have f1 : fewS [.sl 9 (RI L)] = some (.sl 9 (RI A)) := by rw [hA]; exact rowsS_at _ l9
    have f2 : fewS [.sl 9 (RI M)] = some (.sl 9 (RI B)) := by rw [hB]; exact rowsS_at _ m9
    obtain ⟨v, hv⟩ : ∃ v, v = Ytikhhmdmmgkakaa.ofL A := ⟨_, rfl⟩
    have v4 : v.length = 4 := by rw [hv]; exact of_len A
    have f3 : ofS [.sl 9 (RI A)] = some (.agg (AI v)) := by rw [hv]; exact rowsS_at _ a9
    have f4 : lackS [.agg (AI v), .sl 9 (RI B)] = some (.sl 9 (RI (lackL v B))) := lackS_at v4 b9 (by omega)
    have f5 : lackS [.agg (AI v), .sl 9 (RI A)] = some (.sl 9 (RI (lackL v A))) := lackS_at v4 a9 (by omega)
    obtain ⟨W, hW⟩ : ∃ W, W = lackL v A := ⟨_, rfl⟩
    rw [← hW] at f5
    have hno : ∀ c ∈ W, nth c 0 < 0 ∨ (0 ≤ nth c 0 ∧ ¬ nth c 0 < 4) ∨ (0 ≤ nth c 0 ∧ nth c 0 < 4 ∧ ¬ 1 ≤ nth c 1) := by rw [hW, hv]; exact none_lacks A a9
    have w9 : ∀ l ∈ W, l.length = 9 := fun l h => a9 l (List.mem_filter.1 (show l ∈ lackL v A from hW ▸ h)).1
    have w40 : W.length ≤ 40 := by have := lack_le v A; rw [← hW] at this; omega
    have t4 : v.take 4 = v := List.take_of_length_le (by omega)
    have hk := knows A B b9
    rw [← hv] at hk
    have x9 : ∀ l ∈ lackL v B, l.length = 9 := fun l h => b9 l (List.mem_filter.1 (show l ∈ lackL v B from h)).1
    have y9 : ∀ l ∈ A ++ B, l.length = 9 := fun l h => (List.mem_append.1 h).elim (a9 l) (b9 l)
    obtain ⟨u, hu⟩ : ∃ u, u = Ytikhhmdmmgkakaa.ofL (lackL v B) := ⟨_, rfl⟩
    have f6 : ofS [.sl 9 (RI (lackL v B))] = some (.agg (AI u)) := by rw [hu]; exact rowsS_at _ x9
    have u4 : u.length = 4 := by rw [hu]; exact of_len _
    rw [← hu] at hk
    have f7 : joinS [.agg (AI v), .agg (AI u)] = some (.agg (AI (Ytikhhmdmmgkakaa.ofL (A ++ B)))) := by rw [← hk]; exact two_at 4 4 _ _ _ v4 u4
    have f8 : ofS [.sl 9 (RI (A ++ B))] = some (.agg (AI (Ytikhhmdmmgkakaa.ofL (A ++ B)))) := rowsS_at _ y9
    have e4 := of_len (A ++ B)
    have b1 : A.length * 72 ≤ 140737488355328 := by omega
    have b2 : A.length ≤ maxLen := by simp only [maxLen]; omega
    have b3 : (A.length + B.length) * 72 ≤ 140737488355328 := by omega
    have b4 : A.length + B.length ≤ maxLen := by simp only [maxLen]; omega
    refine awp_seq fun K1 hK1 => ?_
    refine awp_region ?_
    iterate 1
      refine opsK_cons fun J hJ => ?_
      simp [go_sem]
      refine hJ _ _ _ ?_
      clear hJ J
    refine opsK_nil ?_
    refine hK1 _ ?_
    clear hK1
    refine awp_seq fun K2 hK2 => ?_
    refine awp_seq fun K3 hK3 => ?_
    refine awp_region ?_
    iterate 2
      refine opsK_cons fun J hJ => ?_
      simp [go_sem]
      refine hJ _ _ _ ?_
      clear hJ J
    refine opsK_nil ?_
    refine hK3 _ ?_
    clear hK3
    refine awp_condF rfl ?_
    refine awp_skip ?_
    refine hK2 _ ?_
    clear hK2
    refine awp_seq fun K5 hK5 => ?_
    refine awp_region ?_
    iterate 6
      refine opsK_cons fun J hJ => ?_
      simp [go_sem, f1, f2]
      refine hJ _ _ _ ?_
      clear hJ J
    refine opsK_nil ?_
    refine hK5 _ ?_
    clear hK5
    refine awp_seq fun K6 hK6 => ?_
    refine awp_region ?_
    iterate 4
      refine opsK_cons fun J hJ => ?_
      simp [go_sem, f3, v4]
      refine hJ _ _ _ ?_
      clear hJ J
    refine opsK_nil ?_
    refine hK6 _ ?_
    clear hK6
    refine awp_seq fun K7 hK7 => ?_
    refine awp_region ?_
    iterate 1
      refine opsK_cons fun J hJ => ?_
      simp [go_sem]
      refine hJ _ _ _ ?_
      clear hJ J
    refine opsK_nil ?_
    refine hK7 _ ?_
    clear hK7
    refine awp_seq fun K8 hK8 => ?_
    refine awp_region ?_
    iterate 4
      refine opsK_cons fun J hJ => ?_
      simp [go_sem, b1, b2]
      refine hJ _ _ _ ?_
      clear hJ J
    refine opsK_nil ?_
    refine hK8 _ ?_
    clear hK8
    refine awp_seq fun K9 hK9 => ?_
    refine awp_region ?_
    iterate 4
      refine opsK_cons fun J hJ => ?_
      simp [go_sem, b3, b4]
      refine hJ _ _ _ ?_
      clear hJ J
    refine opsK_nil ?_
    refine hK9 _ ?_
    clear hK9
    refine awp_seq fun K10 hK10 => ?_
    refine awp_region ?_
    iterate 4
      refine opsK_cons fun J hJ => ?_
      simp [go_sem, f4, v4, t4]
      refine hJ _ _ _ ?_
      clear hJ J
    refine opsK_nil ?_
    refine hK10 _ ?_
    clear hK10
    refine awp_seq fun K11 hK11 => ?_
    refine awp_region ?_
    iterate 4
      refine opsK_cons fun J hJ => ?_
      simp [go_sem, f5, v4, t4]
      refine hJ _ _ _ ?_
      clear hJ J
    refine opsK_nil ?_
    refine hK11 _ ?_
    clear hK11
    refine awp_seq fun K12 hK12 => ?_
    refine awp_seq fun K13 hK13 => ?_
    refine awp_region ?_
    iterate 1
      refine opsK_cons fun J hJ => ?_
      simp [go_sem]
      refine hJ _ _ _ ?_
      clear hJ J
    refine opsK_nil ?_
    refine hK13 _ ?_
    clear hK13
    refine awp_block ?_
    refine awp_loop (knI v A B W) (fun i => W.length - i.1) ⟨0, by simp⟩ ?_ ?_
    · refine weak_of [((0, 80), some (0, 80)), ((0, 368), some (0, 368))] (by simp [go_sem]) ?_ ?_ <;> simp [go_sem]
      exact (RI_append A B).symm
    intro ⟨k, hk'⟩
    simp only [knI]
    refine awp_seq fun K14 hK14 => ?_
    refine awp_seq fun K15 hK15 => ?_
    refine awp_region ?_
    iterate 4
      refine opsK_cons fun J hJ => ?_
      simp [go_sem]
      refine hJ _ _ _ ?_
      clear hJ J
    refine opsK_nil ?_
    refine hK15 _ ?_
    clear hK15
    refine awp_cond (t := _) rfl (fun c16 => ?_) (fun c16 => ?_)
    · simp [go_sem] at c16
      obtain ⟨c, hc⟩ : ∃ c, W[k]? = some c := ⟨_, List.getElem?_eq_getElem (by omega)⟩
      have c9 := w9 c (List.mem_of_getElem? hc)
      have n0 := get_nth (l := c) (i := 0) (by omega)
      have n1 := get_nth (l := c) (i := 1) (by omega)
      have hcn := hno c (List.mem_of_getElem? hc)
      refine awp_skip ?_
      refine hK14 _ ?_
      clear hK14
      refine awp_seq fun K17 hK17 => ?_
      refine awp_block ?_
      refine awp_seq fun K18 hK18 => ?_
      rcases hcn with g | ⟨g, g1⟩ | ⟨g, g1, g2⟩
      · skip
        have e1 : ¬ 0 ≤ nth c 0 := by omega
        refine awp_region ?_
        iterate 25
          refine opsK_cons fun J hJ => ?_
          simp [go_sem, hc, c9, e1]
          refine hJ _ _ _ ?_
          clear hJ J
        refine opsK_nil ?_
        refine hK18 _ ?_
        clear hK18
        refine awp_condF rfl ?_
        refine awp_skip ?_
        refine hK17 _ ?_
        clear hK17
        refine awp_region ?_
        iterate 3
          refine opsK_cons fun J hJ => ?_
          simp [go_sem]
          refine hJ _ _ _ ?_
          clear hJ J
        refine opsK_nil ?_
        refine ⟨⟨k + 1, by omega⟩, ?_, by simp only []; omega⟩
        refine weak_of [((0, 80), some (0, 80)), ((0, 368), some (0, 368))] (by simp [go_sem]) ?_ ?_ <;> simp [go_sem]
        exact wrap_ok (by omega) (by omega)
      · skip
        refine awp_region ?_
        iterate 25
          refine opsK_cons fun J hJ => ?_
          simp [go_sem, hc, c9, g, g1]
          refine hJ _ _ _ ?_
          clear hJ J
        refine opsK_nil ?_
        refine hK18 _ ?_
        clear hK18
        refine awp_condF rfl ?_
        refine awp_skip ?_
        refine hK17 _ ?_
        clear hK17
        refine awp_region ?_
        iterate 3
          refine opsK_cons fun J hJ => ?_
          simp [go_sem]
          refine hJ _ _ _ ?_
          clear hJ J
        refine opsK_nil ?_
        refine ⟨⟨k + 1, by omega⟩, ?_, by simp only []; omega⟩
        refine weak_of [((0, 80), some (0, 80)), ((0, 368), some (0, 368))] (by simp [go_sem]) ?_ ?_ <;> simp [go_sem]
        exact wrap_ok (by omega) (by omega)
      · skip
        refine awp_region ?_
        iterate 25
          refine opsK_cons fun J hJ => ?_
          simp [go_sem, hc, c9, g, g1, g2]
          refine hJ _ _ _ ?_
          clear hJ J
        refine opsK_nil ?_
        refine hK18 _ ?_
        clear hK18
        refine awp_condF rfl ?_
        refine awp_skip ?_
        refine hK17 _ ?_
        clear hK17
        refine awp_region ?_
        iterate 3
          refine opsK_cons fun J hJ => ?_
          simp [go_sem]
          refine hJ _ _ _ ?_
          clear hJ J
        refine opsK_nil ?_
        refine ⟨⟨k + 1, by omega⟩, ?_, by simp only []; omega⟩
        refine weak_of [((0, 80), some (0, 80)), ((0, 368), some (0, 368))] (by simp [go_sem]) ?_ ?_ <;> simp [go_sem]
        exact wrap_ok (by omega) (by omega)
    · simp [go_sem] at c16
      have tk : (A ++ B).take (A.length + B.length) = A ++ B := List.take_of_length_le (by simp)
      have e5 := eqvs_AI (Ytikhhmdmmgkakaa.ofL (A ++ B)) _ rfl
      refine awp_exit ?_
      simp only [go_sem]
      refine hK12 _ ?_
      clear hK12
      refine awp_seq fun K22 hK22 => ?_
      refine awp_draw ?_
      iterate 8
        refine opsK_cons fun J hJ => ?_
        simp [go_sem, f6, f7, f8, v4, t4, e4, e5, tk]
        refine hJ _ _ _ ?_
        clear hJ J
      refine opsK_nil ?_
      refine ⟨rfl, ?_⟩
      refine hK22 _ ?_
      clear hK22
      refine awp_ret ?_
      simp [go_sem, Try.f4]
end Go.Proofs.Ytikhhmdmmgkakaa.AE
