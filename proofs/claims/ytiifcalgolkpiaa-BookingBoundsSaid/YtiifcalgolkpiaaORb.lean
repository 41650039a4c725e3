/-
  What a change leaves as it was: bounds, orders, what is held. Conditions: the bookings are in their bounds.
-/
import Derived.Test.YtiifcalgolkpiaaORs6
set_option linter.constructorNameAsVariable false
namespace Go.Proofs.Ytiifcalgolkpiaa.AE
open Go Go.Proofs Go.RowKit
set_option linter.unusedVariables false
set_option linter.unusedSimpArgs false
set_option maxRecDepth 100000
set_option maxHeartbeats 4000000

theorem doW_cases {b d : Bk} {os ps : List Ord} {c : Chg} {l : List Eff} {r : Id} (hF : FairB b) (hO : FairO os) (h : doW b os c = .ok (d, ps, l, r)) :
    (¬ (4 ≤ c.kind ∧ c.kind ≤ 8) ∧ simOK b os c ∧ simR b os c = (d, ps, l)) ∨ ((4 ≤ c.kind ∧ c.kind ≤ 8) ∧ ∃ x, findL os c.ref = some x ∧ aboutR b c x = 0 ∧ ordR b os c x = (d, ps, l) ∧ (c.kind = 4 → 1 ≤ c.n ∧ c.n ≤ 1000)) := by
  have q := doR_eq hF hO (c := c)
  rw [h] at q
  obtain ⟨hc, ht⟩ := outR_ok q
  by_cases k : 4 ≤ c.kind ∧ c.kind ≤ 8
  · rw [if_pos k] at ht
    obtain ⟨⟨x, hf, hx⟩, hn⟩ := ord_ready hc k
    have he : ordAt os c = x := by unfold ordAt; rw [hf]; rfl
    rw [he] at ht
    exact .inr ⟨k, x, hf, hx, ht, hn⟩
  · rw [if_neg k] at ht
    exact .inl ⟨k, sim_ready hc k, ht⟩
theorem putL_form (os : List Ord) (x : Ord) : (∃ (k : Nat) (y : Ord), k < os.length ∧ placeL os x.id = (k : Int) ∧ os[k]? = some y ∧ findL os x.id = some y ∧ y.id = x.id ∧ putL os x = os.set k x) ∨
    (findL os x.id = none ∧ placeL os x.id = -1 ∧ ∃ i, putL os x = os.take i ++ [x] ++ os.drop i) := by
  rcases place_cases os x.id with ⟨h1, h2⟩ | ⟨k, y, h1, h2, h3, h4, h5⟩
  · exact .inr ⟨h2, h1, _, by unfold putL; rw [if_neg (by omega)]⟩
  · refine .inl ⟨k, y, h1, h2, h3, h5, by simpa [isOrd] using h4, ?_⟩
    unfold putL
    rw [if_pos (by omega), h2]
    rfl
theorem putL_mem {os : List Ord} {x o : Ord} (h : o ∈ putL os x) : o ∈ os ∨ o = x := by
  rcases putL_form os x with ⟨k, y, _, _, _, _, _, he⟩ | ⟨_, _, i, he⟩
  · rw [he] at h; exact List.mem_or_eq_of_mem_set h
  · rw [he] at h
    simp only [List.mem_append, List.mem_singleton] at h
    rcases h with (h | h) | h
    · exact .inl (List.mem_of_mem_take h)
    · exact .inr h
    · exact .inl (List.mem_of_mem_drop h)
theorem fairO_put {os : List Ord} {x : Ord} (h : FairO os) (hx : FairO [x]) : FairO (putL os x) := fun o ho => by
  rcases putL_mem ho with h1 | rfl
  · exact h o h1
  · exact hx o (by simp)
/-- Each order's Id is there still. -/
theorem putL_stay {os : List Ord} (x : Ord) {o : Ord} (h : o ∈ os) : ∃ z ∈ putL os x, z.id = o.id := by
  rcases putL_form os x with ⟨k, y, hk, _, hy, _, hid, he⟩ | ⟨_, _, i, he⟩
  · rw [he]
    obtain ⟨j, hj⟩ := List.mem_iff_getElem?.1 h
    by_cases hjk : j = k
    · subst hjk
      rw [hy] at hj
      cases hj
      exact ⟨x, List.mem_iff_getElem?.2 ⟨j, by rw [List.getElem?_set_self hk]⟩, hid.symm⟩
    · exact ⟨o, List.mem_iff_getElem?.2 ⟨j, by rw [List.getElem?_set_ne (Ne.symm hjk)]; exact hj⟩, rfl⟩
  · rw [he]
    refine ⟨o, ?_, rfl⟩
    rw [← List.take_append_drop i os] at h
    simp only [List.mem_append, List.mem_singleton] at h ⊢
    exact h.elim (fun h => .inl (.inl h)) .inr
theorem placeL_of_mem {os : List Ord} {o z : Ord} (h : z ∈ os) (hid : z.id = o.id) : 0 ≤ placeL os o.id := by
  rw [placeL, idxL_ge0, List.any_eq_true]
  exact ⟨z, h, by simp [isOrd, hid]⟩
theorem find_set_ne {α : Type} {p : α → Bool} {x y : α} (hx : p x = false) (hy : p y = false) : ∀ (l : List α) (k : Nat), l[k]? = some y → (l.set k x).find? p = l.find? p
  | [], k, h => by simp at h
  | z :: r, 0, h => by
    simp at h
    subst h
    simp [List.find?, hx, hy]
  | z :: r, k + 1, h => by
    simp only [List.set_cons_succ, List.find?_cons]
    rw [find_set_ne hx hy r k (by simpa using h)]
/-- Others are found as before. -/
theorem find_put_ne (os : List Ord) {x : Ord} {a : Id} (h : a ≠ x.id) : findL (putL os x) a = findL os a := by
  have hx : isOrd a x = false := by simp [isOrd]; exact fun e => h e.symm
  rcases putL_form os x with ⟨k, y, hk, _, hy, _, hid, he⟩ | ⟨_, _, i, he⟩
  · rw [he]
    exact find_set_ne hx (by simp [isOrd, hid]; exact fun e => h e.symm) os k hy
  · rw [he]
    conv => rhs; rw [findL, ← List.take_append_drop i os]
    simp only [findL, List.find?_append, List.find?_cons, hx, List.find?_nil, Option.or_none]
/-- The Id that a change is about. -/
def aboutC (c : Chg) : Id := if c.kind = 3 then c.id else c.ref
theorem doW_put {b d : Bk} {os ps : List Ord} {c : Chg} {l : List Eff} {r : Id} (hF : FairB b) (hO : FairO os) (h : doW b os c = .ok (d, ps, l, r)) :
    ps = os ∨ ∃ x, ps = putL os x ∧ x.id = aboutC c ∧ FairO [x] ∧ ((c.kind = 3 ∧ placeL os x.id < 0 ∧ os.length < 32) ∨ 0 ≤ placeL os x.id) := by
  rcases doW_cases hF hO h with ⟨k, hs, ht⟩ | ⟨k, x, hf, ha, ht, hn⟩
  · rcases hs with ⟨k1, _⟩ | ⟨k1, _⟩ | ⟨k1, _⟩ | ⟨k1, q1, q2, q3, q4, q5, q6⟩
    · have e : simR b os c = _ := if_pos k1
      rw [e] at ht; cases ht; exact .inl rfl
    · have e : simR b os c = _ := (if_neg (by omega)).trans (if_pos k1)
      rw [e] at ht; cases ht; exact .inl rfl
    · have e : simR b os c = _ := (if_neg (by omega)).trans ((if_neg (by omega)).trans (if_pos k1))
      rw [e] at ht; cases ht; exact .inl rfl
    · have e : simR b os c = _ := (if_neg (by omega)).trans ((if_neg (by omega)).trans (if_neg (by omega)))
      rw [e] at ht; cases ht
      obtain ⟨i7, _⟩ := itemR_rng (b := b) (c := c) q1 q3
      refine .inr ⟨_, rfl, (if_pos k1).symm, fun o ho => ?_, .inl ⟨k1, q5, q6⟩⟩
      rw [List.mem_singleton.1 ho]
      simp only
      omega
  · obtain ⟨hid, hm⟩ := find_id hf
    have hx := hO x hm
    have hab : aboutC c = c.ref := if_neg (by omega)
    have hp : 0 ≤ placeL os x.id := placeL_of_mem hm rfl
    obtain ⟨⟨a0, a1⟩, ⟨a2, a3⟩, ⟨a4, a5⟩, ⟨a6, a7⟩, a8, a9⟩ := hx
    obtain ⟨_, _, f3, f4, _, _⟩ := hF x.item.toNat (by omega)
    obtain ⟨m1, m2⟩ := mul_rng a4 a5 f3 f4
    have fin : ∀ (y : Ord), y.id = x.id → FairO [y] → ps = putL os y → ps = os ∨ ∃ x, ps = putL os x ∧ x.id = aboutC c ∧ FairO [x] ∧ ((c.kind = 3 ∧ placeL os x.id < 0 ∧ os.length < 32) ∨ 0 ≤ placeL os x.id) :=
      fun y h1 h2 h3 => .inr ⟨y, h3, by rw [h1, hid, hab], h2, .inr (by rw [h1]; exact hp)⟩
    have one : ∀ {y : Ord}, ((0 ≤ y.buyer ∧ y.buyer ≤ 7) ∧ (0 ≤ y.item ∧ y.item ≤ 7) ∧ (1 ≤ y.qty ∧ y.qty ≤ 1000) ∧ (0 ≤ y.cost ∧ y.cost ≤ 1099511627776) ∧ 1 ≤ y.state ∧ y.state ≤ 5) → FairO [y] := fun h o ho => by rw [List.mem_singleton.1 ho]; exact h
    rcases (show c.kind = 4 ∨ c.kind = 5 ∨ c.kind = 6 ∨ c.kind = 7 ∨ c.kind = 8 by omega) with k1 | k1 | k1 | k1 | k1
    · have e : ordR b os c x = _ := if_pos k1
      obtain ⟨n1, n2⟩ := hn k1
      rw [e] at ht; cases ht
      exact fin (chgS (chgQ x c.n) 1) rfl (one (by simp only [chgS, chgQ]; omega)) rfl
    · have e : ordR b os c x = _ := (if_neg (by omega)).trans (if_pos k1)
      rw [e] at ht
      split at ht <;> cases ht <;> exact fin (chgS x 4) rfl (one (by simp only [chgS]; omega)) rfl
    · have e : ordR b os c x = _ := (if_neg (by omega)).trans ((if_neg (by omega)).trans (if_pos k1))
      obtain ⟨z0, z1, z2⟩ := about0_6 ha k1
      rw [e] at ht; cases ht
      exact fin (chgS (chgK x (x.qty * b.pr.at x.item.toNat)) 2) rfl (one (by simp only [chgS, chgK]; omega)) rfl
    · have e : ordR b os c x = _ := (if_neg (by omega)).trans ((if_neg (by omega)).trans ((if_neg (by omega)).trans (if_pos k1)))
      rw [e] at ht; cases ht
      exact fin (chgS x 3) rfl (one (by simp only [chgS]; omega)) rfl
    · have e : ordR b os c x = _ := (if_neg (by omega)).trans ((if_neg (by omega)).trans ((if_neg (by omega)).trans (if_neg (by omega))))
      rw [e] at ht; cases ht
      exact fin (chgS x 5) rfl (one (by simp only [chgS]; omega)) rfl
theorem fairB_st {b : Bk} {i : Nat} {v : Int} (hF : FairB b) (h : i < 8) (h0 : 0 ≤ v) (h1 : v ≤ 1099511627776) : FairB { b with st := b.st.put i v } := fun j hj => by
  have := hF j hj
  simp only [put_at _ _ _ _ h]
  split <;> omega
theorem fairB_pu {b : Bk} {i : Nat} {v : Int} (hF : FairB b) (h : i < 8) (h0 : 0 ≤ v) (h1 : v ≤ 1099511627776) : FairB { b with pu := b.pu.put i v } := fun j hj => by
  have := hF j hj
  simp only [put_at _ _ _ _ h]
  split <;> omega
theorem fairB_pr {b : Bk} {i : Nat} {v : Int} (hF : FairB b) (h : i < 8) (h0 : 0 ≤ v) (h1 : v ≤ 1073741824) : FairB { b with pr := b.pr.put i v } := fun j hj => by
  have := hF j hj
  simp only [put_at _ _ _ _ h]
  split <;> omega
/-- What is held by orders of an item. -/
def hq (i : Int) (o : Ord) : Int := if o.item = i ∧ o.state ≤ 2 then o.qty else 0
def heldQ (i : Int) : List Ord → Int
  | [] => 0
  | o :: r => hq i o + heldQ i r
theorem heldQ_append (i : Int) : ∀ (l m : List Ord), heldQ i (l ++ m) = heldQ i l + heldQ i m
  | [], m => by simp [heldQ]
  | o :: r, m => by simp only [List.cons_append, heldQ, heldQ_append i r m]; omega
theorem heldQ_set (i : Int) (x y : Ord) : ∀ (l : List Ord) (k : Nat), l[k]? = some y → heldQ i (l.set k x) = heldQ i l - hq i y + hq i x
  | [], k, h => by simp at h
  | z :: r, 0, h => by
    simp at h
    subst h
    simp only [List.set_cons_zero, heldQ]
    omega
  | z :: r, k + 1, h => by
    simp only [List.set_cons_succ, heldQ, heldQ_set i x y r k (by simpa using h)]
    omega
theorem heldQ_rng (i : Int) : ∀ {l : List Ord}, FairO l → 0 ≤ heldQ i l ∧ heldQ i l ≤ 1000 * l.length
  | [], h => by simp [heldQ]
  | o :: r, h => by
    have := heldQ_rng i (l := r) fun x hx => h x (by simp [hx])
    have ho := h o (by simp)
    simp only [heldQ, hq, List.length_cons]
    split <;> omega
theorem heldQ_put (i : Int) (os : List Ord) (x : Ord) : heldQ i (putL os x) = heldQ i os + hq i x - (match findL os x.id with | some y => hq i y | none => 0) := by
  rcases putL_form os x with ⟨k, y, _, _, hy, hf, _, he⟩ | ⟨hf, _, j, he⟩
  · rw [he, hf, heldQ_set i x y os k hy]
    simp only
    omega
  · rw [he, hf]
    conv => rhs; rw [← List.take_append_drop j os]
    simp only [heldQ_append, heldQ]
    omega
theorem heldQ_old {i : Int} {os : List Ord} {x y : Ord} (hf : findL os y.id = some x) : heldQ i (putL os y) = heldQ i os + hq i y - hq i x := by rw [heldQ_put, hf]
theorem hq_le {i : Int} {o : Ord} (h : o.state ≤ 2) : hq i o = if o.item = i then o.qty else 0 := by
  unfold hq
  by_cases h1 : o.item = i
  · rw [if_pos ⟨h1, h⟩, if_pos h1]
  · rw [if_neg (fun h2 => h1 h2.1), if_neg h1]
theorem hq_gt {i : Int} {o : Ord} (h : 2 < o.state) : hq i o = 0 := by
  unfold hq
  rw [if_neg (fun h2 => absurd h2.2 (by omega))]
/-- What is in stock, and held. -/
def heldW (b : Bk) (os : List Ord) (i : Nat) : Int := b.st.at i + heldQ i os
theorem doW_keep {b d : Bk} {os ps : List Ord} {c : Chg} {l : List Eff} {r : Id} (hF : FairB b) (hO : FairO os) (h : doW b os c = .ok (d, ps, l, r)) :
    FairB d ∧ ∃ t v : Int, (0 ≤ t ∧ t ≤ 7) ∧ (∀ i : Nat, i < 8 → heldW d ps i - heldW b os i = if (i : Int) = t then v else 0) ∧
      (v = 0 ∨ (c.kind = 1 ∧ t = c.a ∧ v = c.n) ∨ (c.kind = 7 ∧ v ≤ 0 ∧ l.length = 4 ∧ ∃ e, l[0]? = some e ∧ v = -e.n)) := by
  rcases doW_cases hF hO h with ⟨k, hs, ht⟩ | ⟨k, x, hf, ha, ht, hn⟩
  · rcases hs with ⟨k1, q1, q2, q3⟩ | ⟨k1, q1, q2, q3⟩ | ⟨k1, q1, q2⟩ | ⟨k1, q1, q2, q3, q4, q5, q6⟩
    · have e : simR b os c = _ := if_pos k1
      rw [e] at ht; cases ht
      have f := hF c.a.toNat (by omega)
      refine ⟨fairB_st hF (by omega) (by omega) (by omega), c.a, c.n, q1, fun i hi => ?_, .inr (.inl ⟨k1, rfl, rfl⟩)⟩
      simp only [heldW, put_at _ _ _ _ (show c.a.toNat < 8 by omega)]
      by_cases hi2 : (i : Int) = c.a
      · obtain rfl : i = c.a.toNat := by omega
        rw [if_pos rfl, if_pos hi2]; omega
      · rw [if_neg (by omega), if_neg hi2]; omega
    · have e : simR b os c = _ := (if_neg (by omega)).trans (if_pos k1)
      rw [e] at ht; cases ht
      have f := hF c.a.toNat (by omega)
      exact ⟨fairB_pu hF (by omega) (by omega) (by omega), 0, 0, by omega, fun i hi => by simp only [heldW]; split <;> omega, .inl rfl⟩
    · have e : simR b os c = _ := (if_neg (by omega)).trans ((if_neg (by omega)).trans (if_pos k1))
      rw [e] at ht; cases ht
      exact ⟨fairB_pr hF (by omega) (by omega) (by omega), 0, 0, by omega, fun i hi => by simp only [heldW]; split <;> omega, .inl rfl⟩
    · have e : simR b os c = _ := (if_neg (by omega)).trans ((if_neg (by omega)).trans (if_neg (by omega)))
      rw [e] at ht; cases ht
      obtain ⟨i7, hle⟩ := itemR_rng (b := b) (c := c) q1 q3
      have f := hF (itemR b c).toNat (by omega)
      have hfn : findL os c.id = none := by
        rcases place_cases os c.id with ⟨_, h2⟩ | ⟨k, y, _, h2, _⟩
        · exact h2
        · omega
      refine ⟨fairB_st hF (by omega) (by omega) (by omega), 0, 0, by omega, fun i hi => ?_, .inl rfl⟩
      simp only [heldW, put_at _ _ _ _ (show (itemR b c).toNat < 8 by omega), heldQ_put, hfn, hq]
      by_cases hi2 : (i : Int) = itemR b c
      · obtain rfl : i = (itemR b c).toNat := by omega
        rw [if_pos rfl, if_pos ⟨by omega, by omega⟩]; split <;> omega
      · rw [if_neg (by omega), if_neg (by omega)]; split <;> omega
  · obtain ⟨hid, hm⟩ := find_id hf
    obtain ⟨⟨a0, a1⟩, ⟨a2, a3⟩, ⟨a4, a5⟩, ⟨a6, a7⟩, a8, a9⟩ := hO x hm
    obtain ⟨f1, f2, f3, f4, _, _⟩ := hF x.item.toNat (by omega)
    obtain ⟨_, _, _, _, f5, f6⟩ := hF x.buyer.toNat (by omega)
    obtain ⟨m1, m2⟩ := mul_rng a4 a5 f3 f4
    have hfx : findL os x.id = some x := by rw [hid]; exact hf
    have hold : ∀ (i : Int) (y : Ord), y.id = x.id → heldQ i (putL os y) = heldQ i os + hq i y - hq i x := fun i y hy => heldQ_old (by rw [hy]; exact hfx)
    rcases (show c.kind = 4 ∨ c.kind = 5 ∨ c.kind = 6 ∨ c.kind = 7 ∨ c.kind = 8 by omega) with k1 | k1 | k1 | k1 | k1
    · have e : ordR b os c x = _ := if_pos k1
      obtain ⟨n1, n2⟩ := hn k1
      obtain ⟨s1, z1, z2⟩ := about0_4 ha k1
      rw [e] at ht; cases ht
      refine ⟨fairB_st hF (by omega) (by omega) (by omega), 0, 0, by omega, fun i hi => ?_, .inl rfl⟩
      have e1 : hq (i : Int) (chgS (chgQ x c.n) 1) = if x.item = (i : Int) then c.n else 0 := hq_le (o := chgS (chgQ x c.n) 1) (show (1 : Int) ≤ 2 by decide)
      have e2 : hq (i : Int) x = if x.item = (i : Int) then x.qty else 0 := hq_le (by omega)
      simp only [heldW, put_at _ _ _ _ (show x.item.toNat < 8 by omega)]
      rw [hold _ (chgS (chgQ x c.n) 1) rfl, e1, e2]
      by_cases hi2 : x.item = (i : Int)
      · obtain rfl : i = x.item.toNat := by omega
        rw [if_pos rfl, if_pos hi2, if_pos hi2]; split <;> omega
      · rw [if_neg (by omega), if_neg hi2, if_neg hi2]; split <;> omega
    · have e : ordR b os c x = _ := (if_neg (by omega)).trans (if_pos k1)
      obtain ⟨s1, z1, z2⟩ := about0_5 ha k1
      rw [e] at ht
      have hh : ∀ i : Nat, i < 8 → (b.st.put x.item.toNat (b.st.at x.item.toNat + x.qty)).at i + heldQ i (putL os (chgS x 4)) - (b.st.at i + heldQ i os) = if (i : Int) = 0 then 0 else 0 := fun i hi => by
        have e1 : hq (i : Int) (chgS x 4) = 0 := hq_gt (o := chgS x 4) (show (2 : Int) < 4 by decide)
        have e2 : hq (i : Int) x = if x.item = (i : Int) then x.qty else 0 := hq_le (by omega)
        simp only [put_at _ _ _ _ (show x.item.toNat < 8 by omega)]
        rw [hold _ (chgS x 4) rfl, e1, e2]
        by_cases hi2 : x.item = (i : Int)
        · obtain rfl : i = x.item.toNat := by omega
          rw [if_pos rfl, if_pos hi2]; split <;> omega
        · rw [if_neg (by omega), if_neg hi2]; split <;> omega
      by_cases s2 : x.state = 2
      · rw [if_pos s2] at ht; cases ht
        have h3 : ¬ 1099511627776 < b.pu.at x.buyer.toNat + x.cost := fun h => z2 ⟨s2, h⟩
        exact ⟨fairB_pu (b := { b with st := b.st.put x.item.toNat (b.st.at x.item.toNat + x.qty) }) (fairB_st hF (by omega) (by omega) (by omega)) (by omega) (by omega) (by omega), 0, 0, by omega, fun i hi => hh i hi, .inl rfl⟩
      · rw [if_neg s2] at ht; cases ht
        exact ⟨fairB_st hF (by omega) (by omega) (by omega), 0, 0, by omega, fun i hi => hh i hi, .inl rfl⟩
    · have e : ordR b os c x = _ := (if_neg (by omega)).trans ((if_neg (by omega)).trans (if_pos k1))
      obtain ⟨z0, z1, z2⟩ := about0_6 ha k1
      rw [e] at ht; cases ht
      refine ⟨fairB_pu hF (by omega) (by omega) (by omega), 0, 0, by omega, fun i hi => ?_, .inl rfl⟩
      have e1 : hq (i : Int) (chgS (chgK x (x.qty * b.pr.at x.item.toNat)) 2) = if x.item = (i : Int) then x.qty else 0 := hq_le (o := chgS (chgK x (x.qty * b.pr.at x.item.toNat)) 2) (show (2 : Int) ≤ 2 by decide)
      have e2 : hq (i : Int) x = if x.item = (i : Int) then x.qty else 0 := hq_le (by omega)
      simp only [heldW]
      rw [hold _ (chgS (chgK x (x.qty * b.pr.at x.item.toNat)) 2) rfl, e1, e2]
      by_cases hi2 : x.item = (i : Int)
      · rw [if_pos hi2]; split <;> omega
      · rw [if_neg hi2]; split <;> omega
    · have e : ordR b os c x = _ := (if_neg (by omega)).trans ((if_neg (by omega)).trans ((if_neg (by omega)).trans (if_pos k1)))
      have s1 := about0_7 ha k1
      rw [e] at ht; cases ht
      refine ⟨hF, x.item, -x.qty, by omega, fun i hi => ?_, .inr (.inr ⟨k1, by omega, rfl, _, rfl, rfl⟩)⟩
      have e1 : hq (i : Int) (chgS x 3) = 0 := hq_gt (o := chgS x 3) (show (2 : Int) < 3 by decide)
      have e2 : hq (i : Int) x = if x.item = (i : Int) then x.qty else 0 := hq_le (by omega)
      simp only [heldW]
      rw [hold _ (chgS x 3) rfl, e1, e2]
      by_cases hi2 : x.item = (i : Int)
      · rw [if_pos hi2, if_pos hi2.symm]; omega
      · rw [if_neg hi2, if_neg (fun h => hi2 h.symm)]; omega
    · have e : ordR b os c x = _ := (if_neg (by omega)).trans ((if_neg (by omega)).trans ((if_neg (by omega)).trans (if_neg (by omega))))
      obtain ⟨z0, z1⟩ := about0_8 ha k1
      rw [e] at ht; cases ht
      refine ⟨fairB_pu hF (by omega) (by omega) (by omega), 0, 0, by omega, fun i hi => ?_, .inl rfl⟩
      have e1 : hq (i : Int) (chgS x 5) = 0 := hq_gt (o := chgS x 5) (show (2 : Int) < 5 by decide)
      have e2 : hq (i : Int) x = 0 := hq_gt (by omega)
      simp only [heldW]
      rw [hold _ (chgS x 5) rfl, e1, e2]
      split <;> omega
theorem doW_fair {b d : Bk} {os ps : List Ord} {c : Chg} {l : List Eff} {r : Id} (hF : FairB b) (hO : FairO os) (h : doW b os c = .ok (d, ps, l, r)) : FairB d ∧ FairO ps := by
  refine ⟨(doW_keep hF hO h).1, ?_⟩
  rcases doW_put hF hO h with rfl | ⟨x, rfl, _, hx, _⟩
  · exact hO
  · exact fairO_put hO hx
end Go.Proofs.Ytiifcalgolkpiaa.AE
