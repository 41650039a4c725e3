/-
  Structs of numbers, and slices of such, as the plain machine tells them; shapes of contracts; arguments as they are read. Conditions: none; every lemma names its own.
-/
import Derived.Test.YtebflegkdfhoaaaAEv
import Derived.Test.YtebflegkdfhoaaaOpenB
namespace Go.Proofs.Ytebflegkdfhoaaa.AE
open Go Go.Proofs Go.RowKit
set_option linter.unusedVariables false
set_option maxRecDepth 100000
/-- Numbers as plain cells. -/
def AI (l : List Int) : List AV := l.map (.int .i64)
@[go_sem] theorem AI_len (l : List Int) : (AI l).length = l.length := by simp [AI]
@[go_sem] theorem AI_get (l : List Int) (i : Nat) : (AI l)[i]? = (l[i]?).map (.int .i64) := by simp [AI]
@[go_sem] theorem AI_light (l : List Int) : (AI l).all light = true := by simp [AI, light]
@[go_sem] theorem AI_flat (l : List Int) : (AI l).all flatC = true := by simp [AI, flatC]
@[go_sem] theorem AI_take (l : List Int) (n : Nat) : (AI l).take n = AI (l.take n) := by simp [AI, List.map_take]
@[go_sem] theorem AI_drop (l : List Int) (n : Nat) : (AI l).drop n = AI (l.drop n) := by simp [AI, List.map_drop]
@[go_sem] theorem AI_nil : AI [] = [] := rfl
@[go_sem] theorem AI_getE (l : List Int) (i : Nat) (h : i < (AI l).length) : (AI l)[i] = .int .i64 (nth l i) := by
  have h' : i < l.length := by simpa [AI] using h
  simp [AI, nth_eq h']
theorem AI_inj {l m : List Int} (h : AI l = AI m) : l = m := by
  induction l generalizing m with
  | nil => cases m with | nil => rfl | cons => simp [AI] at h
  | cons a l ih => cases m with
    | nil => simp [AI] at h
    | cons b m => simp only [AI, List.map_cons, List.cons.injEq, AV.int.injEq, true_and] at h; rw [h.1, ih h.2]
@[go_sem] theorem leC_AI (H0 Hp : Heap) (ρ : Ren) (l m : List Int) : le.leC H0 Hp ρ (AI l) (AI m) = (m = l) := by
  induction l generalizing m with
  | nil => cases m <;> simp [AI, le.leC]
  | cons a l ih => cases m with
    | nil => simp [AI, le.leC]
    | cons b m =>
      have := ih m
      simp only [AI] at this
      simp [AI, le.leC, le, this]
@[go_sem] theorem resC_AI (Hp : Heap) (l m : List Int) : res.resC Hp (AI l) (AI m) = (m = l) := by
  induction l generalizing m with
  | nil => cases m <;> simp [AI, res.resC]
  | cons a l ih => cases m with
    | nil => simp [AI, res.resC]
    | cons b m =>
      have := ih m
      simp only [AI] at this
      simp [AI, res.resC, res, this]
@[go_sem] theorem view_AI (Hp : Heap) (n : Nat) (l : List Int) : (AI l).map (view Hp n) = AI l := by
  simp only [AI, List.map_map]
  congr 1
  funext a
  cases n <;> rfl
/-- Plain cells as numbers. -/
def toI : List AV → Option (List Int)
  | [] => some []
  | .int .i64 a :: l => (toI l).map (a :: ·)
  | _ => none
@[go_sem] theorem toI_AI (l : List Int) : toI (AI l) = some l := by
  induction l with
  | nil => rfl
  | cons a l ih => show (toI (AI l)).map (a :: ·) = _; rw [ih]; rfl
theorem toI_some : ∀ {L : List AV} {l : List Int}, toI L = some l → L = AI l
  | [], l, h => by cases h; rfl
  | .int .i64 a :: L, l, h => by
    simp only [toI, Option.map_eq_some_iff] at h
    obtain ⟨m, hm, rfl⟩ := h
    simp [toI_some hm, AI]
/-- Rows of numbers. -/
def toR (k : Nat) : List (List AV) → Option (List (List Int))
  | [] => some []
  | x :: L => (toI x).bind fun a => if a.length = k then (toR k L).map (a :: ·) else none
def RI (L : List (List Int)) : List (List AV) := L.map AI
@[go_sem] theorem RI_len (L : List (List Int)) : (RI L).length = L.length := by simp [RI]
@[go_sem] theorem RI_get (L : List (List Int)) (i : Nat) : (RI L)[i]? = (L[i]?).map AI := by simp [RI]
@[go_sem] theorem RI_take (L : List (List Int)) (n : Nat) : (RI L).take n = RI (L.take n) := by simp [RI, List.map_take]
@[go_sem] theorem RI_drop (L : List (List Int)) (n : Nat) : (RI L).drop n = RI (L.drop n) := by simp [RI, List.map_drop]
theorem RI_append (L M : List (List Int)) : RI L ++ RI M = RI (L ++ M) := by simp [RI]
theorem toR_RI {k : Nat} : ∀ {L : List (List Int)}, (∀ l ∈ L, l.length = k) → toR k (RI L) = some L
  | [], _ => rfl
  | a :: L, h => by
    show (toI (AI a)).bind _ = _
    rw [toI_AI]
    simp only [Option.bind_some, if_pos (h a (by simp))]
    rw [show toR k (List.map AI L) = some L from toR_RI fun l hl => h l (by simp [hl])]
    rfl
theorem toR_some {k : Nat} : ∀ {L : List (List AV)} {R : List (List Int)}, toR k L = some R → L = RI R ∧ ∀ l ∈ R, l.length = k
  | [], R, h => by cases h; exact ⟨rfl, by simp⟩
  | x :: L, R, h => by
    simp only [toR, Option.bind_eq_some_iff] at h
    obtain ⟨a, ha, h⟩ := h
    split at h
    · rename_i hk
      simp only [Option.map_eq_some_iff] at h
      obtain ⟨M, hM, rfl⟩ := h
      obtain ⟨h1, h2⟩ := toR_some hM
      exact ⟨by rw [toI_some ha, h1]; rfl, by simp [hk]; exact h2⟩
    · cases h
theorem rep_AI {w : World} {M : Nat → Prop} {μ : Lay} {Hp : Heap} {l : List Int} {v : Value} (h : Rep w M μ Hp (.agg (AI l)) v) : v = .agg (A l) := by
  cases h with
  | agg _ cs vs f hs hv hr =>
    congr 1
    apply Array.ext_getElem?
    intro i
    by_cases hi : i < l.length
    · have h1 := (hv i (by simpa [AI] using hi)).1
      have h2 := hr i (.int .i64 l[i]) (by simp [AI, hi])
      rw [h1, get_A, List.getElem?_eq_getElem hi]
      generalize f i = y at h2
      cases h2
      rfl
    · rw [Array.getElem?_eq_none (by rw [hs]; simp [AI]; omega), get_A, List.getElem?_eq_none (by omega)]; rfl
theorem AI_rep (w : World) (M : Nat → Prop) (μ : Lay) (Hp : Heap) (l : List Int) : Rep w M μ Hp (.agg (AI l)) (.agg (A l)) := by
  refine .agg _ _ _ (fun i => .int .i64 (nth l i)) (by simp [AI, A]) (fun i hi => ⟨?_, rfl⟩) fun i c hc => ?_
  · simp only [AI_len] at hi
    rw [get_A, List.getElem?_eq_getElem hi, nth_eq hi]; rfl
  · simp only [AI_get, Option.map_eq_some_iff] at hc
    obtain ⟨z, hz, rfl⟩ := hc
    obtain ⟨hi, rfl⟩ := List.getElem?_eq_some_iff.1 hz
    rw [nth_eq hi]
    exact .int _ _ _
/-- A contract that hands back a number's struct, or a plain value, as a plain contract. -/
theorem CPost.of {w w' : World} {Mx : Nat → Prop} {r : AV} {e : Ending} {v : Value} (he : e = .returned v) (h : Adds w w') (hr : Rep w' Mx noLay noH r v) (hp : ∀ p, r ≠ .pnc p) (hf : ∀ e sz L, r ≠ .frs e sz L) : CPost w Mx r e w' := by
  refine ⟨h.below, .inr ⟨hp, v, he, ?_⟩⟩
  unfold RRep
  split
  · exact absurd rfl (hf _ _ _)
  · exact hr
/-- Two structs of numbers. -/
def two (m n : Nat) (f : List Int → List Int → AV) : Spec
  | [.agg a, .agg b] => (toI a).bind fun a => (toI b).bind fun b => if a.length = m ∧ b.length = n then some (f a b) else none
  | _ => none
theorem two_at (m n f) (a b : List Int) (ha : a.length = m) (hb : b.length = n) : two m n f [.agg (AI a), .agg (AI b)] = some (f a b) := by
  simp [two, toI_AI, ha, hb]
theorem two_of {m n : Nat} {f : List Int → List Int → AV} {args : List AV} {r : AV} (h : two m n f args = some r) : ∃ a b, args = [.agg (AI a), .agg (AI b)] ∧ a.length = m ∧ b.length = n ∧ r = f a b := by
  match args, h with
  | [.agg a, .agg b], h =>
    simp only [two, Option.bind_eq_some_iff] at h
    obtain ⟨x, hx, y, hy, h⟩ := h
    split at h
    · rename_i hk
      cases h
      exact ⟨x, y, by rw [toI_some hx, toI_some hy], hk.1, hk.2, rfl⟩
    · cases h
theorem two_sound {P : Program} {g : FuncId} {m n : Nat} {f : List Int → List Int → AV} {fv : List Int → List Int → Value} (hr : ∀ (a b : List Int) (w : World) Mx, Rep w Mx noLay noH (f a b) (fv a b)) (hp : ∀ a b p, f a b ≠ .pnc p) (hq : ∀ a b e sz L, f a b ≠ .frs e sz L)
    (h : ∀ (a b : List Int) (w : World), a.length = m → b.length = n → Calls P g #[.agg (A a), .agg (A b)] w fun e w' => e = .returned (fv a b) ∧ Adds w w') : Sound P g (two m n f) := by
  intro args r hS w Mx vals hMx hsz hv
  obtain ⟨a, b, rfl, ha, hb, rfl⟩ := two_of hS
  obtain ⟨v, u, rfl⟩ : ∃ v u, vals = #[v, u] := by
    match vals, hsz with
    | ⟨[v, u]⟩, _ => exact ⟨v, u, rfl⟩
  have h0 := rep_AI (hv 0 _ rfl)
  have h1 := rep_AI (hv 1 _ rfl)
  simp only [Array.getD_eq_getD_getElem?] at h0 h1
  simp at h0 h1
  subst h0 h1
  exact (h a b w ha hb).mono fun e w' ⟨he, hw⟩ => .of he hw (hr a b w' Mx) (hp a b) (hq a b)
theorem get_nth {l : List Int} {i : Nat} (h : i < l.length) : l[i]? = some (nth l i) := by rw [List.getElem?_eq_getElem h, nth_eq h]
theorem over_AI {l : List Int} {i : Nat} (h : i < l.length) (x : Int) : AI (l.take i) ++ .int .i64 x :: AI (l.drop (i + 1)) = AI (l.set i x) := by
  rw [List.set_eq_take_append_cons_drop, if_pos h]
  simp [AI]
/-- A slice of structs of k numbers. -/
def rowsS (k : Nat) (f : List (List Int) → AV) : Spec
  | [.sl k' L] => if k' = k then (toR k L).map f else none
  | _ => none
theorem rowsS_at {k : Nat} (f : List (List Int) → AV) {L : List (List Int)} (h : ∀ l ∈ L, l.length = k) : rowsS k f [.sl k (RI L)] = some (f L) := by
  simp [rowsS, toR_RI h]
theorem rowsS_of {k : Nat} {f : List (List Int) → AV} {args : List AV} {r : AV} (h : rowsS k f args = some r) : ∃ L : List (List Int), args = [.sl k (RI L)] ∧ (∀ l ∈ L, l.length = k) ∧ r = f L := by
  match args, h with
  | [.sl k' L], h =>
    simp only [rowsS] at h
    split at h
    · rename_i hk
      subst hk
      simp only [Option.map_eq_some_iff] at h
      obtain ⟨R, hR, rfl⟩ := h
      obtain ⟨h1, h2⟩ := toR_some hR
      exact ⟨R, by rw [h1], h2, rfl⟩
    · cases h
@[go_sem] theorem kd_AI (l : List Int) : (AI l).map kd = List.replicate l.length (some (.int .i64)) := by
  induction l with
  | nil => rfl
  | cons a l ih => show some _ :: List.map kd (AI l) = _; rw [ih]; rfl
theorem eqvs_AI : ∀ (l m : List Int), l.length = m.length → eqvs (AI l) (AI m) = some (l == m)
  | [], [], _ => rfl
  | a :: l, b :: m, h => by
    show both (eqv _ _) (eqvs (AI l) (AI m)) = _
    rw [eqvs_AI l m (by simpa using h), eqv_int]
    rfl
  | [], _ :: _, h => by simp at h
  | _ :: _, [], h => by simp at h
theorem slk_rep {k : Nat} {w : World} {a : Option Addr} {L : List (List Int)} {cap : Nat} (h : SlK w.heap.size k w a L) (h1 : L.length ≤ cap) (h2 : cap ≤ maxLen) : Rep w (fun _ => False) noLay noH (.sl k (RI L)) (.slice a L.length cap) := by
  have : (RI L).length = L.length := RI_len L
  rw [← this]
  refine .sl _ _ _ _ _ (fun i j => .int .i64 (nth (el L i) j)) (by omega) h2 (fun x hx => ?_) (fun i j hi hj => ?_) fun i j cs x hi hj => ?_
  · simp only [RI, List.mem_map] at hx
    obtain ⟨l, hl, rfl⟩ := hx
    rw [AI_len]
    exact (h.1 l hl).1
  · obtain ⟨b, off, q1, q2, q3⟩ := h.cell (i := i) (by omega)
    exact ⟨b, off, q1, fun hf => hf, by rw [← Nat.add_assoc]; exact q3 j hj, rfl⟩
  · simp only [RI_get, Option.map_eq_some_iff] at hi
    obtain ⟨l, hl, rfl⟩ := hi
    obtain ⟨hi, rfl⟩ := List.getElem?_eq_some_iff.1 hl
    simp only [AI_get, Option.map_eq_some_iff] at hj
    obtain ⟨z, hz, rfl⟩ := hj
    obtain ⟨hj, rfl⟩ := List.getElem?_eq_some_iff.1 hz
    rw [el_eq hi, nth_eq hj]
    exact .int _ _ _
theorem true_post {w w' : World} {e : Ending} (h : CPost w (fun _ => False) (.bool true) e w') : e = .returned (.bool true) ∧ Below w.heap.size w w' := by
  obtain ⟨hb, ⟨p, x, h, _⟩ | ⟨_, v, rfl, hr⟩⟩ := h
  · cases h
  · have hr : Rep w' (fun _ => False) noLay noH (.bool true) v := hr
    cases hr
    exact ⟨rfl, hb⟩
end Go.Proofs.Ytebflegkdfhoaaa.AE
