/-
 Effects and Ids: contracts. Conditions: none; every contract names its own.
-/
import Derived.Test.YtfbooejaabdkoaaORe0
set_option linter.constructorNameAsVariable false
namespace Go.Proofs.Ytfbooejaabdkoaa.AE
open Go Go.Proofs Go.RowKit
set_option linter.unusedVariables false
set_option linter.unusedSimpArgs false
set_option maxRecDepth 100000
set_option maxHeartbeats 4000000
def rvL {α : Type} (n : Nat) : Nat → List α → List α
 | 0, L => L
 | k + 1, L => match (rvL n k L)[k]?, (rvL n k L)[n - 1 - k]? with
  | some x, some y => ((rvL n k L).set k y).set (n - 1 - k) x
  | _, _ => rvL n k L
theorem rvL_len {α : Type} (n : Nat) : ∀ (k : Nat) (L : List α), (rvL n k L).length = L.length
 | 0, L => rfl
 | k + 1, L => by
  unfold rvL
  split
  · simp [rvL_len n k L]
  · exact rvL_len n k L
theorem rvL_succ {α : Type} {n k : Nat} {L : List α} {x y : α} (hx : (rvL n k L)[k]? = some x) (hy : (rvL n k L)[n - 1 - k]? = some y) : rvL n (k + 1) L = ((rvL n k L).set k y).set (n - 1 - k) x := by
 show (match (rvL n k L)[k]?, (rvL n k L)[n - 1 - k]? with
  | some x, some y => ((rvL n k L).set k y).set (n - 1 - k) x
  | _, _ => rvL n k L) = _
 rw [hx, hy]
theorem rvL_get {α : Type} {L : List α} : ∀ (k : Nat), 2 * k ≤ L.length → ∀ i, i < L.length → (rvL L.length k L)[i]? = if i < k ∨ L.length - k ≤ i then L[L.length - 1 - i]? else L[i]?
 | 0, _, i, hi => by rw [if_neg (by omega)]; rfl
 | k + 1, hk, i, hi => by
  have ih := rvL_get (L := L) k (by omega)
  obtain ⟨x, hx⟩ : ∃ x, L[k]? = some x := ⟨L[k], List.getElem?_eq_getElem (by omega)⟩
  obtain ⟨y, hy⟩ : ∃ y, L[L.length - 1 - k]? = some y := ⟨L[L.length - 1 - k], List.getElem?_eq_getElem (by omega)⟩
  have hx' : (rvL L.length k L)[k]? = some x := by rw [ih k (by omega), if_neg (by omega)]; exact hx
  have hy' : (rvL L.length k L)[L.length - 1 - k]? = some y := by rw [ih _ (by omega), if_neg (by omega)]; exact hy
  rw [rvL_succ hx' hy', List.getElem?_set, List.length_set, rvL_len, List.getElem?_set, rvL_len]
  by_cases h1 : L.length - 1 - k = i
  ·
   rw [if_pos h1, if_pos (by omega), if_pos (by omega), ← hx]
   congr 1
   omega
  ·
   rw [if_neg h1]
   by_cases h2 : k = i
   ·
    subst h2
    rw [if_pos rfl, if_pos (by omega), if_pos (by omega)]
    exact hy.symm
   ·
    rw [if_neg h2, ih i hi]
    by_cases h3 : i < k ∨ L.length - k ≤ i
    · rw [if_pos h3, if_pos (by omega)]
    · rw [if_neg h3, if_neg (by omega)]
theorem rvL_done {α : Type} {L : List α} {k : Nat} (h1 : 2 * k ≤ L.length) (h2 : L.length ≤ 2 * k + 1) : rvL L.length k L = L.reverse := by
 apply List.ext_getElem?
 intro i
 by_cases hi : i < L.length
 ·
  rw [rvL_get k h1 i hi, List.getElem?_reverse hi]
  split
  · rfl
  · congr 1; omega
 · rw [List.getElem?_eq_none (by rw [rvL_len]; omega), List.getElem?_eq_none (by simp; omega)]
structure cloneEffX where
 L : List Eff
 L' : AV
 h_L : SlA 5 cEff L L'
 hL : L.length ≤ 3000000
noncomputable def cloneEffS : HSpec := mkH (ι := cloneEffX) (fun ⟨L, L', h_L, hL⟩ => ([L'], [])) fun ⟨L, L', h_L, hL⟩ => ⟨.own (2, 0) L.length, [], [.row 50 5 (rows cEff L) false]⟩
theorem cloneEffS_atG (L : List Eff) (L' : AV) (h_L : SlA 5 cEff L L') (hL : L.length ≤ 3000000) : cloneEffS [L'] [] = some (⟨.own (2, 0) L.length, [], [.row 50 5 (rows cEff L) false]⟩) :=
 mA_ (ι := cloneEffX) (fun i j h => by obtain ⟨L, L', h_L, hL⟩ := i; obtain ⟨L2, L'2, h_L2, hL2⟩ := j; simp [and_assoc, qB_, qI_, qO_, qC_, qE_, qK_, qR_, qV_, qP_, qOc_] at h; obtain rfl := h; obtain rfl := SlA.inj (fun x y h => cEff_inj h) h_L h_L2; rfl) ⟨L, L', h_L, hL⟩
theorem cloneEffS_at (L : List Eff) (hL : L.length ≤ 3000000) : cloneEffS [(.sl 5 (rows cEff L))] [] = some (⟨.own (2, 0) L.length, [], [.row 50 5 (rows cEff L) false]⟩) := cloneEffS_atG L _ .sl hL
theorem cloneEffS_atN : cloneEffS [.nils] [] = some ((fun (L : List Eff) => ⟨.own (2, 0) L.length, [], [.row 50 5 (rows cEff L) false]⟩) []) := cloneEffS_atG [] _ .nil (by simp)
theorem cloneEff_ok : HSound Try.prog 42 cloneEffS := by
 refine sE_ (fn := Try.f42) rfl rfl (by kernel_rfl) fun args bx hr hS => ?_
 obtain ⟨⟨L, L', h_L, hL⟩, rfl, rfl, rfl⟩ := mO_ hS
 clear hS
 refine ⟨_, (eN_ _), by simp [Try.f42], by simp [go_sem], fun w Mx pin => ?_⟩
 simp only [hB_at, lab_nil, lab_cons, hOf_nil, hOf_cons]
 refine aW_ (s' := ⟨ofL [(0, (.sl 5 (rows cEff L)))], hOf []⟩) ?_ ?_
 · cases h_L <;> exact wO_ [] (by simp [go_sem]) (by simp [go_sem]) (by simp [go_sem])
 clear h_L
 refine aQ_ ?_
 iterate 1
  refine oC_ fun J hJ => ?_
  simp [go_sem]
  refine hJ _ _ _ ?_
 refine oN_ ?_
 refine aS_ fun K2 hK2 => ?_
 refine aQ_ ?_
 iterate 2
  refine oC_ fun J hJ => ?_
  simp [go_sem]
  refine hJ _ _ _ ?_
 refine oN_ ?_
 refine awp_condNil rfl (fun c4 => ?_) ?_
 ·
  rw [rows_eq_nil] at c4
  refine aQ_ ?_
  iterate 1
   refine oC_ fun J hJ => ?_
   simp [go_sem]
   refine hJ _ _ _ ?_
  refine oN_ ?_
  refine aE_ ?_
  refine fQ_ [((2, 0), none)] ?_
  simp [go_sem, Try.f42, c4]
 ·
  refine aK_ ?_
  refine hK2 _ ?_
  refine aQ_ ?_
  iterate 4
   refine oC_ fun J hJ => ?_
   simp [go_sem, show (L.length) * 40 ≤ 140737488355328 by omega, show L.length ≤ maxLen by (simp only [maxLen]; omega)]
   refine hJ _ _ _ ?_
  refine oN_ ?_
  refine aE_ ?_
  refine fQ_ [((2, 0), some (0, 16 * 7))] ?_
  simp [go_sem, Try.f42]
theorem mn_lt {n a b : Nat} : (n : Int) < mn a b ↔ n < a ∧ n < b := by unfold mn; split <;> omega
def commonI (a b : List Eff) (n : Nat) : St := ⟨ofL [(0, .sl 5 (rows cEff a)), (1, .sl 5 (rows cEff b)), (5, .int .i64 n)], hOf []⟩
theorem common_cases (a b : List Eff) (n : Nat) (hn : n ≤ commonL a b) (hst : n = commonL a b ↔ ¬ (n < a.length ∧ n < b.length ∧ a[n]? = b[n]?)) : (∃ x, n < a.length ∧ n < b.length ∧ a[n]? = some x ∧ b[n]? = some x ∧ n + 1 ≤ commonL a b) ∨ (∃ x y, n < a.length ∧ n < b.length ∧ a[n]? = some x ∧ b[n]? = some y ∧ x ≠ y ∧ commonL a b = n) ∨ (¬ (n < a.length ∧ n < b.length) ∧ commonL a b = n) := by
 by_cases h12 : n < a.length ∧ n < b.length
 ·
  obtain ⟨h1, h2⟩ := h12
  have ha : a[n]? = some a[n] := List.getElem?_eq_getElem h1
  have hb : b[n]? = some b[n] := List.getElem?_eq_getElem h2
  by_cases hxy : a[n] = b[n]
  ·
   left
   refine ⟨a[n], h1, h2, ha, by rw [hb, hxy], ?_⟩
   have : n ≠ commonL a b := fun h => hst.1 h ⟨h1, h2, by rw [ha, hb, hxy]⟩
   omega
  ·
   right; left
   refine ⟨a[n], b[n], h1, h2, ha, hb, hxy, (hst.2 fun h => hxy ?_).symm⟩
   have h3 := h.2.2
   rw [ha, hb] at h3
   exact Option.some.inj h3
 ·
  right; right
  exact ⟨h12, (hst.2 fun h => h12 ⟨h.1, h.2.1⟩).symm⟩
structure commonX where
 a : List Eff
 a' : AV
 b : List Eff
 b' : AV
 h_a : SlA 5 cEff a a'
 h_b : SlA 5 cEff b b'
 hL : a.length ≤ 3000000
noncomputable def commonS : HSpec := mkH (ι := commonX) (fun ⟨a, a', b, b', h_a, h_b, hL⟩ => ([a', b'], [])) fun ⟨a, a', b, b', h_a, h_b, hL⟩ => ⟨.int .i64 (commonL a b : Nat), [], []⟩
theorem commonS_atG (a : List Eff) (a' : AV) (b : List Eff) (b' : AV) (h_a : SlA 5 cEff a a') (h_b : SlA 5 cEff b b') (hL : a.length ≤ 3000000) : commonS [a', b'] [] = some (⟨.int .i64 (commonL a b : Nat), [], []⟩) :=
 mA_ (ι := commonX) (fun i j h => by obtain ⟨a, a', b, b', h_a, h_b, hL⟩ := i; obtain ⟨a2, a'2, b2, b'2, h_a2, h_b2, hL2⟩ := j; simp [and_assoc, qB_, qI_, qO_, qC_, qE_, qK_, qR_, qV_, qP_, qOc_] at h; obtain ⟨rfl, rfl⟩ := h; obtain rfl := SlA.inj (fun x y h => cEff_inj h) h_a h_a2; obtain rfl := SlA.inj (fun x y h => cEff_inj h) h_b h_b2; rfl) ⟨a, a', b, b', h_a, h_b, hL⟩
theorem commonS_at (a : List Eff) (b : List Eff) (hL : a.length ≤ 3000000) : commonS [(.sl 5 (rows cEff a)), (.sl 5 (rows cEff b))] [] = some (⟨.int .i64 (commonL a b : Nat), [], []⟩) := commonS_atG a _ b _ .sl .sl hL
theorem common_ok : HSound Try.prog 73 commonS := by
 refine sE_ (fn := Try.f73) rfl rfl (by kernel_rfl) fun args bx hr hS => ?_
 obtain ⟨⟨a, a', b, b', h_a, h_b, hL⟩, rfl, rfl, rfl⟩ := mO_ hS
 clear hS
 refine ⟨_, (eN_ _), by simp [Try.f73], by simp [go_sem], fun w Mx pin => ?_⟩
 simp only [hB_at, lab_nil, lab_cons, hOf_nil, hOf_cons]
 refine aW_ (s' := ⟨ofL [(0, (.sl 5 (rows cEff a))), (1, (.sl 5 (rows cEff b)))], hOf []⟩) ?_ ?_
 · cases h_a <;> cases h_b <;> exact wO_ [] (by simp [go_sem]) (by simp [go_sem]) (by simp [go_sem])
 clear h_a h_b
 refine aQ_ ?_
 iterate 1
  refine oC_ fun J hJ => ?_
  simp [go_sem]
  refine hJ _ _ _ ?_
 refine oN_ ?_
 refine aQ_ ?_
 iterate 1
  refine oC_ fun J hJ => ?_
  simp [go_sem]
  refine hJ _ _ _ ?_
 refine oN_ ?_
 refine aS_ fun K3 hK3 => ?_
 refine aB_ ?_
 refine aL_ (ι := { n : Nat // n ≤ commonL a b }) (fun q => commonI a b q.1) (fun q => commonL a b - q.1) ⟨0, Nat.zero_le _⟩ ?_ ?_
 · refine wO_ [] (by simp [go_sem]) ?_ ?_ <;> simp [go_sem]
 intro ⟨n, hn⟩
 try simp only at hn
 have hle := commonL_le a b
 have hst := commonL_stop a b n hn
 simp only [commonI]
 refine aS_ fun K4 hK4 => ?_
 refine aS_ fun K5 hK5 => ?_
 rcases (show (∃ x, n < a.length ∧ n < b.length ∧ a[n]? = some x ∧ b[n]? = some x ∧ n + 1 ≤ commonL a b) ∨ (∃ x y, n < a.length ∧ n < b.length ∧ a[n]? = some x ∧ b[n]? = some y ∧ x ≠ y ∧ commonL a b = n) ∨ (¬ (n < a.length ∧ n < b.length) ∧ commonL a b = n) from common_cases a b n hn hst) with ⟨x, h1, h2, hx, hy, hn1⟩ | ⟨x, y, h1, h2, hx, hy, hxy, hc⟩ | ⟨h12, hc⟩
 ·
  have wn : IntKind.i64.wrap ((n : Int) + 1) = ((n : Int) + 1) := wA_ (by omega)
  have hm : (n : Int) < mn a.length b.length := mn_lt.2 ⟨h1, h2⟩
  refine aD_ ?_
  iterate 18
   refine oC_ fun J hJ => ?_
   simp [go_sem, hm, h1, h2, ↓hx, ↓hy, hx, hy]
   refine hJ _ _ _ ?_
  refine oN_ ?_
  refine ⟨rfl, ?_⟩
  refine hK5 _ ?_
  refine aT_ rfl ?_
  refine aK_ ?_
  refine hK4 _ ?_
  refine aB_ ?_
  refine aR_ ?_
  iterate 3
   refine oC_ fun J hJ => ?_
   simp [go_sem, wn]
   refine hJ _ _ _ ?_
  refine oN_ ?_
  refine ⟨⟨n + 1, hn1⟩, ?_, by simp; omega⟩
  refine wO_ [] (by simp [go_sem]) ?_ ?_ <;> simp [go_sem, wn]
 ·
  have hm : (n : Int) < mn a.length b.length := mn_lt.2 ⟨h1, h2⟩
  refine aD_ ?_
  iterate 18
   refine oC_ fun J hJ => ?_
   simp [go_sem, hm, h1, h2, ↓hx, ↓hy, hx, hy, hxy]
   refine hJ _ _ _ ?_
  refine oN_ ?_
  refine ⟨rfl, ?_⟩
  refine hK5 _ ?_
  refine aF_ rfl ?_
  refine aX_ ?_
  simp only [go_sem]
  refine hK3 _ ?_
  refine aQ_ ?_
  iterate 2
   refine oC_ fun J hJ => ?_
   simp [go_sem]
   refine hJ _ _ _ ?_
  refine oN_ ?_
  refine aE_ ?_
  refine fQ_ [] ?_
  simp [go_sem, Try.f73, hc]
 ·
  have hm : ¬ (n : Int) < mn a.length b.length := fun h => h12 (mn_lt.1 h)
  refine aD_ ?_
  iterate 18
   refine oC_ fun J hJ => ?_
   simp [go_sem, hm]
   refine hJ _ _ _ ?_
  refine oN_ ?_
  refine ⟨rfl, ?_⟩
  refine hK5 _ ?_
  refine aF_ rfl ?_
  refine aX_ ?_
  simp only [go_sem]
  refine hK3 _ ?_
  refine aQ_ ?_
  iterate 2
   refine oC_ fun J hJ => ?_
   simp [go_sem]
   refine hJ _ _ _ ?_
  refine oN_ ?_
  refine aE_ ?_
  refine fQ_ [] ?_
  simp [go_sem, Try.f73, hc]
structure revEX where
 A : List Eff
 D : List Eff
 l : Nat
 n : Nat
 hl : A.length = l
 hn : D.length = n
 hL : l + n ≤ 4000000
noncomputable def revES : HSpec := mkH (ι := revEX) (fun ⟨A, D, l, n, _, _, _⟩ => ([.ows (1, 0) l n], [.row 50 5 (rows cEff (A ++ D)) false])) fun ⟨A, D, _, _, _, _, _⟩ => ⟨.tup [], [.row 50 5 (rows cEff (A ++ D.reverse)) false], []⟩
theorem revES_at (A D : List Eff) (l n : Nat) (hl : A.length = l) (hn : D.length = n) (hL : l + n ≤ 4000000) : revES [.ows (1, 0) l n] [.row 50 5 (rows cEff (A ++ D)) false] = some ⟨.tup [], [.row 50 5 (rows cEff (A ++ D.reverse)) false], []⟩ :=
 mA_ (ι := revEX) (fun i j h => by
  obtain ⟨A, D, l, n, hl, hn, hL⟩ := i; obtain ⟨A2, D2, l2, n2, hl2, hn2, hL2⟩ := j
  simp [rows_iff_Eff] at h
  obtain ⟨⟨h1, h2⟩, h3⟩ := h
  obtain ⟨rfl, rfl⟩ := List.append_inj h3 (by omega)
  rfl) ⟨A, D, l, n, hl, hn, hL⟩
def revEI (A D : List Eff) (k : Nat) (j : Int) : St := ⟨ofL [(0, .ows (1, 0) A.length D.length), (2, .int .i64 k), (3, .int .i64 j)], hOf [((1, 0), .row 50 5 (rows cEff (A ++ rvL D.length k D)) false)]⟩
theorem app_get {A R : List Eff} {k : Nat} {x : Eff} (h : R[k]? = some x) : (A ++ R)[A.length + k]? = some x := by rw [List.getElem?_append_right (by omega)]; simpa using h
theorem app_set (A R : List Eff) (k m : Nat) (x y : Eff) : ((A ++ R).set (A.length + k) y).set (A.length + m) x = A ++ (R.set k y).set m x := by
 rw [List.set_append_right _ _ (by omega), List.set_append_right _ _ (by omega)]
 simp
theorem revE_ok : HSound Try.prog 45 revES := by
 refine sE_ (fn := Try.f45) rfl rfl (by kernel_rfl) fun args bx hr hS => ?_
 obtain ⟨⟨A, D, l, n, hl, hn, hL⟩, rfl, rfl, rfl⟩ := mO_ hS
 refine ⟨_, (eN_ _), by simp [Try.f45], by simp [go_sem], fun w Mx pin => ?_⟩
 simp only [hB_at, lab_nil, lab_cons, hOf_nil, hOf_cons]
 subst hl hn
 have w0 : IntKind.i64.wrap ((D.length : Int) - 1) = (D.length : Int) - 1 := wA_ (by omega)
 refine aQ_ ?_
 iterate 5
  refine oC_ fun J hJ => ?_
  simp [go_sem, w0]
  refine hJ _ _ _ ?_
 refine oN_ ?_
 refine aB_ ?_
 refine aL_ (ι := { q : Nat × Int // q.2 = (D.length : Int) - 1 - q.1 ∧ 2 * q.1 ≤ D.length }) (fun q => revEI A D q.1.1 q.1.2) (fun q => D.length - q.1.1) ⟨(0, (D.length : Int) - 1), by simp, by simp⟩ ?_ ?_
 · refine wO_ [((1, 0), some (1, 0))] (by simp [go_sem]) ?_ ?_ <;> simp [go_sem, w0, rvL]
 intro ⟨⟨k, j⟩, hj, hk⟩
 try simp only at hj hk
 simp only [revEI]
 refine aS_ fun K2 hK2 => ?_
 refine aQ_ ?_
 iterate 3
  refine oC_ fun J hJ => ?_
  simp [go_sem]
  refine hJ _ _ _ ?_
 refine oN_ ?_
 refine aC_ (t := _) rfl (fun c4 => ?_) (fun c4 => ?_)
 ·
  simp [go_sem] at c4
  obtain ⟨m, rfl⟩ : ∃ m : Nat, j = m := ⟨j.toNat, by omega⟩
  have hmk : D.length - 1 - k = m := by omega
  have hkl : k < D.length := by omega
  have hml : m < D.length := by omega
  obtain ⟨x, hx⟩ : ∃ x, (rvL D.length k D)[k]? = some x := ⟨_, List.getElem?_eq_getElem (by rw [rvL_len]; omega)⟩
  obtain ⟨y, hy⟩ : ∃ y, (rvL D.length k D)[m]? = some y := ⟨_, List.getElem?_eq_getElem (by rw [rvL_len]; omega)⟩
  have hy' : (rvL D.length k D)[D.length - 1 - k]? = some y := by rw [hmk]; exact hy
  have gx := app_get (A := A) hx
  have gy := app_get (A := A) hy
  have w1 : IntKind.i64.wrap ((k : Int) + 1) = (k : Int) + 1 := wA_ (by omega)
  have w2 : IntKind.i64.wrap ((m : Int) - 1) = (m : Int) - 1 := wA_ (by omega)
  have lk : A.length + k < A.length + (rvL D.length k D).length := by rw [rvL_len]; omega
  have lm : A.length + m < A.length + (rvL D.length k D).length := by rw [rvL_len]; omega
  refine aK_ ?_
  refine hK2 _ ?_
  refine aS_ fun K5 hK5 => ?_
  refine aB_ ?_
  refine aD_ ?_
  iterate 16
   refine oC_ fun J hJ => ?_
   simp [go_sem, hkl, hml, ↓gx, ↓gy, gx, gy, lk, lm, rvL_len]
   refine hJ _ _ _ ?_
  refine oN_ ?_
  refine ⟨rfl, ?_⟩
  refine hK5 _ ?_
  refine aR_ ?_
  iterate 6
   refine oC_ fun J hJ => ?_
   simp [go_sem, w1, w2]
   refine hJ _ _ _ ?_
  refine oN_ ?_
  refine ⟨⟨(k + 1, (m : Int) - 1), by simp; omega, by simp; omega⟩, ?_, by simp; omega⟩
  refine wO_ [((1, 0), some (1, 0))] (by simp [go_sem]) ?_ ?_ <;> simp [go_sem, w1, w2, rvL_succ hx hy', hmk, app_set]
 ·
  simp [go_sem] at c4
  have hdone : rvL D.length k D = D.reverse := rvL_done hk (by omega)
  refine aX_ ?_
  simp only [go_sem]
  refine fQ_ [((1, 0), some (1, 0))] ?_
  simp [go_sem, Try.f45, hdone]
def isId (a x : Id) : Bool := decide (a = x)
theorem idx_mem (a : Id) : ∀ (l : List Id) (i : Nat), decide ((0 : Int) ≤ idxL (isId a) l i) = decide (a ∈ l)
 | [], i => by simp [idxL]
 | x :: r, i => by
  by_cases h : a = x
  · simp [idxL, isId, h]
  ·
   have := idx_mem a r (i + 1)
   simp only [idxL, isId, h, decide_false, Bool.false_eq_true, if_false, List.mem_cons, false_or] at this ⊢
   exact this
structure idxIdX where
 l : List Id
 l' : AV
 a : Id
 h_l : SlA 2 cId l l'
 hL : l.length ≤ 100000
noncomputable def idxIdS : HSpec := mkH (ι := idxIdX) (fun ⟨l, l', a, h_l, hL⟩ => ([l', .agg (cId a)], [])) fun ⟨l, l', a, h_l, hL⟩ => ⟨.int .i64 (idxL (isId a) l 0), [], []⟩
theorem idxIdS_atG (l : List Id) (l' : AV) (a : Id) (h_l : SlA 2 cId l l') (hL : l.length ≤ 100000) : idxIdS [l', .agg (cId a)] [] = some (⟨.int .i64 (idxL (isId a) l 0), [], []⟩) :=
 mA_ (ι := idxIdX) (fun i j h => by obtain ⟨l, l', a, h_l, hL⟩ := i; obtain ⟨l2, l'2, a2, h_l2, hL2⟩ := j; simp [and_assoc, qB_, qI_, qO_, qC_, qE_, qK_, qR_, qV_, qP_, qOc_] at h; obtain ⟨rfl, rfl⟩ := h; obtain rfl := SlA.inj (fun x y h => cId_inj h) h_l h_l2; rfl) ⟨l, l', a, h_l, hL⟩
theorem idxIdS_at (l : List Id) (a : Id) (hL : l.length ≤ 100000) : idxIdS [(.sl 2 (rows cId l)), .agg (cId a)] [] = some (⟨.int .i64 (idxL (isId a) l 0), [], []⟩) := idxIdS_atG l _ a .sl hL
def idxIdI (l : List Id) (a : Id) (pre _post : List Id) : St := ⟨ofL [(0, .sl 2 (rows cId l)), (3, .ref (0, 48) 0), (7, .int .i64 l.length), (8, .int .i64 pre.length)], hOf [((0, 48), .obj (cId a))]⟩
theorem idxId_ok : HSound Try.prog 94 idxIdS := by
 refine sE_ (fn := Try.f94) rfl rfl (by kernel_rfl) fun args bx hr hS => ?_
 obtain ⟨⟨l, l', a, h_l, hL⟩, rfl, rfl, rfl⟩ := mO_ hS
 clear hS
 refine ⟨_, (eN_ _), by simp [Try.f94], by simp [go_sem], fun w Mx pin => ?_⟩
 simp only [hB_at, lab_nil, lab_cons, hOf_nil, hOf_cons]
 refine aW_ (s' := ⟨ofL [(0, (.sl 2 (rows cId l))), (1, .agg (cId a))], hOf []⟩) ?_ ?_
 · cases h_l <;> exact wO_ [] (by simp [go_sem]) (by simp [go_sem]) (by simp [go_sem])
 clear h_l
 refine aQ_ ?_
 iterate 2
  refine oC_ fun J hJ => ?_
  simp [go_sem]
  refine hJ _ _ _ ?_
 refine oN_ ?_
 refine aS_ fun K2 hK2 => ?_
 refine aQ_ ?_
 iterate 3
  refine oC_ fun J hJ => ?_
  simp [go_sem]
  refine hJ _ _ _ ?_
 refine oN_ ?_
 refine aB_ ?_
 refine aL_ (ι := { q : List Id × List Id // q.1 ++ q.2 = l ∧ idxL (isId a) q.2 q.1.length = idxL (isId a) l 0 }) (fun q => idxIdI l a q.1.1 q.1.2) (fun q => q.1.2.length) ⟨([], l), rfl, rfl⟩ ?_ ?_
 · refine wO_ [((0, 48), some (0, 48))] (by simp [go_sem]) ?_ ?_ <;> simp [go_sem]
 intro ⟨⟨pre, post⟩, hl, hgo⟩
 simp only at hl hgo
 have hpl := lS_ hl hL
 simp only [idxIdI]
 refine aQ_ ?_
 iterate 1
  refine oC_ fun J hJ => ?_
  simp [go_sem]
  refine hJ _ _ _ ?_
 refine oN_ ?_
 refine aS_ fun K5 hK5 => ?_
 refine aC_ (t := _) rfl (fun c6 => ?_) (fun c6 => ?_)
 ·
  simp [go_sem] at c6
  obtain ⟨x, post, rfl, hx⟩ := mL_ hl c6
  refine aK_ ?_
  refine hK5 _ ?_
  refine aS_ fun K7 hK7 => ?_
  refine aB_ ?_
  refine aQ_ ?_
  iterate 2
   refine oC_ fun J hJ => ?_
   simp [go_sem]
   refine hJ _ _ _ ?_
  refine oN_ ?_
  refine aU_ ?_
  iterate 6
   refine oC_ fun J hJ => ?_
   simp [go_sem, hx]
   refine hJ _ _ _ ?_
  refine oN_ ?_
  refine ⟨rfl, ?_⟩
  refine aC_ (t := _) rfl (fun c10 => ?_) (fun c10 => ?_)
  ·
   simp [go_sem] at c10
   subst c10
   refine aQ_ ?_
   iterate 2
    refine oC_ fun J hJ => ?_
    simp [go_sem]
    refine hJ _ _ _ ?_
   refine oN_ ?_
   refine aE_ ?_
   refine fQ_ [] ?_
   simp [go_sem, Try.f94, ← hgo, idxL, isId]
  ·
   simp [go_sem] at c10
   refine aK_ ?_
   refine hK7 _ ?_
   refine aR_ ?_
   iterate 2
    refine oC_ fun J hJ => ?_
    simp [go_sem]
    refine hJ _ _ _ ?_
   refine oN_ ?_
   refine ⟨⟨(pre ++ [x], post), by simp [← hl], by rw [← hgo]; simp [idxL, isId, c10]⟩, ?_, by simp⟩
   refine wO_ [((0, 48), some (0, 48))] (by simp [go_sem]) ?_ ?_ <;> simp [go_sem, wN_ hpl]
 ·
  simp [go_sem] at c6
  obtain ⟨rfl, rfl⟩ := mN_ hl c6
  refine aX_ ?_
  simp only [go_sem]
  refine hK2 _ ?_
  refine aQ_ ?_
  iterate 1
   refine oC_ fun J hJ => ?_
   simp [go_sem]
   refine hJ _ _ _ ?_
  refine oN_ ?_
  refine aE_ ?_
  refine fQ_ [] ?_
  simp [go_sem, Try.f94, ← hgo, idxL]
structure contIdX where
 l : List Id
 l' : AV
 a : Id
 h_l : SlA 2 cId l l'
 hL : l.length ≤ 100000
noncomputable def contIdS : HSpec := mkH (ι := contIdX) (fun ⟨l, l', a, h_l, hL⟩ => ([l', .agg (cId a)], [])) fun ⟨l, l', a, h_l, hL⟩ => ⟨.bool (decide (a ∈ l)), [], []⟩
theorem contIdS_atG (l : List Id) (l' : AV) (a : Id) (h_l : SlA 2 cId l l') (hL : l.length ≤ 100000) : contIdS [l', .agg (cId a)] [] = some (⟨.bool (decide (a ∈ l)), [], []⟩) :=
 mA_ (ι := contIdX) (fun i j h => by obtain ⟨l, l', a, h_l, hL⟩ := i; obtain ⟨l2, l'2, a2, h_l2, hL2⟩ := j; simp [and_assoc, qB_, qI_, qO_, qC_, qE_, qK_, qR_, qV_, qP_, qOc_] at h; obtain ⟨rfl, rfl⟩ := h; obtain rfl := SlA.inj (fun x y h => cId_inj h) h_l h_l2; rfl) ⟨l, l', a, h_l, hL⟩
theorem contIdS_at (l : List Id) (a : Id) (hL : l.length ≤ 100000) : contIdS [(.sl 2 (rows cId l)), .agg (cId a)] [] = some (⟨.bool (decide (a ∈ l)), [], []⟩) := contIdS_atG l _ a .sl hL
theorem contIdS_atN (a : Id) : contIdS [.nils, .agg (cId a)] [] = some ((fun (l : List Id) => ⟨.bool (decide (a ∈ l)), [], []⟩) []) := contIdS_atG [] _ a .nil (by simp)
theorem contId_ok : HSound Try.prog 74 contIdS := by
 refine sE_ (fn := Try.f74) rfl rfl (by kernel_rfl) fun args bx hr hS => ?_
 obtain ⟨⟨l, l', a, h_l, hL⟩, rfl, rfl, rfl⟩ := mO_ hS
 clear hS
 refine ⟨_, (eV_ (g := 94) (by kernel_rfl) idxId_ok (eN_ _)), by simp [Try.f74], by simp [go_sem], fun w Mx pin => ?_⟩
 simp only [hB_at, lab_nil, lab_cons, hOf_nil, hOf_cons]
 refine aW_ (s' := ⟨ofL [(0, (.sl 2 (rows cId l))), (1, .agg (cId a))], hOf []⟩) ?_ ?_
 · cases h_l <;> exact wO_ [] (by simp [go_sem]) (by simp [go_sem]) (by simp [go_sem])
 clear h_l
 refine aQ_ ?_
 iterate 2
  refine oC_ fun J hJ => ?_
  simp [go_sem]
  refine hJ _ _ _ ?_
 refine oN_ ?_
 refine aQ_ ?_
 iterate 5
  refine oC_ fun J hJ => ?_
  simp [go_sem, idxIdS_at l a hL]
  refine hJ _ _ _ ?_
 refine oN_ ?_
 refine aE_ ?_
 refine fQ_ [] ?_
 simp [go_sem, Try.f74, idx_mem]
structure plIdsX where
 L : List Id
 L' : AV
 M : List Id
 M' : AV
 h_L : SlA 2 cId L L'
 h_M : SlA 2 cId M M'
 hL : L.length ≤ 100000
noncomputable def plIdsS : HSpec := mkH (ι := plIdsX) (fun ⟨L, L', M, M', h_L, h_M, hL⟩ => ([L', M'], [])) fun ⟨L, L', M, M', h_L, h_M, hL⟩ => ⟨.bool (decide (L = M)), [], []⟩
theorem plIdsS_atG (L : List Id) (L' : AV) (M : List Id) (M' : AV) (h_L : SlA 2 cId L L') (h_M : SlA 2 cId M M') (hL : L.length ≤ 100000) : plIdsS [L', M'] [] = some (⟨.bool (decide (L = M)), [], []⟩) :=
 mA_ (ι := plIdsX) (fun i j h => by obtain ⟨L, L', M, M', h_L, h_M, hL⟩ := i; obtain ⟨L2, L'2, M2, M'2, h_L2, h_M2, hL2⟩ := j; simp [and_assoc, qB_, qI_, qO_, qC_, qE_, qK_, qR_, qV_, qP_, qOc_] at h; obtain ⟨rfl, rfl⟩ := h; obtain rfl := SlA.inj (fun x y h => cId_inj h) h_L h_L2; obtain rfl := SlA.inj (fun x y h => cId_inj h) h_M h_M2; rfl) ⟨L, L', M, M', h_L, h_M, hL⟩
theorem plIdsS_at (L : List Id) (M : List Id) (hL : L.length ≤ 100000) : plIdsS [(.sl 2 (rows cId L)), (.sl 2 (rows cId M))] [] = some (⟨.bool (decide (L = M)), [], []⟩) := plIdsS_atG L _ M _ .sl .sl hL
def plIdsI (L M pre _post _q : List Id) : St := ⟨ofL [(0, .sl 2 (rows cId L)), (1, .sl 2 (rows cId M)), (5, .int .i64 pre.length)], hOf []⟩
theorem plIds_ok : HSound Try.prog 22 plIdsS := by
 refine sE_ (fn := Try.f22) rfl rfl (by kernel_rfl) fun args bx hr hS => ?_
 obtain ⟨⟨L, L', M, M', h_L, h_M, hL⟩, rfl, rfl, rfl⟩ := mO_ hS
 clear hS
 refine ⟨_, (eN_ _), by simp [Try.f22], by simp [go_sem], fun w Mx pin => ?_⟩
 simp only [hB_at, lab_nil, lab_cons, hOf_nil, hOf_cons]
 refine aW_ (s' := ⟨ofL [(0, (.sl 2 (rows cId L))), (1, (.sl 2 (rows cId M)))], hOf []⟩) ?_ ?_
 · cases h_L <;> cases h_M <;> exact wO_ [] (by simp [go_sem]) (by simp [go_sem]) (by simp [go_sem])
 clear h_L h_M
 refine aQ_ ?_
 iterate 1
  refine oC_ fun J hJ => ?_
  simp [go_sem]
  refine hJ _ _ _ ?_
 refine oN_ ?_
 refine aS_ fun K2 hK2 => ?_
 refine aQ_ ?_
 iterate 5
  refine oC_ fun J hJ => ?_
  simp [go_sem]
  refine hJ _ _ _ ?_
 refine oN_ ?_
 refine aC_ (t := _) rfl (fun c4 => ?_) (fun c4 => ?_)
 ·
  simp [go_sem] at c4
  have hne : L ≠ M := fun h => c4 (by rw [h])
  refine aQ_ ?_
  iterate 1
   refine oC_ fun J hJ => ?_
   simp [go_sem]
   refine hJ _ _ _ ?_
  refine oN_ ?_
  refine aE_ ?_
  refine fQ_ [] ?_
  simp [go_sem, Try.f22, hne]
 ·
  simp [go_sem] at c4
  refine aK_ ?_
  refine hK2 _ ?_
  refine aS_ fun K6 hK6 => ?_
  refine aQ_ ?_
  iterate 1
   refine oC_ fun J hJ => ?_
   simp [go_sem]
   refine hJ _ _ _ ?_
  refine oN_ ?_
  refine aB_ ?_
  refine aL_ (ι := { q : List Id × List Id × List Id // q.1 ++ q.2.1 = L ∧ q.1 ++ q.2.2 = M }) (fun q => plIdsI L M q.1.1 q.1.2.1 q.1.2.2) (fun q => q.1.2.1.length) ⟨([], L, M), rfl, rfl⟩ ?_ ?_
  · refine wO_ [] (by simp [go_sem]) ?_ ?_ <;> simp [go_sem]
  intro ⟨⟨pre, post, p2⟩, hl, hgo⟩
  simp only at hl hgo
  have hpl := lS_ hl hL
  simp only [plIdsI]
  refine aS_ fun K8 hK8 => ?_
  refine aQ_ ?_
  iterate 4
   refine oC_ fun J hJ => ?_
   simp [go_sem]
   refine hJ _ _ _ ?_
  refine oN_ ?_
  refine aC_ (t := _) rfl (fun c10 => ?_) (fun c10 => ?_)
  ·
   simp [go_sem] at c10
   obtain ⟨x, post, rfl, hx⟩ := mL_ hl c10
   obtain ⟨y, p2, rfl, hy⟩ := mL_ hgo (by omega)
   refine aK_ ?_
   refine hK8 _ ?_
   refine aS_ fun K11 hK11 => ?_
   refine aB_ ?_
   refine aU_ ?_
   iterate 9
    refine oC_ fun J hJ => ?_
    simp [go_sem, hx, hy]
    refine hJ _ _ _ ?_
   refine oN_ ?_
   refine ⟨rfl, ?_⟩
   refine aC_ (t := _) rfl (fun c13 => ?_) (fun c13 => ?_)
   ·
    refine aQ_ ?_
    iterate 1
     refine oC_ fun J hJ => ?_
     simp [go_sem]
     refine hJ _ _ _ ?_
    refine oN_ ?_
    refine aE_ ?_
    have hne : L ≠ M := by
     rintro rfl
     rw [hx] at hy
     cases hy
     simp at c13
    refine fQ_ [] ?_
    simp [go_sem, Try.f22, hne]
   ·
    refine aK_ ?_
    refine hK11 _ ?_
    refine aR_ ?_
    iterate 3
     refine oC_ fun J hJ => ?_
     simp [go_sem]
     refine hJ _ _ _ ?_
    refine oN_ ?_
    obtain rfl : x = y := by simpa using c13
    refine ⟨⟨(pre ++ [x], post, p2), by simp [← hl], by rw [← hgo]; simp⟩, ?_, by simp⟩
    refine wO_ [] (by simp [go_sem]) ?_ ?_ <;> simp [go_sem, wN_ hpl]
  ·
   simp [go_sem] at c10
   obtain ⟨rfl, rfl⟩ := mN_ hl c10
   obtain rfl : p2 = [] := by have := congrArg List.length hgo; simp at this; exact List.eq_nil_of_length_eq_zero (by omega)
   simp at hgo
   refine aX_ ?_
   simp only [go_sem]
   refine hK6 _ ?_
   refine aQ_ ?_
   iterate 1
    refine oC_ fun J hJ => ?_
    simp [go_sem]
    refine hJ _ _ _ ?_
   refine oN_ ?_
   refine aE_ ?_
   refine fQ_ [] ?_
   simp [go_sem, Try.f22, hgo]
end Go.Proofs.Ytfbooejaabdkoaa.AE
