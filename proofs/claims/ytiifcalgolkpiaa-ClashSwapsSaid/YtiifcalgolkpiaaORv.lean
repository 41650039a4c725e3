/-
 slices.Reverse. Conditions: none; every contract names its own.
-/
import Derived.Test.YtiifcalgolkpiaaOSn
import Derived.Test.YtiifcalgolkpiaaPj
set_option linter.constructorNameAsVariable false
namespace Go.Proofs.Ytiifcalgolkpiaa.AE
open Go Go.Proofs Go.RowKit
set_option linter.unusedVariables false
set_option linter.unusedSimpArgs false
set_option maxRecDepth 100000
set_option maxHeartbeats 4000000
def rvL {α : Type} (n : Nat) : Nat → List α → List α
 | 0, L => L
 | k + 1, L => match (rvL n k L)[k]?, (rvL n k L)[n - 1 - k]? with
  | some x, some y => ((rvL n k L).set k y).set (n - 1 - k) x
  | _, _ => rvL n k L
theorem rvL_len {α : Type} (n : Nat) : ∀ (k : Nat) (L : List α), (rvL n k L).length = L.length
 | 0, L => rfl
 | k + 1, L => by
  unfold rvL
  split
  · simp [rvL_len n k L]
  · exact rvL_len n k L
theorem rvL_succ {α : Type} {n k : Nat} {L : List α} {x y : α} (hx : (rvL n k L)[k]? = some x) (hy : (rvL n k L)[n - 1 - k]? = some y) : rvL n (k + 1) L = ((rvL n k L).set k y).set (n - 1 - k) x := by
 show (match (rvL n k L)[k]?, (rvL n k L)[n - 1 - k]? with
  | some x, some y => ((rvL n k L).set k y).set (n - 1 - k) x
  | _, _ => rvL n k L) = _
 rw [hx, hy]
theorem rvL_get {α : Type} {L : List α} : ∀ (k : Nat), 2 * k ≤ L.length → ∀ i, i < L.length → (rvL L.length k L)[i]? = if i < k ∨ L.length - k ≤ i then L[L.length - 1 - i]? else L[i]?
 | 0, _, i, hi => by rw [if_neg (by omega)]; rfl
 | k + 1, hk, i, hi => by
  have ih := rvL_get (L := L) k (by omega)
  obtain ⟨x, hx⟩ : ∃ x, L[k]? = some x := ⟨L[k], List.getElem?_eq_getElem (by omega)⟩
  obtain ⟨y, hy⟩ : ∃ y, L[L.length - 1 - k]? = some y := ⟨L[L.length - 1 - k], List.getElem?_eq_getElem (by omega)⟩
  have hx' : (rvL L.length k L)[k]? = some x := by rw [ih k (by omega), if_neg (by omega)]; exact hx
  have hy' : (rvL L.length k L)[L.length - 1 - k]? = some y := by rw [ih _ (by omega), if_neg (by omega)]; exact hy
  rw [rvL_succ hx' hy', List.getElem?_set, List.length_set, rvL_len, List.getElem?_set, rvL_len]
  by_cases h1 : L.length - 1 - k = i
  ·
   rw [if_pos h1, if_pos (by omega), if_pos (by omega), ← hx]
   congr 1
   omega
  ·
   rw [if_neg h1]
   by_cases h2 : k = i
   ·
    subst h2
    rw [if_pos rfl, if_pos (by omega), if_pos (by omega)]
    exact hy.symm
   ·
    rw [if_neg h2, ih i hi]
    by_cases h3 : i < k ∨ L.length - k ≤ i
    · rw [if_pos h3, if_pos (by omega)]
    · rw [if_neg h3, if_neg (by omega)]
theorem rvL_done {α : Type} {L : List α} {k : Nat} (h1 : 2 * k ≤ L.length) (h2 : L.length ≤ 2 * k + 1) : rvL L.length k L = L.reverse := by
 apply List.ext_getElem?
 intro i
 by_cases hi : i < L.length
 ·
  rw [rvL_get k h1 i hi, List.getElem?_reverse hi]
  split
  · rfl
  · congr 1; omega
 · rw [List.getElem?_eq_none (by rw [rvL_len]; omega), List.getElem?_eq_none (by simp; omega)]
structure revOX where
 L : List Outc
 n : Nat
 hn : L.length = n
 hL : n ≤ 100000
noncomputable def revOS : HSpec := mkH (ι := revOX) (fun ⟨L, n, _, _⟩ => ([.own (1, 0) n], [.row 36 2 (rows cOc L) false])) fun ⟨L, _, _, _⟩ => ⟨.tup [], [.row 36 2 (rows cOc L.reverse) false], []⟩
theorem revOS_at (L : List Outc) (n : Nat) (hn : L.length = n) (hL : n ≤ 100000) : revOS [.own (1, 0) n] [.row 36 2 (rows cOc L) false] = some ⟨.tup [], [.row 36 2 (rows cOc L.reverse) false], []⟩ :=
 mA_ (ι := revOX) (fun i j h => by obtain ⟨L, n, hn, hL⟩ := i; obtain ⟨L2, n2, hn2, hL2⟩ := j; simp [rows_iff_Oc] at h; obtain ⟨rfl, rfl⟩ := h; rfl) ⟨L, n, hn, hL⟩
def revOI (L : List Outc) (k : Nat) (j : Int) : St := ⟨ofL [(0, .own (1, 0) L.length), (2, .int .i64 k), (3, .int .i64 j)], hOf [((1, 0), .row 36 2 (rows cOc (rvL L.length k L)) false)]⟩
theorem revO_ok : HSound Try.prog 66 revOS := by
 refine sE_ (fn := Try.f66) rfl rfl (by kernel_rfl) fun args bx hr hS => ?_
 obtain ⟨⟨L, n, hn, hL⟩, rfl, rfl, rfl⟩ := mO_ hS
 refine ⟨_, (eN_ _), by simp [Try.f66], by simp [go_sem], fun w Mx pin => ?_⟩
 simp only [hB_at, lab_nil, lab_cons, hOf_nil, hOf_cons]
 subst hn
 have w0 : IntKind.i64.wrap ((L.length : Int) - 1) = (L.length : Int) - 1 := wA_ (by omega)
 refine aQ_ ?_
 iterate 5
  refine oC_ fun J hJ => ?_
  simp [go_sem, w0]
  refine hJ _ _ _ ?_
  clear hJ J
 refine oN_ ?_
 refine aB_ ?_
 refine aL_ (ι := { q : Nat × Int // q.2 = (L.length : Int) - 1 - q.1 ∧ 2 * q.1 ≤ L.length }) (fun q => revOI L q.1.1 q.1.2) (fun q => L.length - q.1.1) ⟨(0, (L.length : Int) - 1), by simp, by simp⟩ ?_ ?_
 · refine wO_ [((1, 0), some (1, 0))] (by simp [go_sem]) ?_ ?_ <;> simp [go_sem, w0, rvL]
 intro ⟨⟨k, j⟩, hj, hk⟩
 simp only at hj hk
 simp only [revOI]
 refine aS_ fun K2 hK2 => ?_
 refine aQ_ ?_
 iterate 3
  refine oC_ fun J hJ => ?_
  simp [go_sem]
  refine hJ _ _ _ ?_
  clear hJ J
 refine oN_ ?_
 refine aC_ (t := _) rfl (fun c4 => ?_) (fun c4 => ?_)
 ·
  simp [go_sem] at c4
  obtain ⟨m, rfl⟩ : ∃ m : Nat, j = m := ⟨j.toNat, by omega⟩
  have hmk : L.length - 1 - k = m := by omega
  have hkl : k < L.length := by omega
  have hml : m < L.length := by omega
  obtain ⟨x, hx⟩ : ∃ x, (rvL L.length k L)[k]? = some x := ⟨_, List.getElem?_eq_getElem (by rw [rvL_len]; omega)⟩
  obtain ⟨y, hy⟩ : ∃ y, (rvL L.length k L)[m]? = some y := ⟨_, List.getElem?_eq_getElem (by rw [rvL_len]; omega)⟩
  have hy' : (rvL L.length k L)[L.length - 1 - k]? = some y := by rw [hmk]; exact hy
  have w1 : IntKind.i64.wrap ((k : Int) + 1) = (k : Int) + 1 := wA_ (by omega)
  have w2 : IntKind.i64.wrap ((m : Int) - 1) = (m : Int) - 1 := wA_ (by omega)
  refine aK_ ?_
  refine hK2 _ ?_
  clear hK2
  refine aS_ fun K5 hK5 => ?_
  refine aB_ ?_
  refine aD_ ?_
  iterate 16
   refine oC_ fun J hJ => ?_
   simp [go_sem, hkl, hml, ↓hx, ↓hy, rvL_len]
   refine hJ _ _ _ ?_
   clear hJ J
  refine oN_ ?_
  refine ⟨rfl, ?_⟩
  refine hK5 _ ?_
  clear hK5
  refine aR_ ?_
  iterate 6
   refine oC_ fun J hJ => ?_
   simp [go_sem, w1, w2]
   refine hJ _ _ _ ?_
   clear hJ J
  refine oN_ ?_
  refine ⟨⟨(k + 1, (m : Int) - 1), by simp; omega, by simp; omega⟩, ?_, by simp; omega⟩
  refine wO_ [((1, 0), some (1, 0))] (by simp [go_sem]) ?_ ?_ <;> simp [go_sem, w1, w2, rvL_succ hx hy', hmk]
 ·
  simp [go_sem] at c4
  have hdone : rvL L.length k L = L.reverse := rvL_done hk (by omega)
  refine aX_ ?_
  simp only [go_sem]
  refine fQ_ [((1, 0), some (1, 0))] ?_
  simp [go_sem, Try.f66, hdone]
end Go.Proofs.Ytiifcalgolkpiaa.AE
