/-
 slices.SortStableFunc, of few: contracts. Conditions: none; every contract names its own.
-/
import Derived.Test.YtebflegkdfhoaaaPe
set_option linter.constructorNameAsVariable false
namespace Go.Proofs.Ytebflegkdfhoaaa.AE
open Go Go.Proofs Go.RowKit
set_option linter.unusedVariables false
set_option linter.unusedSimpArgs false
set_option maxRecDepth 100000
set_option maxHeartbeats 4000000
def bubChg (p : Chg → Chg → Int) (a : Nat) : Nat → List Chg → List Chg
 | 0, L => L
 | j + 1, L => if a < j + 1 then match L[j + 1]?, L[j]? with
  | some x, some y => if p x y < 0 then bubChg p a j ((L.set (j + 1) y).set j x) else L
  | _, _ => L else L
def insChg (p : Chg → Chg → Int) (a : Nat) : Nat → Nat → List Chg → List Chg
 | 0, _, L => L
 | n + 1, i, L => insChg p a n (i + 1) (bubChg p a i L)
theorem bubChg_len (p : Chg → Chg → Int) (a : Nat) : ∀ (j : Nat) (L : List Chg), (bubChg p a j L).length = L.length
 | 0, L => rfl
 | j + 1, L => by
  unfold bubChg
  split
  ·
   split
   ·
    split
    · rw [bubChg_len p a j]; simp
    · rfl
   · rfl
  · rfl
theorem insChg_len (p : Chg → Chg → Int) (a : Nat) : ∀ (n i : Nat) (L : List Chg), (insChg p a n i L).length = L.length
 | 0, i, L => rfl
 | n + 1, i, L => by
  show (insChg p a n (i + 1) (bubChg p a i L)).length = L.length
  rw [insChg_len p a n, bubChg_len]
theorem get_ltChg {L : List Chg} {n : Nat} (h : n < L.length) : ∃ x, L[n]? = some x := ⟨L[n], by simp [h]⟩
theorem wrap_le {n : Nat} (h : n ≤ 1000000) : IntKind.i64.wrap (n : Int) = n := by
 unfold IntKind.wrap; simp [IntKind.bits, IntKind.signed]; omega
structure insSChgX where
 L : List Chg
 a : Nat
 b : Nat
 ha : a ≤ 100000
 hb : b ≤ L.length
 hL : L.length ≤ 100000
noncomputable def insSChg (g : FuncId) (p : Chg → Chg → Int) : HSpec := mkH (ι := insSChgX) (fun ⟨L, a, b, _, _, _⟩ => ([.own (1, 0) L.length, .int .i64 (a : Int), .int .i64 (b : Int), .fn g []], [.row 26 9 (rows cChg L) false])) fun ⟨L, a, b, _, _, _⟩ => ⟨.tup [], [.row 26 9 (rows cChg (insChg p a (b - (a + 1)) (a + 1) L)) false], []⟩
theorem insSChg_at (g : FuncId) (p : Chg → Chg → Int) (L : List Chg) (a b : Nat) (ha : a ≤ 100000) (hb : b ≤ L.length) (hL : L.length ≤ 100000) : insSChg g p [.own (1, 0) L.length, .int .i64 (a : Int), .int .i64 (b : Int), .fn g []] [.row 26 9 (rows cChg L) false] = some ⟨.tup [], [.row 26 9 (rows cChg (insChg p a (b - (a + 1)) (a + 1) L)) false], []⟩ :=
 mA_ (ι := insSChgX) (fun i j h => by obtain ⟨L, a, b, ha, hb, hL⟩ := i; obtain ⟨L2, a2, b2, ha2, hb2, hL2⟩ := j; simp [rows_iff_Chg] at h; obtain ⟨⟨h1, h2, h3⟩, rfl⟩ := h; obtain rfl : a = a2 := (by omega); obtain rfl : b = b2 := (by omega); rfl) ⟨L, a, b, ha, hb, hL⟩
def insIChg (g : FuncId) (a b : Nat) (M : List Chg) (n i : Nat) : St := ⟨ofL [(0, .own (1, 0) n), (1, .int .i64 (a : Int)), (2, .int .i64 (b : Int)), (3, .fn g []), (8, .int .i64 (i : Int))], hOf [((1, 0), .row 26 9 (rows cChg M) false)]⟩
def insJChg (g : FuncId) (a b : Nat) (i : Nat) (M : List Chg) (n j : Nat) : St := ⟨ofL [(0, .own (1, 0) n), (1, .int .i64 (a : Int)), (2, .int .i64 (b : Int)), (3, .fn g []), (8, .int .i64 (i : Int)), (9, .int .i64 (j : Int))], hOf [((1, 0), .row 26 9 (rows cChg M) false)]⟩
theorem insSChg_ok (g : FuncId) (p : Chg → Chg → Int) (Sg : HSpec) (he : entersB Try.prog g = true) (hG : HSound Try.prog g Sg) (hp : ∀ x y, Sg [.agg (cChg x), .agg (cChg y)] [] = some ⟨.int .i64 (p x y), [], []⟩) : HSound Try.prog 83 (insSChg g p) := by
 refine sE_ (fn := Try.f83) rfl rfl (by kernel_rfl) fun args bx hr hS => ?_
 obtain ⟨⟨L, a, b, ha, hb, hL⟩, rfl, rfl, rfl⟩ := mO_ hS
 refine ⟨_, (eV_ (g := g) he hG (eN_ _)), by simp [Try.f83], by simp [go_sem, insChg_len], fun w Mx pin => ?_⟩
 simp only [hB_at, lab_nil, lab_cons, hOf_nil, hOf_cons]
 have w1 : IntKind.i64.wrap ((a : Int) + 1) = ((a + 1 : Nat) : Int) := wrap_le (n := a + 1) (by omega)
 refine aQ_ ?_
 iterate 3
  refine oC_ fun J hJ => ?_
  simp [go_sem, w1]
  refine hJ _ _ _ ?_
 refine oN_ ?_
 refine aB_ ?_
 refine aL_ (ι := { q : List Chg × Nat // q.1.length = L.length ∧ a + 1 ≤ q.2 ∧ q.2 ≤ a + 1 + b ∧ insChg p a (b - q.2) q.2 q.1 = insChg p a (b - (a + 1)) (a + 1) L }) (fun q => insIChg g a b q.1.1 L.length q.1.2) (fun q => a + 1 + b - q.1.2) ⟨(L, a + 1), rfl, Nat.le_refl _, by omega, rfl⟩ ?_ ?_
 · refine wO_ [((1, 0), some (1, 0))] (by simp [go_sem]) ?_ ?_ <;> simp [go_sem, w1]
 intro ⟨⟨M, i⟩, hM, hi, hib, hgo⟩
 simp only at hM hi hib hgo
 simp only [insIChg]
 refine aS_ fun K2 hK2 => ?_
 refine aQ_ ?_
 iterate 3
  refine oC_ fun J hJ => ?_
  simp [go_sem]
  refine hJ _ _ _ ?_
 refine oN_ ?_
 refine aC_ (t := _) rfl (fun c4 => ?_) (fun c4 => ?_)
 ·
  simp [go_sem] at c4
  refine aK_ ?_
  refine hK2 _ ?_
  refine aS_ fun K5 hK5 => ?_
  refine aB_ ?_
  refine aQ_ ?_
  iterate 2
   refine oC_ fun J hJ => ?_
   simp [go_sem]
   refine hJ _ _ _ ?_
  refine oN_ ?_
  refine aB_ ?_
  refine aL_ (ι := { q : List Chg × Nat // q.1.length = L.length ∧ q.2 ≤ i ∧ bubChg p a q.2 q.1 = bubChg p a i M }) (fun q => insJChg g a b i q.1.1 L.length q.1.2) (fun q => q.1.2) ⟨(M, i), hM, Nat.le_refl _, rfl⟩ ?_ ?_
  · refine wO_ [((1, 0), some (1, 0))] (by simp [go_sem]) ?_ ?_ <;> simp [go_sem]
  intro ⟨⟨N, j⟩, hN, hj, hgo2⟩
  simp only at hN hj hgo2
  simp only [insJChg]
  refine aS_ fun K7 hK7 => ?_
  refine aS_ fun K8 hK8 => ?_
  by_cases hja : a < j
  ·
   obtain ⟨m, hm⟩ : ∃ m, j = m + 1 := ⟨j - 1, by omega⟩
   have wm : IntKind.i64.wrap ((j : Int) - 1) = (m : Int) := by rw [hm]; simp; exact wrap_le (n := m) (by omega)
   have hjl : j < L.length := by omega
   have hml : m < L.length := by omega
   obtain ⟨x, hx⟩ := get_ltChg (L := N) (n := j) (by omega)
   obtain ⟨y, hy⟩ := get_ltChg (L := N) (n := m) (by omega)
   refine aD_ ?_
   iterate 17
    refine oC_ fun J hJ => ?_
    simp [go_sem, hja, hjl, hml, wm, ↓hx, ↓hy, hp, hN]
    refine hJ _ _ _ ?_
   refine oN_ ?_
   refine ⟨rfl, ?_⟩
   refine hK8 _ ?_
   refine aC_ (t := _) rfl (fun c9 => ?_) (fun c9 => ?_)
   ·
    simp [go_sem] at c9
    refine aK_ ?_
    refine hK7 _ ?_
    refine aS_ fun K10 hK10 => ?_
    refine aB_ ?_
    refine aD_ ?_
    iterate 18
     refine oC_ fun J hJ => ?_
     simp [go_sem, hja, hjl, hml, wm, ↓hx, ↓hy, hN]
     refine hJ _ _ _ ?_
    refine oN_ ?_
    refine ⟨rfl, ?_⟩
    refine hK10 _ ?_
    refine aR_ ?_
    iterate 3
     refine oC_ fun J hJ => ?_
     simp [go_sem, wm]
     refine hJ _ _ _ ?_
    refine oN_ ?_
    refine ⟨⟨((N.set j y).set m x, m), by simp; exact hN, by omega, ?_⟩, ?_, by simp; omega⟩
    ·
     rw [← hgo2, hm]
     rw [hm] at hx
     simp only [bubChg]
     rw [if_pos (by omega), hx, hy]
     simp only
     rw [if_pos c9]
    refine wO_ [((1, 0), some (1, 0))] (by simp [go_sem]) ?_ ?_ <;> simp [go_sem, wm]
   ·
    simp [go_sem] at c9
    have hbu : bubChg p a i M = N := by
     rw [← hgo2, hm]
     rw [hm] at hx
     simp only [bubChg]
     rw [if_pos (by omega), hx, hy]
     simp only
     rw [if_neg (by omega)]
    refine aX_ ?_
    simp only [go_sem]
    refine hK5 _ ?_
    have hi1 : IntKind.i64.wrap ((i : Int) + 1) = ((i + 1 : Nat) : Int) := wrap_le (n := i + 1) (by omega)
    refine aR_ ?_
    iterate 3
     refine oC_ fun J hJ => ?_
     simp [go_sem, hi1]
     refine hJ _ _ _ ?_
    refine oN_ ?_
    have hi1 : IntKind.i64.wrap ((i : Int) + 1) = ((i + 1 : Nat) : Int) := wrap_le (n := i + 1) (by omega)
    refine ⟨⟨(bubChg p a i M, i + 1), by rw [bubChg_len]; exact hM, by omega, by omega, ?_⟩, ?_, by simp; omega⟩
    · rw [← hgo, show b - i = (b - (i + 1)) + 1 by omega]; rfl
    refine wO_ [((1, 0), some (1, 0))] (by simp [go_sem]) ?_ ?_ <;> simp [go_sem, hi1, hbu]
  ·
   have hbu : bubChg p a i M = N := by
    rw [← hgo2]
    cases j with
    | zero => rfl
    | succ j => simp only [bubChg]; rw [if_neg hja]
   refine aD_ ?_
   iterate 17
    refine oC_ fun J hJ => ?_
    simp [go_sem, hja]
    refine hJ _ _ _ ?_
   refine oN_ ?_
   refine ⟨rfl, ?_⟩
   refine hK8 _ ?_
   refine aF_ rfl ?_
   refine aX_ ?_
   simp only [go_sem]
   refine hK5 _ ?_
   have hi1 : IntKind.i64.wrap ((i : Int) + 1) = ((i + 1 : Nat) : Int) := wrap_le (n := i + 1) (by omega)
   refine aR_ ?_
   iterate 3
    refine oC_ fun J hJ => ?_
    simp [go_sem, hi1]
    refine hJ _ _ _ ?_
   refine oN_ ?_
   have hi1 : IntKind.i64.wrap ((i : Int) + 1) = ((i + 1 : Nat) : Int) := wrap_le (n := i + 1) (by omega)
   refine ⟨⟨(bubChg p a i M, i + 1), by rw [bubChg_len]; exact hM, by omega, by omega, ?_⟩, ?_, by simp; omega⟩
   · rw [← hgo, show b - i = (b - (i + 1)) + 1 by omega]; rfl
   refine wO_ [((1, 0), some (1, 0))] (by simp [go_sem]) ?_ ?_ <;> simp [go_sem, hi1, hbu]
 ·
  simp [go_sem] at c4
  have hgo3 : M = insChg p a (b - (a + 1)) (a + 1) L := by rw [← hgo, show b - i = 0 by omega]; rfl
  refine aX_ ?_
  simp only [go_sem]
  refine fQ_ [((1, 0), some (1, 0))] ?_
  simp [go_sem, Try.f83, ← hgo3, hM, insChg_len]
structure stSChgX where
 L : List Chg
 hL : L.length < 20
noncomputable def stSChg (g : FuncId) (p : Chg → Chg → Int) : HSpec := mkH (ι := stSChgX) (fun ⟨L, _⟩ => ([.own (1, 0) L.length, .int .i64 L.length, .fn g []], [.row 26 9 (rows cChg L) false])) fun ⟨L, _⟩ => ⟨.tup [], [.row 26 9 (rows cChg (insChg p 0 (L.length - 1) 1 L)) false], []⟩
theorem stSChg_at (g : FuncId) (p : Chg → Chg → Int) (L : List Chg) (hL : L.length < 20) : stSChg g p [.own (1, 0) L.length, .int .i64 L.length, .fn g []] [.row 26 9 (rows cChg L) false] = some ⟨.tup [], [.row 26 9 (rows cChg (insChg p 0 (L.length - 1) 1 L)) false], []⟩ :=
 mA_ (ι := stSChgX) (fun i j h => by obtain ⟨L, hL⟩ := i; obtain ⟨L2, hL2⟩ := j; simp [rows_iff_Chg] at h; obtain rfl : L = L2 := (by first | exact h.2 | exact h); rfl) ⟨L, hL⟩
def stIChg (g : FuncId) (L : List Chg) : St := ⟨ofL [(0, .own (1, 0) L.length), (1, .int .i64 L.length), (2, .fn g []), (6, .int .i64 20), (7, .int .i64 0), (8, .int .i64 20)], hOf [((1, 0), .row 26 9 (rows cChg L) false)]⟩
def stJChg (g : FuncId) (p : Chg → Chg → Int) (L : List Chg) : St := ⟨ofL [(0, .own (1, 0) L.length), (1, .int .i64 L.length), (2, .fn g []), (6, .int .i64 20)], hOf [((1, 0), .row 26 9 (rows cChg (insChg p 0 (L.length - 1) 1 L)) false)]⟩
theorem insSChgz (g : FuncId) (p : Chg → Chg → Int) (L : List Chg) (hL : L.length ≤ 100000) : insSChg g p [.own (1, 0) L.length, .int .i64 0, .int .i64 (L.length : Int), .fn g []] [.row 26 9 (rows cChg L) false] = some ⟨.tup [], [.row 26 9 (rows cChg (insChg p 0 (L.length - 1) 1 L)) false], []⟩ := insSChg_at g p L 0 L.length (by omega) (by omega) hL
theorem stSChg_ok (g : FuncId) (p : Chg → Chg → Int) (Sg : HSpec) (he : entersB Try.prog g = true) (hG : HSound Try.prog g Sg) (hp : ∀ x y, Sg [.agg (cChg x), .agg (cChg y)] [] = some ⟨.int .i64 (p x y), [], []⟩) : HSound Try.prog 81 (stSChg g p) := by
 refine sE_ (fn := Try.f81) rfl rfl (by kernel_rfl) fun args bx hr hS => ?_
 obtain ⟨⟨L, hL⟩, rfl, rfl, rfl⟩ := mO_ hS
 refine ⟨_, (eH_ (g := 83) (by kernel_rfl) (insSChg_ok g p Sg he hG hp) (eN_ _)), by simp [Try.f81], by simp [go_sem, insChg_len], fun w Mx pin => ?_⟩
 simp only [hB_at, lab_nil, lab_cons, hOf_nil, hOf_cons]
 have n20 : ¬ ((20 : Int) ≤ (L.length : Int)) := by omega
 have n21 : ¬ ((20 : Int) < (L.length : Int)) := by omega
 refine aQ_ ?_
 iterate 1
  refine oC_ fun J hJ => ?_
  simp [go_sem]
  refine hJ _ _ _ ?_
 refine oN_ ?_
 refine aQ_ ?_
 iterate 3
  refine oC_ fun J hJ => ?_
  simp [go_sem]
  refine hJ _ _ _ ?_
 refine oN_ ?_
 refine aS_ fun K3 hK3 => ?_
 refine aB_ ?_
 refine aL_ (ι := Unit) (fun _ => stIChg g L) (fun _ => 0) () ?_ ?_
 · refine wO_ [((1, 0), some (1, 0))] (by simp [go_sem]) ?_ ?_ <;> simp [go_sem, insChg_len]
 intro _
 simp only [stIChg]
 refine aS_ fun K4 hK4 => ?_
 refine aQ_ ?_
 iterate 3
  refine oC_ fun J hJ => ?_
  simp [go_sem, n20]
  refine hJ _ _ _ ?_
 refine oN_ ?_
 refine aF_ rfl ?_
 refine aX_ ?_
 simp only [go_sem]
 refine hK3 _ ?_
 refine aQ_ ?_
 iterate 5
  refine oC_ fun J hJ => ?_
  simp [go_sem, insSChg_at g p L 0 L.length (by omega) (by omega) (by omega), insSChgz g p L (by omega)]
  refine hJ _ _ _ ?_
 refine oN_ ?_
 refine aB_ ?_
 refine aL_ (ι := Unit) (fun _ => stJChg g p L) (fun _ => 0) () ?_ ?_
 · refine wO_ [((1, 0), some (1, 0))] (by simp [go_sem]) ?_ ?_ <;> simp [go_sem, insChg_len]
 intro _
 simp only [stJChg]
 refine aS_ fun K10 hK10 => ?_
 refine aQ_ ?_
 iterate 3
  refine oC_ fun J hJ => ?_
  simp [go_sem, n21]
  refine hJ _ _ _ ?_
 refine oN_ ?_
 refine aF_ rfl ?_
 refine aX_ ?_
 simp only [go_sem]
 refine fQ_ [((1, 0), some (1, 0))] ?_
 simp [go_sem, Try.f81, insChg_len]
structure sortSChgX where
 L : List Chg
 hL : L.length < 20
noncomputable def sortSChg (g : FuncId) (p : Chg → Chg → Int) : HSpec := mkH (ι := sortSChgX) (fun ⟨L, _⟩ => ([.own (1, 0) L.length, .fn g []], [.row 26 9 (rows cChg L) false])) fun ⟨L, _⟩ => ⟨.tup [], [.row 26 9 (rows cChg (insChg p 0 (L.length - 1) 1 L)) false], []⟩
theorem sortSChg_at (g : FuncId) (p : Chg → Chg → Int) (L : List Chg) (hL : L.length < 20) : sortSChg g p [.own (1, 0) L.length, .fn g []] [.row 26 9 (rows cChg L) false] = some ⟨.tup [], [.row 26 9 (rows cChg (insChg p 0 (L.length - 1) 1 L)) false], []⟩ :=
 mA_ (ι := sortSChgX) (fun i j h => by obtain ⟨L, hL⟩ := i; obtain ⟨L2, hL2⟩ := j; simp [rows_iff_Chg] at h; obtain rfl : L = L2 := (by first | exact h.2 | exact h); rfl) ⟨L, hL⟩
theorem sortSChg_ok (g : FuncId) (p : Chg → Chg → Int) (Sg : HSpec) (he : entersB Try.prog g = true) (hG : HSound Try.prog g Sg) (hp : ∀ x y, Sg [.agg (cChg x), .agg (cChg y)] [] = some ⟨.int .i64 (p x y), [], []⟩) : HSound Try.prog 69 (sortSChg g p) := by
 refine sE_ (fn := Try.f69) rfl rfl (by kernel_rfl) fun args bx hr hS => ?_
 obtain ⟨⟨L, hL⟩, rfl, rfl, rfl⟩ := mO_ hS
 refine ⟨_, (eH_ (g := 81) (by kernel_rfl) (stSChg_ok g p Sg he hG hp) (eN_ _)), by simp [Try.f69], by simp [go_sem, insChg_len], fun w Mx pin => ?_⟩
 simp only [hB_at, lab_nil, lab_cons, hOf_nil, hOf_cons]
 refine aR_ ?_
 iterate 5
  refine oC_ fun J hJ => ?_
  simp [go_sem, stSChg_at g p L hL]
  refine hJ _ _ _ ?_
 refine oN_ ?_
 refine fQ_ [((1, 0), some (1, 0))] ?_
 simp [go_sem, Try.f69, insChg_len]
end Go.Proofs.Ytebflegkdfhoaaa.AE
