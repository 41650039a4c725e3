/-
 Go's stable sort, of any number. Conditions: none; every contract names its own.
-/
import Derived.Test.YtebflegkdfhoaaaOSg2
import Derived.Test.YtebflegkdfhoaaaOSm4
set_option linter.constructorNameAsVariable false
namespace Go.Proofs.Ytebflegkdfhoaaa.AE
open Go Go.Proofs Go.RowKit
set_option linter.unusedVariables false
set_option linter.unusedSimpArgs false
set_option maxRecDepth 100000
set_option maxHeartbeats 4000000
structure sbSChgX where
 L : List Chg
 hL : L.length ≤ 100000
noncomputable def sbSChg : HSpec := mkH (ι := sbSChgX) (fun ⟨L, _⟩ => ([.own (1, 0) L.length, .int .i64 (L.length : Int), .fn 64 []], [.row 26 9 (rows cChg L) false])) fun ⟨L, _⟩ => ⟨.tup [], [.row 26 9 (rows cChg (ordL ordChg L)) false], []⟩
theorem sbSChg_at (L : List Chg) (hL : L.length ≤ 100000) : sbSChg [.own (1, 0) L.length, .int .i64 (L.length : Int), .fn 64 []] [.row 26 9 (rows cChg L) false] = some ⟨.tup [], [.row 26 9 (rows cChg (ordL ordChg L)) false], []⟩ :=
 mA_ (ι := sbSChgX) (fun i j h => by obtain ⟨L, hL⟩ := i; obtain ⟨L2, hL2⟩ := j; simp [rows_iff_Chg] at h; obtain rfl : L = L2 := (by first | exact h.2 | exact h); rfl) ⟨L, hL⟩
def sbIChg (L M : List Chg) (a b : Nat) : St := ⟨ofL [(0, .own (1, 0) L.length), (1, .int .i64 (L.length : Int)), (2, .fn 64 []), (6, .int .i64 20), (7, .int .i64 (a : Int)), (8, .int .i64 (b : Int))], hOf [((1, 0), .row 26 9 (rows cChg M) false)]⟩
def sbJChg (L : List Chg) (k : Nat) : St := ⟨ofL [(0, .own (1, 0) L.length), (1, .int .i64 (L.length : Int)), (2, .fn 64 []), (6, .int .i64 (k : Int))], hOf [((1, 0), .row 26 9 (rows cChg (blk ordChg k L.length L)) false)]⟩
def sbKChg (L : List Chg) (k : Nat) (M : List Chg) (a b : Nat) : St := ⟨ofL [(0, .own (1, 0) L.length), (1, .int .i64 (L.length : Int)), (2, .fn 64 []), (6, .int .i64 (k : Int)), (7, .int .i64 (a : Int)), (8, .int .i64 (b : Int))], hOf [((1, 0), .row 26 9 (rows cChg M) false)]⟩
theorem bub_eq (p : Chg → Chg → Int) (a : Nat) : ∀ (j : Nat) (L : List Chg), bubChg p a j L = bubG p a j L
 | 0, L => rfl
 | j + 1, L => by
  unfold bubChg bubG
  simp only [bub_eq p a j]
  cases L[j + 1]? <;> cases L[j]? <;> rfl
theorem ins_eq (p : Chg → Chg → Int) (a : Nat) : ∀ (n i : Nat) (L : List Chg), insChg p a n i L = insG p a n i L
 | 0, i, L => rfl
 | n + 1, i, L => by
  unfold insChg insG
  rw [bub_eq, ins_eq p a n]
theorem sbSChg_ok : HSound Try.prog 81 sbSChg := by
 refine sE_ (fn := Try.f81) rfl rfl (by kernel_rfl) fun args bx hr hS => ?_
 obtain ⟨⟨L, hL⟩, rfl, rfl, rfl⟩ := mO_ hS
 refine ⟨_, (eH_ (g := 83) (by kernel_rfl) (insSChg_ok 64 ordChg ordChgS (by kernel_rfl) ordChg_ok ordChgS_at) (eH_ (g := 84) (by kernel_rfl) (sySChg_ok 100000) (eN_ _))), by simp [Try.f81], by simp [go_sem, ordL_len], fun w Mx pin => ?_⟩
 simp only [hB_at, lab_nil, lab_cons, hOf_nil, hOf_cons]
 have ho : Ordr ordChg := ordr_chg
 refine aQ_ ?_
 iterate 1
  refine oC_ fun J hJ => ?_
  simp [go_sem]
  refine hJ _ _ _ ?_
 refine oN_ ?_
 refine aQ_ ?_
 iterate 3
  refine oC_ fun J hJ => ?_
  simp [go_sem]
  refine hJ _ _ _ ?_
 refine oN_ ?_
 refine aS_ fun K3 hK3 => ?_
 refine aB_ ?_
 refine aL_ (ι := { q : List Chg × Nat × Nat // Bk1 ordChg L q.1 q.2.1 ∧ q.2.2 = q.2.1 + 20 }) (fun q => sbIChg L q.1.1 q.1.2.1 q.1.2.2) (fun q => L.length - q.1.2.1) ⟨(L, 0, 20), Bk1.init _ L, rfl⟩ ?_ ?_
 · refine wO_ [((1, 0), some (1, 0))] (by simp [go_sem]) ?_ ?_ <;> simp [go_sem]
 intro ⟨⟨M, a, b⟩, hs, hb⟩
 try simp only at hs hb
 have hM := hs.len
 have hal := hs.le
 simp only [sbIChg]
 refine aS_ fun K4 hK4 => ?_
 refine aQ_ ?_
 iterate 3
  refine oC_ fun J hJ => ?_
  simp [go_sem]
  refine hJ _ _ _ ?_
 refine oN_ ?_
 refine aC_ (t := _) rfl (fun c6 => ?_) (fun c6 => ?_)
 ·
  simp [go_sem] at c6
  have wb : IntKind.i64.wrap ((b : Int) + 20) = (b : Int) + 20 := wA_ (by omega)
  have hi := insSChg_at 64 ordChg M a b (by omega) (by omega) (by omega)
  rw [hM, ins_eq, show b - (a + 1) = 19 by omega] at hi
  refine aK_ ?_
  refine hK4 _ ?_
  refine aB_ ?_
  refine aQ_ ?_
  iterate 5
   refine oC_ fun J hJ => ?_
   simp [go_sem, ↓hi]
   refine hJ _ _ _ ?_
  refine oN_ ?_
  refine aQ_ ?_
  iterate 2
   refine oC_ fun J hJ => ?_
   simp [go_sem]
   refine hJ _ _ _ ?_
  refine oN_ ?_
  refine aR_ ?_
  iterate 4
   refine oC_ fun J hJ => ?_
   simp [go_sem, wb]
   refine hJ _ _ _ ?_
  refine oN_ ?_
  refine ⟨⟨(insG ordChg a 19 (a + 1) M, b, b + 20), by simp only; rw [hb]; exact hs.next ho (by omega), rfl⟩, ?_, by simp only; omega⟩
  refine wO_ [((1, 0), some (1, 0))] (by simp [go_sem]) ?_ ?_ <;> simp [go_sem, wb]
 ·
  simp [go_sem] at c6
  have hi := insSChg_at 64 ordChg M a L.length (by omega) (by omega) (by omega)
  rw [hM, ins_eq, hs.last ho (by omega)] at hi
  refine aX_ ?_
  simp only [go_sem]
  refine hK3 _ ?_
  refine aQ_ ?_
  iterate 5
   refine oC_ fun J hJ => ?_
   simp [go_sem, ↓hi]
   refine hJ _ _ _ ?_
  refine oN_ ?_
  refine aB_ ?_
  refine aL_ (ι := { k : Nat // 0 < k ∧ k ≤ 200000 }) (fun q => sbJChg L q.1) (fun q => L.length - q.1) ⟨20, by omega, by omega⟩ ?_ ?_
  · refine wO_ [((1, 0), some (1, 0))] (by simp [go_sem]) ?_ ?_ <;> simp [go_sem]
  intro ⟨k, hk, hkm⟩
  try simp only at hk hkm
  have w2k : IntKind.i64.wrap (2 * (k : Int)) = 2 * (k : Int) := wA_ (by omega)
  have wk2 : IntKind.i64.wrap ((k : Int) * 2) = (k : Int) * 2 := wA_ (by omega)
  simp only [sbJChg]
  refine aS_ fun K10 hK10 => ?_
  refine aQ_ ?_
  iterate 3
   refine oC_ fun J hJ => ?_
   simp [go_sem]
   refine hJ _ _ _ ?_
  refine oN_ ?_
  refine aC_ (t := _) rfl (fun c12 => ?_) (fun c12 => ?_)
  ·
   simp [go_sem] at c12
   have hkn : k < L.length := by omega
   refine aK_ ?_
   refine hK10 _ ?_
   refine aB_ ?_
   refine aQ_ ?_
   iterate 4
    refine oC_ fun J hJ => ?_
    simp [go_sem, w2k]
    refine hJ _ _ _ ?_
   refine oN_ ?_
   refine aS_ fun K14 hK14 => ?_
   refine aB_ ?_
   refine aL_ (ι := { q : List Chg × Nat × Nat // Mx2 ordChg L k q.1 q.2.1 ∧ q.2.2 = q.2.1 + 2 * k }) (fun q => sbKChg L k q.1.1 q.1.2.1 q.1.2.2) (fun q => L.length - q.1.2.1) ⟨(blk ordChg k L.length L, 0, 2 * k), Mx2.init L k, by simp⟩ ?_ ?_
   · refine wO_ [((1, 0), some (1, 0))] (by simp [go_sem]) ?_ ?_ <;> simp [go_sem, w2k]
   intro ⟨⟨M, a, b⟩, hs, hb⟩
   try simp only at hs hb
   have hM := hs.len
   have hal := hs.le
   obtain ⟨m, hm⟩ : ∃ m, m = a + k := ⟨_, rfl⟩
   have wm : IntKind.i64.wrap ((a : Int) + (k : Int)) = (m : Int) := by rw [show (a : Int) + (k : Int) = (m : Int) by omega]; exact wA_ (by omega)
   simp only [sbKChg]
   refine aS_ fun K15 hK15 => ?_
   refine aQ_ ?_
   iterate 3
    refine oC_ fun J hJ => ?_
    simp [go_sem]
    refine hJ _ _ _ ?_
   refine oN_ ?_
   refine aC_ (t := _) rfl (fun c17 => ?_) (fun c17 => ?_)
   ·
    simp [go_sem] at c17
    obtain ⟨g1, g2, g3, g4⟩ := hs.step ho hk hm (by omega) (b := b) (by omega)
    have hr := sySChg_at 100000 M a m b (by omega) (by omega) (by omega) (by omega) g1 g2 (by omega)
    rw [hM] at hr
    have wb2 : IntKind.i64.wrap ((b : Int) + 2 * (k : Int)) = (b : Int) + 2 * (k : Int) := wA_ (by omega)
    refine aK_ ?_
    refine hK15 _ ?_
    refine aB_ ?_
    refine aQ_ ?_
    iterate 8
     refine oC_ fun J hJ => ?_
     simp [go_sem, wm, ↓hr]
     refine hJ _ _ _ ?_
    refine oN_ ?_
    refine aQ_ ?_
    iterate 2
     refine oC_ fun J hJ => ?_
     simp [go_sem]
     refine hJ _ _ _ ?_
    refine oN_ ?_
    refine aR_ ?_
    iterate 5
     refine oC_ fun J hJ => ?_
     simp [go_sem, w2k, wb2]
     refine hJ _ _ _ ?_
    refine oN_ ?_
    refine ⟨⟨(symL ordChg a m b M, b, b + 2 * k), by simp only; rw [hb] at g3 ⊢; exact g3 (by omega), rfl⟩, ?_, by simp only; omega⟩
    refine wO_ [((1, 0), some (1, 0))] (by simp [go_sem]) ?_ ?_ <;> simp [go_sem, wb2]
   ·
    simp [go_sem] at c17
    refine aX_ ?_
    simp only [go_sem]
    refine hK14 _ ?_
    refine aS_ fun K20 hK20 => ?_
    refine aQ_ ?_
    iterate 4
     refine oC_ fun J hJ => ?_
     simp [go_sem, wm]
     refine hJ _ _ _ ?_
    refine oN_ ?_
    refine aQ_ ?_
    iterate 3
     refine oC_ fun J hJ => ?_
     simp [go_sem]
     refine hJ _ _ _ ?_
    refine oN_ ?_
    refine aC_ (t := _) rfl (fun c23 => ?_) (fun c23 => ?_)
    ·
     simp [go_sem] at c23
     obtain ⟨g1, g2, g3, g4⟩ := hs.step ho hk hm (by omega) (b := L.length) (by omega)
     have hr := sySChg_at 100000 M a m L.length (by omega) (by omega) (by omega) (by omega) g1 g2 (by omega)
     rw [hM] at hr
     have hfin := g4 (by omega)
     refine aR_ ?_
     iterate 6
      refine oC_ fun J hJ => ?_
      simp [go_sem, ↓hr]
      refine hJ _ _ _ ?_
     refine oN_ ?_
     refine hK20 _ ?_
     refine aR_ ?_
     iterate 3
      refine oC_ fun J hJ => ?_
      simp [go_sem, wk2]
      refine hJ _ _ _ ?_
     refine oN_ ?_
     refine ⟨⟨k * 2, by omega, by omega⟩, ?_, by simp only; omega⟩
     refine wO_ [((1, 0), some (1, 0))] (by simp [go_sem]) ?_ ?_ <;> simp [go_sem, wk2, ← hfin]
    ·
     simp [go_sem] at c23
     have hfin : M = blk ordChg (k * 2) L.length L := hs.last ho hk (by omega)
     refine aK_ ?_
     refine hK20 _ ?_
     refine aR_ ?_
     iterate 3
      refine oC_ fun J hJ => ?_
      simp [go_sem, wk2]
      refine hJ _ _ _ ?_
     refine oN_ ?_
     refine ⟨⟨k * 2, by omega, by omega⟩, ?_, by simp only; omega⟩
     refine wO_ [((1, 0), some (1, 0))] (by simp [go_sem]) ?_ ?_ <;> simp [go_sem, wk2, ← hfin]
  ·
   simp [go_sem] at c12
   have hd : blk ordChg k L.length L = ordL ordChg L := blk_done k L hk (by omega)
   refine aX_ ?_
   simp only [go_sem]
   refine fQ_ [((1, 0), some (1, 0))] ?_
   simp [go_sem, Try.f81, hd, ordL_len]
structure soSChgX where
 L : List Chg
 hL : L.length ≤ 100000
noncomputable def soSChg : HSpec := mkH (ι := soSChgX) (fun ⟨L, _⟩ => ([.own (1, 0) L.length, .fn 64 []], [.row 26 9 (rows cChg L) false])) fun ⟨L, _⟩ => ⟨.tup [], [.row 26 9 (rows cChg (ordL ordChg L)) false], []⟩
theorem soSChg_at (L : List Chg) (hL : L.length ≤ 100000) : soSChg [.own (1, 0) L.length, .fn 64 []] [.row 26 9 (rows cChg L) false] = some ⟨.tup [], [.row 26 9 (rows cChg (ordL ordChg L)) false], []⟩ :=
 mA_ (ι := soSChgX) (fun i j h => by obtain ⟨L, hL⟩ := i; obtain ⟨L2, hL2⟩ := j; simp [rows_iff_Chg] at h; obtain rfl : L = L2 := (by first | exact h.2 | exact h); rfl) ⟨L, hL⟩
theorem soSChg_ok : HSound Try.prog 69 soSChg := by
 refine sE_ (fn := Try.f69) rfl rfl (by kernel_rfl) fun args bx hr hS => ?_
 obtain ⟨⟨L, hL⟩, rfl, rfl, rfl⟩ := mO_ hS
 refine ⟨_, (eH_ (g := 81) (by kernel_rfl) sbSChg_ok (eN_ _)), by simp [Try.f69], by simp [go_sem, ordL_len], fun w Mx pin => ?_⟩
 simp only [hB_at, lab_nil, lab_cons, hOf_nil, hOf_cons]
 refine aR_ ?_
 iterate 5
  refine oC_ fun J hJ => ?_
  simp [go_sem, sbSChg_at L hL]
  refine hJ _ _ _ ?_
 refine oN_ ?_
 refine fQ_ [((1, 0), some (1, 0))] ?_
 simp [go_sem, Try.f69, ordL_len]
end Go.Proofs.Ytebflegkdfhoaaa.AE
