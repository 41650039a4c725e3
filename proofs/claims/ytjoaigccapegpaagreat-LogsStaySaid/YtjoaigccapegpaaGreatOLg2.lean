/-
 Package vector, and ref19: contracts, first part. Conditions: none; every contract names its own.
-/
import Derived.Test.YtjoaigccapegpaaGreatOLgb
import Derived.Test.YtjoaigccapegpaaGreatORf7
import Derived.Test.YtjoaigccapegpaaGreatPc
set_option linter.constructorNameAsVariable false
namespace Go.Proofs.YtjoaigccapegpaaGreat.AE
open Go Go.Proofs Go.RowKit
set_option linter.unusedVariables false
set_option linter.unusedSimpArgs false
set_option maxRecDepth 100000
set_option maxHeartbeats 4000000
structure rAllX where
 d : List Chg
 r : List Chg
 hL : d.length + r.length ≤ 10000
noncomputable def rAllS : HSpec := mkH (ι := rAllX) (fun ⟨d, r, hL⟩ => ([.iref [.sl 9 (rows cChg d), .sl 9 (rows cChg r)] 0], [])) fun ⟨d, r, hL⟩ => ⟨.own (2, 0) (d ++ r).length, [], [.row 35 9 (rows cChg (d ++ r)) false]⟩
theorem rAllS_atG (d : List Chg) (r : List Chg) (hL : d.length + r.length ≤ 10000) : rAllS [.iref [.sl 9 (rows cChg d), .sl 9 (rows cChg r)] 0] [] = some (⟨.own (2, 0) (d ++ r).length, [], [.row 35 9 (rows cChg (d ++ r)) false]⟩) :=
 mA_ (ι := rAllX) (fun i j h => by obtain ⟨d, r, hL⟩ := i; obtain ⟨d2, r2, hL2⟩ := j; simp [and_assoc, qB_, qI_, qO_, qC_, qE_, qK_, qR_, qV_, qP_, qOc_, rows_iff_Chg] at h; obtain ⟨rfl, rfl⟩ := h; rfl) ⟨d, r, hL⟩
theorem rAllS_at (d : List Chg) (r : List Chg) (hL : d.length + r.length ≤ 10000) : rAllS [.iref [.sl 9 (rows cChg d), .sl 9 (rows cChg r)] 0] [] = some (⟨.own (2, 0) (d ++ r).length, [], [.row 35 9 (rows cChg (d ++ r)) false]⟩) := rAllS_atG d r hL
theorem rAll_ok : HSound Tryz.prog 43 rAllS := by
 refine sE_ (fn := Tryz.f43) rfl rfl (by kernel_rfl) fun args bx hr hS => ?_
 obtain ⟨⟨d, r, hL⟩, rfl, rfl, rfl⟩ := mO_ hS
 clear hS
 refine ⟨_, (eN_ _), by simp [Tryz.f43], by simp [go_sem], fun w Mx pin => ?_⟩
 simp only [hB_at, lab_nil, lab_cons, hOf_nil, hOf_cons]
 have m1 : d.length * 72 ≤ 140737488355328 := by omega
 have m2 : d.length ≤ maxLen := by simp only [maxLen]; omega
 have m3 : (d.length + r.length) * 72 ≤ 140737488355328 := by omega
 have m4 : d.length + r.length ≤ maxLen := by simp only [maxLen]; omega
 refine aQ_ ?_
 iterate 1
  refine oC_ fun J hJ => ?_
  simp [go_sem]
  refine hJ _ _ _ ?_
 refine oN_ ?_
 refine aQ_ ?_
 iterate 1
  refine oC_ fun J hJ => ?_
  simp [go_sem]
  refine hJ _ _ _ ?_
 refine oN_ ?_
 refine aQ_ ?_
 iterate 7
  refine oC_ fun J hJ => ?_
  simp [go_sem, m1, m2]
  refine hJ _ _ _ ?_
 refine oN_ ?_
 refine aQ_ ?_
 iterate 7
  refine oC_ fun J hJ => ?_
  simp [go_sem, m3, m4]
  refine hJ _ _ _ ?_
 refine oN_ ?_
 refine aQ_ ?_
 iterate 2
  refine oC_ fun J hJ => ?_
  simp [go_sem]
  refine hJ _ _ _ ?_
 refine oN_ ?_
 refine aE_ ?_
 refine fQ_ [((2, 0), some (0, 240))] ?_
 simp [go_sem, Tryz.f43]
def rLastI (i : Int) (L pre _post : List Chg) (t : Int) : St := ⟨ofL [(1, .int .i64 i), (5, .int .i64 t), (6, .sl 9 (rows cChg L)), (7, .int .i64 pre.length)], hOf []⟩
def nt (i : Int) (x : Chg) (t : Int) : Int := if x.id.rep = i ∧ t < x.time then x.time else t
structure rLastX where
 d : List Chg
 r : List Chg
 i : Int
 hL : d.length + r.length ≤ 10000
noncomputable def rLastS : HSpec := mkH (ι := rLastX) (fun ⟨d, r, i, hL⟩ => ([.iref [.sl 9 (rows cChg d), .sl 9 (rows cChg r)] 0, .int .i64 i], [])) fun ⟨d, r, i, hL⟩ => ⟨.int .i64 (lastT i (d ++ r) 0), [], []⟩
theorem rLastS_atG (d : List Chg) (r : List Chg) (i : Int) (hL : d.length + r.length ≤ 10000) : rLastS [.iref [.sl 9 (rows cChg d), .sl 9 (rows cChg r)] 0, .int .i64 i] [] = some (⟨.int .i64 (lastT i (d ++ r) 0), [], []⟩) :=
 mA_ (ι := rLastX) (fun i j h => by obtain ⟨d, r, i, hL⟩ := i; obtain ⟨d2, r2, i2, hL2⟩ := j; simp [and_assoc, qB_, qI_, qO_, qC_, qE_, qK_, qR_, qV_, qP_, qOc_, rows_iff_Chg] at h; obtain ⟨rfl, rfl, rfl⟩ := h; rfl) ⟨d, r, i, hL⟩
theorem rLastS_at (d : List Chg) (r : List Chg) (i : Int) (hL : d.length + r.length ≤ 10000) : rLastS [.iref [.sl 9 (rows cChg d), .sl 9 (rows cChg r)] 0, .int .i64 i] [] = some (⟨.int .i64 (lastT i (d ++ r) 0), [], []⟩) := rLastS_atG d r i hL
theorem rLast_ok : HSound Tryz.prog 55 rLastS := by
 refine sE_ (fn := Tryz.f55) rfl rfl (by kernel_rfl) fun args bx hr hS => ?_
 obtain ⟨⟨d, r, i, hL⟩, rfl, rfl, rfl⟩ := mO_ hS
 clear hS
 refine ⟨_, (eV_ (g := 43) (by kernel_rfl) rAll_ok (eN_ _)), by simp [Tryz.f55], by simp [go_sem], fun w Mx pin => ?_⟩
 simp only [hB_at, lab_nil, lab_cons, hOf_nil, hOf_cons]
 obtain ⟨L, hLd⟩ : ∃ L, L = d ++ r := ⟨_, rfl⟩
 have e6 : L.length ≤ 100000 := by rw [hLd]; simp; omega
 refine aQ_ ?_
 iterate 1
  refine oC_ fun J hJ => ?_
  simp [go_sem]
  refine hJ _ _ _ ?_
 refine oN_ ?_
 refine aQ_ ?_
 iterate 1
  refine oC_ fun J hJ => ?_
  simp [go_sem]
  refine hJ _ _ _ ?_
 refine oN_ ?_
 refine aQ_ ?_
 iterate 3
  refine oC_ fun J hJ => ?_
  simp [go_sem, rAllS_at d r hL, ← hLd]
  refine hJ _ _ _ ?_
 refine oN_ ?_
 refine aS_ fun K4 hK4 => ?_
 refine aQ_ ?_
 iterate 1
  refine oC_ fun J hJ => ?_
  simp [go_sem]
  refine hJ _ _ _ ?_
 refine oN_ ?_
 refine aB_ ?_
 refine aL_ (ι := { q : List Chg × List Chg × Int // q.1 ++ q.2.1 = L ∧ lastT i q.2.1 q.2.2 = lastT i L 0 }) (fun q => rLastI i L q.1.1 q.1.2.1 q.1.2.2) (fun q => q.1.2.1.length) ⟨([], L, 0), rfl, rfl⟩ ?_ ?_
 · refine wO_ [] (by simp [go_sem]) ?_ ?_ <;> simp [go_sem]
 intro ⟨⟨pre, post, t⟩, hl, hgo⟩
 simp only at hl hgo
 have hpl := lS_ hl e6
 simp only [rLastI]
 refine aS_ fun K6 hK6 => ?_
 refine aQ_ ?_
 iterate 4
  refine oC_ fun J hJ => ?_
  simp [go_sem]
  refine hJ _ _ _ ?_
 refine oN_ ?_
 refine aC_ (t := _) rfl (fun c8 => ?_) (fun c8 => ?_)
 ·
  simp [go_sem] at c8
  obtain ⟨x, post, rfl, hx⟩ := mL_ hl c8
  refine aK_ ?_
  refine hK6 _ ?_
  refine aS_ fun K9 hK9 => ?_
  refine aB_ ?_
  refine aS_ fun K10 hK10 => ?_
  cases g0 : (x.id.rep == i)
  ·
   have hnt : nt i x t = t := by simp at g0; exact if_neg (by simp [g0])
   refine aR_ ?_
   iterate 17
    refine oC_ fun J hJ => ?_
    simp [go_sem, hx, g0]
    refine hJ _ _ _ ?_
   refine oN_ ?_
   refine hK10 _ ?_
   refine aF_ rfl ?_
   refine aK_ ?_
   refine hK9 _ ?_
   refine aR_ ?_
   iterate 3
    refine oC_ fun J hJ => ?_
    simp [go_sem]
    refine hJ _ _ _ ?_
   refine oN_ ?_
   refine ⟨⟨(pre ++ [x], post, nt i x t), by simp [← hl], by rw [← hgo]; rfl⟩, ?_, by simp⟩
   refine wO_ [] (by simp [go_sem]) ?_ ?_ <;> simp [go_sem, wN_ hpl, ↓hnt]
  ·
   simp at g0
   refine aR_ ?_
   iterate 17
    refine oC_ fun J hJ => ?_
    simp [go_sem, hx, g0]
    refine hJ _ _ _ ?_
   refine oN_ ?_
   refine hK10 _ ?_
   refine aC_ (t := _) rfl (fun c11 => ?_) (fun c11 => ?_)
   ·
    simp [go_sem] at c11
    have hnt : nt i x t = x.time := if_pos ⟨g0, c11⟩
    refine aR_ ?_
    iterate 6
     refine oC_ fun J hJ => ?_
     simp [go_sem, hx]
     refine hJ _ _ _ ?_
    refine oN_ ?_
    refine hK9 _ ?_
    refine aR_ ?_
    iterate 3
     refine oC_ fun J hJ => ?_
     simp [go_sem]
     refine hJ _ _ _ ?_
    refine oN_ ?_
    refine ⟨⟨(pre ++ [x], post, nt i x t), by simp [← hl], by rw [← hgo]; rfl⟩, ?_, by simp⟩
    refine wO_ [] (by simp [go_sem]) ?_ ?_ <;> simp [go_sem, wN_ hpl, ↓hnt]
   ·
    simp [go_sem] at c11
    have hnt : nt i x t = t := if_neg (by omega)
    refine aK_ ?_
    refine hK9 _ ?_
    refine aR_ ?_
    iterate 3
     refine oC_ fun J hJ => ?_
     simp [go_sem]
     refine hJ _ _ _ ?_
    refine oN_ ?_
    refine ⟨⟨(pre ++ [x], post, nt i x t), by simp [← hl], by rw [← hgo]; rfl⟩, ?_, by simp⟩
    refine wO_ [] (by simp [go_sem]) ?_ ?_ <;> simp [go_sem, wN_ hpl, ↓hnt]
 ·
  simp [go_sem] at c8
  obtain ⟨rfl, rfl⟩ := mN_ hl c8
  simp only [lastT] at hgo
  refine aX_ ?_
  simp only [go_sem]
  refine hK4 _ ?_
  refine aQ_ ?_
  iterate 2
   refine oC_ fun J hJ => ?_
   simp [go_sem]
   refine hJ _ _ _ ?_
  refine oN_ ?_
  refine aE_ ?_
  refine fQ_ [] ?_
  simp [go_sem, Tryz.f55, ← hLd, hgo]
structure rKnownX where
 d : List Chg
 r : List Chg
 hL : (d.length + r.length ≤ 10000) ∧ ∀ c ∈ d ++ r, 0 ≤ c.id.rep ∧ c.id.rep < 4
noncomputable def rKnownS : HSpec := mkH (ι := rKnownX) (fun ⟨d, r, hL⟩ => ([.iref [.sl 9 (rows cChg d), .sl 9 (rows cChg r)] 0], [])) fun ⟨d, r, hL⟩ => ⟨.agg (cV (AE.knownR (d ++ r) (zV 4))), [], []⟩
theorem rKnownS_atG (d : List Chg) (r : List Chg) (hL : (d.length + r.length ≤ 10000) ∧ ∀ c ∈ d ++ r, 0 ≤ c.id.rep ∧ c.id.rep < 4) : rKnownS [.iref [.sl 9 (rows cChg d), .sl 9 (rows cChg r)] 0] [] = some (⟨.agg (cV (AE.knownR (d ++ r) (zV 4))), [], []⟩) :=
 mA_ (ι := rKnownX) (fun i j h => by obtain ⟨d, r, hL⟩ := i; obtain ⟨d2, r2, hL2⟩ := j; simp [and_assoc, qB_, qI_, qO_, qC_, qE_, qK_, qR_, qV_, qP_, qOc_, rows_iff_Chg] at h; obtain ⟨rfl, rfl⟩ := h; rfl) ⟨d, r, hL⟩
theorem rKnownS_at (d : List Chg) (r : List Chg) (hL : (d.length + r.length ≤ 10000) ∧ ∀ c ∈ d ++ r, 0 ≤ c.id.rep ∧ c.id.rep < 4) : rKnownS [.iref [.sl 9 (rows cChg d), .sl 9 (rows cChg r)] 0] [] = some (⟨.agg (cV (AE.knownR (d ++ r) (zV 4))), [], []⟩) := rKnownS_atG d r hL
def nr (x : Chg) (v : Vn 4) : Vn 4 := if v.at x.id.rep.toNat < x.id.seq then v.put x.id.rep.toNat x.id.seq else v
def rKnownI (L : List Chg) (pre _post : List Chg) (v : Vn 4) : St := ⟨ofL [(2, .ref (0, 32) 0), (3, .ref (0, 48) 0), (4, .sl 9 (rows cChg L)), (5, .int .i64 pre.length)], hOf [((0, 32), .obj (cV (zV 4))), ((0, 48), .obj (cV v))]⟩
theorem rKnown_ok : HSound Tryz.prog 41 rKnownS := by
 refine sE_ (fn := Tryz.f41) rfl rfl (by kernel_rfl) fun args bx hr hS => ?_
 obtain ⟨⟨d, r, hL⟩, rfl, rfl, rfl⟩ := mO_ hS
 clear hS
 refine ⟨_, (eV_ (g := 43) (by kernel_rfl) rAll_ok (eN_ _)), by simp [Tryz.f41], by simp [go_sem], fun w Mx pin => ?_⟩
 simp only [hB_at, lab_nil, lab_cons, hOf_nil, hOf_cons]
 obtain ⟨hL, hrep⟩ := hL
 obtain ⟨L, hLd⟩ : ∃ L, L = d ++ r := ⟨_, rfl⟩
 have e6 : L.length ≤ 100000 := by rw [hLd]; simp; omega
 rw [← hLd] at hrep
 refine aQ_ ?_
 iterate 1
  refine oC_ fun J hJ => ?_
  simp [go_sem]
  refine hJ _ _ _ ?_
 refine oN_ ?_
 refine aQ_ ?_
 iterate 1
  refine oC_ fun J hJ => ?_
  simp [go_sem]
  refine hJ _ _ _ ?_
 refine oN_ ?_
 refine aQ_ ?_
 iterate 3
  refine oC_ fun J hJ => ?_
  simp [go_sem, rAllS_at d r hL, ← hLd]
  refine hJ _ _ _ ?_
 refine oN_ ?_
 refine aS_ fun K4 hK4 => ?_
 refine aQ_ ?_
 iterate 1
  refine oC_ fun J hJ => ?_
  simp [go_sem]
  refine hJ _ _ _ ?_
 refine oN_ ?_
 refine aB_ ?_
 refine aL_ (ι := { q : List Chg × List Chg × Vn 4 // q.1 ++ q.2.1 = L ∧ AE.knownR q.2.1 q.2.2 = AE.knownR L (zV 4) }) (fun q => rKnownI L q.1.1 q.1.2.1 q.1.2.2) (fun q => q.1.2.1.length) ⟨([], L, zV 4), rfl, rfl⟩ ?_ ?_
 · refine wO_ [((0, 32), some (0, 32)), ((0, 48), some (0, 48))] (by simp [go_sem]) ?_ ?_ <;> simp [go_sem]
 intro ⟨⟨pre, post, v⟩, hl, hgo⟩
 simp only at hl hgo
 have hpl := lS_ hl e6
 simp only [rKnownI]
 refine aS_ fun K6 hK6 => ?_
 refine aQ_ ?_
 iterate 4
  refine oC_ fun J hJ => ?_
  simp [go_sem]
  refine hJ _ _ _ ?_
 refine oN_ ?_
 refine aC_ (t := _) rfl (fun c8 => ?_) (fun c8 => ?_)
 ·
  simp [go_sem] at c8
  obtain ⟨x, post, rfl, hx⟩ := mL_ hl c8
  obtain ⟨h0, h4⟩ := hrep x (by rw [← hl]; simp)
  have h5 : x.id.rep.toNat < 4 := by omega
  have h6 : x.id.rep ≤ 3 := by omega
  refine aK_ ?_
  refine hK6 _ ?_
  refine aS_ fun K9 hK9 => ?_
  refine aB_ ?_
  refine aU_ ?_
  iterate 15
   refine oC_ fun J hJ => ?_
   simp [go_sem, hx, h0, h4, h5, h6]
   refine hJ _ _ _ ?_
  refine oN_ ?_
  refine ⟨rfl, ?_⟩
  refine aC_ (t := _) rfl (fun c11 => ?_) (fun c11 => ?_)
  ·
   simp [go_sem] at c11
   have hnr : nr x v = v.put x.id.rep.toNat x.id.seq := if_pos (by omega)
   refine aD_ ?_
   iterate 14
    refine oC_ fun J hJ => ?_
    simp [go_sem, hx, h0, h4, h5, h6, cV_over]
    refine hJ _ _ _ ?_
   refine oN_ ?_
   refine ⟨rfl, ?_⟩
   refine hK9 _ ?_
   refine aR_ ?_
   iterate 3
    refine oC_ fun J hJ => ?_
    simp [go_sem]
    refine hJ _ _ _ ?_
   refine oN_ ?_
   refine ⟨⟨(pre ++ [x], post, nr x v), by simp [← hl], by rw [← hgo]; rfl⟩, ?_, by simp⟩
   refine wO_ [((0, 32), some (0, 32)), ((0, 48), some (0, 48))] (by simp [go_sem]) ?_ ?_ <;> simp [go_sem, wN_ hpl, ↓hnr]
  ·
   simp [go_sem] at c11
   have hnr : nr x v = v := if_neg (by omega)
   refine aK_ ?_
   refine hK9 _ ?_
   refine aR_ ?_
   iterate 3
    refine oC_ fun J hJ => ?_
    simp [go_sem]
    refine hJ _ _ _ ?_
   refine oN_ ?_
   refine ⟨⟨(pre ++ [x], post, nr x v), by simp [← hl], by rw [← hgo]; rfl⟩, ?_, by simp⟩
   refine wO_ [((0, 32), some (0, 32)), ((0, 48), some (0, 48))] (by simp [go_sem]) ?_ ?_ <;> simp [go_sem, wN_ hpl, ↓hnr]
 ·
  simp [go_sem] at c8
  obtain ⟨rfl, rfl⟩ := mN_ hl c8
  simp only [AE.knownR] at hgo
  refine aX_ ?_
  simp only [go_sem]
  refine hK4 _ ?_
  refine aQ_ ?_
  iterate 2
   refine oC_ fun J hJ => ?_
   simp [go_sem]
   refine hJ _ _ _ ?_
  refine oN_ ?_
  refine aE_ ?_
  refine fQ_ [] ?_
  simp [go_sem, Tryz.f41, ← hLd, hgo]
theorem runRZ_bD (L : List Chg) (h : L.length ≤ 20000) : runRS [.agg (cBk zBk .nils), .sl 9 (rows cChg L)] [] = some ⟨.tup [.agg (cBk (bD L).1 (.sl 7 (rows cOrd (bD L).2))), .own (2, 0) L.length], [], [.row 50 2 (rows cOc (oD L)) false]⟩ := runRS_atG zBk [] .nils L _ .nil .sl ⟨fairZ.1, fairZ.2, by simp; omega⟩
def zOc : Outc := ⟨0, []⟩
def outG (d r : List Chg) (a : Id) : Outc := if placeC (d ++ r) a < 0 then zOc else ((oD (d ++ r))[(placeC (d ++ r) a).toNat]?).getD zOc
def goodG (d r : List Chg) (a : Id) : Bool := decide (0 ≤ placeC (d ++ r) a ∧ placeC (d ++ r) a < d.length)
def wasG (d r : List Chg) (a : Id) : Bool := decide (0 ≤ placeC (d ++ r) a)
end Go.Proofs.YtjoaigccapegpaaGreat.AE
