/-
 slices.Clone, IndexFunc at structs. Conditions: none; every contract names its own.
-/
import Derived.Test.YtebflegkdfhoaaaPe
set_option linter.constructorNameAsVariable false
namespace Go.Proofs.Ytebflegkdfhoaaa.AE
open Go Go.Proofs Go.RowKit
set_option linter.unusedVariables false
set_option linter.unusedSimpArgs false
set_option maxRecDepth 100000
set_option maxHeartbeats 4000000
structure cloneOrdX where
 L : List Ord
 L' : AV
 h_L : SlA 7 cOrd L L'
 hL : L.length ≤ 100000
noncomputable def cloneOrdS : HSpec := mkH (ι := cloneOrdX) (fun ⟨L, L', h_L, hL⟩ => ([L'], [])) fun ⟨L, L', h_L, hL⟩ => ⟨.own (2, 0) L.length, [], [.row 53 7 (rows cOrd L) false]⟩
theorem cloneOrdS_atG (L : List Ord) (L' : AV) (h_L : SlA 7 cOrd L L') (hL : L.length ≤ 100000) : cloneOrdS [L'] [] = some (⟨.own (2, 0) L.length, [], [.row 53 7 (rows cOrd L) false]⟩) :=
 mA_ (ι := cloneOrdX) (fun i j h => by obtain ⟨L, L', h_L, hL⟩ := i; obtain ⟨L2, L'2, h_L2, hL2⟩ := j; simp [and_assoc, qB_, qI_, qO_, qC_, qE_, qK_, qR_, qV_, qP_, qOc_] at h; obtain rfl := h; obtain rfl := SlA.inj (fun x y h => cOrd_inj h) h_L h_L2; rfl) ⟨L, L', h_L, hL⟩
theorem cloneOrdS_at (L : List Ord) (hL : L.length ≤ 100000) : cloneOrdS [(.sl 7 (rows cOrd L))] [] = some (⟨.own (2, 0) L.length, [], [.row 53 7 (rows cOrd L) false]⟩) := cloneOrdS_atG L _ .sl hL
theorem cloneOrdS_atN : cloneOrdS [.nils] [] = some ((fun (L : List Ord) => ⟨.own (2, 0) L.length, [], [.row 53 7 (rows cOrd L) false]⟩) []) := cloneOrdS_atG [] _ .nil (by simp)
theorem cloneOrd_ok : HSound Try.prog 58 cloneOrdS := by
 refine sE_ (fn := Try.f58) rfl rfl (by kernel_rfl) fun args bx hr hS => ?_
 obtain ⟨⟨L, L', h_L, hL⟩, rfl, rfl, rfl⟩ := mO_ hS
 clear hS
 refine ⟨_, (eN_ _), by simp [Try.f58], by simp [go_sem], fun w Mx pin => ?_⟩
 simp only [hB_at, lab_nil, lab_cons, hOf_nil, hOf_cons]
 refine aW_ (s' := ⟨ofL [(0, (.sl 7 (rows cOrd L)))], hOf []⟩) ?_ ?_
 · cases h_L <;> exact wO_ [] (by simp [go_sem]) (by simp [go_sem]) (by simp [go_sem])
 clear h_L
 refine aQ_ ?_
 iterate 1
  refine oC_ fun J hJ => ?_
  simp [go_sem]
  refine hJ _ _ _ ?_
 refine oN_ ?_
 refine aS_ fun K2 hK2 => ?_
 refine aQ_ ?_
 iterate 2
  refine oC_ fun J hJ => ?_
  simp [go_sem]
  refine hJ _ _ _ ?_
 refine oN_ ?_
 refine awp_condNil rfl (fun c4 => ?_) ?_
 ·
  rw [rows_eq_nil] at c4
  refine aQ_ ?_
  iterate 1
   refine oC_ fun J hJ => ?_
   simp [go_sem]
   refine hJ _ _ _ ?_
  refine oN_ ?_
  refine aE_ ?_
  refine fQ_ [((2, 0), none)] ?_
  simp [go_sem, Try.f58, c4]
 ·
  refine aK_ ?_
  refine hK2 _ ?_
  refine aQ_ ?_
  iterate 4
   refine oC_ fun J hJ => ?_
   simp [go_sem, show L.length * 56 ≤ 140737488355328 by omega, show L.length ≤ maxLen by simp only [maxLen]; omega]
   refine hJ _ _ _ ?_
  refine oN_ ?_
  refine aE_ ?_
  refine fQ_ [((2, 0), some (0, 16 * 7))] ?_
  simp [go_sem, Try.f58]
structure indexOrdX where
 L : List Ord
 hL : L.length ≤ 100000
noncomputable def indexOrdS (g : FuncId) (caps : List AV) (p : Ord → Bool) : HSpec := mkH (ι := indexOrdX) (fun ⟨L, _⟩ => ([.sl 7 (rows cOrd L), .fn g caps], [])) fun ⟨L, _⟩ => ⟨.int .i64 (idxL p L 0), [], []⟩
theorem indexOrdS_at (g : FuncId) (caps : List AV) (p : Ord → Bool) (L : List Ord) (hL : L.length ≤ 100000) : indexOrdS g caps p [.sl 7 (rows cOrd L), .fn g caps] [] = some ⟨.int .i64 (idxL p L 0), [], []⟩ :=
 mA_ (ι := indexOrdX) (fun i j h => by obtain ⟨L, hL⟩ := i; obtain ⟨M, hM⟩ := j; simp [rows_iff_Ord] at h; simp [h]) ⟨L, hL⟩
def indexOrdI (g : FuncId) (caps : List AV) (L pre _post : List Ord) : St := ⟨ofL [(0, .sl 7 (rows cOrd L)), (1, .fn g caps), (7, .int .i64 L.length), (8, .int .i64 pre.length)], hOf []⟩
theorem indexOrd_ok (g : FuncId) (caps : List AV) (p : Ord → Bool) (Sg : HSpec) (he : entersB Try.prog g = true) (hG : HSound Try.prog g Sg) (hp : ∀ x, Sg (.agg (cOrd x) :: caps) [] = some ⟨.bool (p x), [], []⟩) (hv : ∀ H, caps.map (view H 3) = caps) (hcl : ∀ H0 H, le.leC H0 H [] caps caps = True) : HSound Try.prog 72 (indexOrdS g caps p) := by
 refine sE_ (fn := Try.f72) rfl rfl (by kernel_rfl) fun args bx hr hS => ?_
 obtain ⟨⟨L, hL⟩, rfl, rfl, rfl⟩ := mO_ hS
 refine ⟨_, (eV_ (g := g) he hG (eN_ _)), by simp [Try.f72], by simp [go_sem], fun w Mx pin => ?_⟩
 simp only [hB_at, lab_nil, lab_cons, hOf_nil, hOf_cons]
 refine aQ_ ?_
 iterate 1
  refine oC_ fun J hJ => ?_
  simp [go_sem]
  refine hJ _ _ _ ?_
 refine oN_ ?_
 refine aS_ fun K2 hK2 => ?_
 refine aQ_ ?_
 iterate 3
  refine oC_ fun J hJ => ?_
  simp [go_sem]
  refine hJ _ _ _ ?_
 refine oN_ ?_
 refine aB_ ?_
 refine aL_ (ι := { q : List Ord × List Ord // q.1 ++ q.2 = L ∧ idxL p q.2 q.1.length = idxL p L 0 }) (fun q => indexOrdI g caps L q.1.1 q.1.2) (fun q => q.1.2.length) ⟨([], L), rfl, rfl⟩ ?_ ?_
 · refine wO_ [] (by simp [go_sem]) ?_ ?_ <;> simp [go_sem, hcl]
 intro ⟨⟨pre, post⟩, hl, hgo⟩
 simp only at hl hgo
 have hpl := lS_ hl hL
 simp only [indexOrdI]
 refine aQ_ ?_
 iterate 1
  refine oC_ fun J hJ => ?_
  simp [go_sem]
  refine hJ _ _ _ ?_
 refine oN_ ?_
 refine aS_ fun K5 hK5 => ?_
 refine aC_ (t := _) rfl (fun c6 => ?_) (fun c6 => ?_)
 ·
  simp [go_sem] at c6
  obtain ⟨x, post, rfl, hx⟩ := mL_ hl c6
  refine aK_ ?_
  refine hK5 _ ?_
  refine aS_ fun K7 hK7 => ?_
  refine aB_ ?_
  refine aQ_ ?_
  iterate 2
   refine oC_ fun J hJ => ?_
   simp [go_sem]
   refine hJ _ _ _ ?_
  refine oN_ ?_
  refine aQ_ ?_
  iterate 6
   refine oC_ fun J hJ => ?_
   simp [go_sem, hp, hv, hx]
   refine hJ _ _ _ ?_
  refine oN_ ?_
  refine aC_ (t := _) rfl (fun c10 => ?_) (fun c10 => ?_)
  ·
   refine aQ_ ?_
   iterate 2
    refine oC_ fun J hJ => ?_
    simp [go_sem]
    refine hJ _ _ _ ?_
   refine oN_ ?_
   refine aE_ ?_
   refine fQ_ [] ?_
   simp [go_sem, Try.f72, ← hgo, idxL, c10]
  ·
   refine aK_ ?_
   refine hK7 _ ?_
   refine aR_ ?_
   iterate 2
    refine oC_ fun J hJ => ?_
    simp [go_sem]
    refine hJ _ _ _ ?_
   refine oN_ ?_
   refine ⟨⟨(pre ++ [x], post), by simp [← hl], by rw [← hgo]; simp [idxL, c10]⟩, ?_, by simp⟩
   refine wO_ [] (by simp [go_sem]) ?_ ?_ <;> simp [go_sem, wN_ hpl, hcl]
 ·
  simp [go_sem] at c6
  obtain ⟨rfl, rfl⟩ := mN_ hl c6
  refine aX_ ?_
  simp only [go_sem]
  refine hK2 _ ?_
  refine aQ_ ?_
  iterate 1
   refine oC_ fun J hJ => ?_
   simp [go_sem]
   refine hJ _ _ _ ?_
  refine oN_ ?_
  refine aE_ ?_
  refine fQ_ [] ?_
  simp [go_sem, Try.f72, ← hgo, idxL]
structure cloneChgX where
 L : List Chg
 L' : AV
 h_L : SlA 9 cChg L L'
 hL : L.length ≤ 100000
noncomputable def cloneChgS : HSpec := mkH (ι := cloneChgX) (fun ⟨L, L', h_L, hL⟩ => ([L'], [])) fun ⟨L, L', h_L, hL⟩ => ⟨.own (2, 0) L.length, [], [.row 26 9 (rows cChg L) false]⟩
theorem cloneChgS_atG (L : List Chg) (L' : AV) (h_L : SlA 9 cChg L L') (hL : L.length ≤ 100000) : cloneChgS [L'] [] = some (⟨.own (2, 0) L.length, [], [.row 26 9 (rows cChg L) false]⟩) :=
 mA_ (ι := cloneChgX) (fun i j h => by obtain ⟨L, L', h_L, hL⟩ := i; obtain ⟨L2, L'2, h_L2, hL2⟩ := j; simp [and_assoc, qB_, qI_, qO_, qC_, qE_, qK_, qR_, qV_, qP_, qOc_] at h; obtain rfl := h; obtain rfl := SlA.inj (fun x y h => cChg_inj h) h_L h_L2; rfl) ⟨L, L', h_L, hL⟩
theorem cloneChgS_at (L : List Chg) (hL : L.length ≤ 100000) : cloneChgS [(.sl 9 (rows cChg L))] [] = some (⟨.own (2, 0) L.length, [], [.row 26 9 (rows cChg L) false]⟩) := cloneChgS_atG L _ .sl hL
theorem cloneChgS_atN : cloneChgS [.nils] [] = some ((fun (L : List Chg) => ⟨.own (2, 0) L.length, [], [.row 26 9 (rows cChg L) false]⟩) []) := cloneChgS_atG [] _ .nil (by simp)
theorem cloneChg_ok : HSound Try.prog 54 cloneChgS := by
 refine sE_ (fn := Try.f54) rfl rfl (by kernel_rfl) fun args bx hr hS => ?_
 obtain ⟨⟨L, L', h_L, hL⟩, rfl, rfl, rfl⟩ := mO_ hS
 clear hS
 refine ⟨_, (eN_ _), by simp [Try.f54], by simp [go_sem], fun w Mx pin => ?_⟩
 simp only [hB_at, lab_nil, lab_cons, hOf_nil, hOf_cons]
 refine aW_ (s' := ⟨ofL [(0, (.sl 9 (rows cChg L)))], hOf []⟩) ?_ ?_
 · cases h_L <;> exact wO_ [] (by simp [go_sem]) (by simp [go_sem]) (by simp [go_sem])
 clear h_L
 refine aQ_ ?_
 iterate 1
  refine oC_ fun J hJ => ?_
  simp [go_sem]
  refine hJ _ _ _ ?_
 refine oN_ ?_
 refine aS_ fun K2 hK2 => ?_
 refine aQ_ ?_
 iterate 2
  refine oC_ fun J hJ => ?_
  simp [go_sem]
  refine hJ _ _ _ ?_
 refine oN_ ?_
 refine awp_condNil rfl (fun c4 => ?_) ?_
 ·
  rw [rows_eq_nil] at c4
  refine aQ_ ?_
  iterate 1
   refine oC_ fun J hJ => ?_
   simp [go_sem]
   refine hJ _ _ _ ?_
  refine oN_ ?_
  refine aE_ ?_
  refine fQ_ [((2, 0), none)] ?_
  simp [go_sem, Try.f54, c4]
 ·
  refine aK_ ?_
  refine hK2 _ ?_
  refine aQ_ ?_
  iterate 4
   refine oC_ fun J hJ => ?_
   simp [go_sem, show L.length * 72 ≤ 140737488355328 by omega, show L.length ≤ maxLen by simp only [maxLen]; omega]
   refine hJ _ _ _ ?_
  refine oN_ ?_
  refine aE_ ?_
  refine fQ_ [((2, 0), some (0, 16 * 7))] ?_
  simp [go_sem, Try.f54]
structure indexChgX where
 L : List Chg
 hL : L.length ≤ 100000
noncomputable def indexChgS (g : FuncId) (caps : List AV) (p : Chg → Bool) : HSpec := mkH (ι := indexChgX) (fun ⟨L, _⟩ => ([.sl 9 (rows cChg L), .fn g caps], [])) fun ⟨L, _⟩ => ⟨.int .i64 (idxL p L 0), [], []⟩
theorem indexChgS_at (g : FuncId) (caps : List AV) (p : Chg → Bool) (L : List Chg) (hL : L.length ≤ 100000) : indexChgS g caps p [.sl 9 (rows cChg L), .fn g caps] [] = some ⟨.int .i64 (idxL p L 0), [], []⟩ :=
 mA_ (ι := indexChgX) (fun i j h => by obtain ⟨L, hL⟩ := i; obtain ⟨M, hM⟩ := j; simp [rows_iff_Chg] at h; simp [h]) ⟨L, hL⟩
def indexChgI (g : FuncId) (caps : List AV) (L pre _post : List Chg) : St := ⟨ofL [(0, .sl 9 (rows cChg L)), (1, .fn g caps), (7, .int .i64 L.length), (8, .int .i64 pre.length)], hOf []⟩
theorem indexChg_ok (g : FuncId) (caps : List AV) (p : Chg → Bool) (Sg : HSpec) (he : entersB Try.prog g = true) (hG : HSound Try.prog g Sg) (hp : ∀ x, Sg (.agg (cChg x) :: caps) [] = some ⟨.bool (p x), [], []⟩) (hv : ∀ H, caps.map (view H 3) = caps) (hcl : ∀ H0 H, le.leC H0 H [] caps caps = True) : HSound Try.prog 67 (indexChgS g caps p) := by
 refine sE_ (fn := Try.f67) rfl rfl (by kernel_rfl) fun args bx hr hS => ?_
 obtain ⟨⟨L, hL⟩, rfl, rfl, rfl⟩ := mO_ hS
 refine ⟨_, (eV_ (g := g) he hG (eN_ _)), by simp [Try.f67], by simp [go_sem], fun w Mx pin => ?_⟩
 simp only [hB_at, lab_nil, lab_cons, hOf_nil, hOf_cons]
 refine aQ_ ?_
 iterate 1
  refine oC_ fun J hJ => ?_
  simp [go_sem]
  refine hJ _ _ _ ?_
 refine oN_ ?_
 refine aS_ fun K2 hK2 => ?_
 refine aQ_ ?_
 iterate 3
  refine oC_ fun J hJ => ?_
  simp [go_sem]
  refine hJ _ _ _ ?_
 refine oN_ ?_
 refine aB_ ?_
 refine aL_ (ι := { q : List Chg × List Chg // q.1 ++ q.2 = L ∧ idxL p q.2 q.1.length = idxL p L 0 }) (fun q => indexChgI g caps L q.1.1 q.1.2) (fun q => q.1.2.length) ⟨([], L), rfl, rfl⟩ ?_ ?_
 · refine wO_ [] (by simp [go_sem]) ?_ ?_ <;> simp [go_sem, hcl]
 intro ⟨⟨pre, post⟩, hl, hgo⟩
 simp only at hl hgo
 have hpl := lS_ hl hL
 simp only [indexChgI]
 refine aQ_ ?_
 iterate 1
  refine oC_ fun J hJ => ?_
  simp [go_sem]
  refine hJ _ _ _ ?_
 refine oN_ ?_
 refine aS_ fun K5 hK5 => ?_
 refine aC_ (t := _) rfl (fun c6 => ?_) (fun c6 => ?_)
 ·
  simp [go_sem] at c6
  obtain ⟨x, post, rfl, hx⟩ := mL_ hl c6
  refine aK_ ?_
  refine hK5 _ ?_
  refine aS_ fun K7 hK7 => ?_
  refine aB_ ?_
  refine aQ_ ?_
  iterate 2
   refine oC_ fun J hJ => ?_
   simp [go_sem]
   refine hJ _ _ _ ?_
  refine oN_ ?_
  refine aQ_ ?_
  iterate 6
   refine oC_ fun J hJ => ?_
   simp [go_sem, hp, hv, hx]
   refine hJ _ _ _ ?_
  refine oN_ ?_
  refine aC_ (t := _) rfl (fun c10 => ?_) (fun c10 => ?_)
  ·
   refine aQ_ ?_
   iterate 2
    refine oC_ fun J hJ => ?_
    simp [go_sem]
    refine hJ _ _ _ ?_
   refine oN_ ?_
   refine aE_ ?_
   refine fQ_ [] ?_
   simp [go_sem, Try.f67, ← hgo, idxL, c10]
  ·
   refine aK_ ?_
   refine hK7 _ ?_
   refine aR_ ?_
   iterate 2
    refine oC_ fun J hJ => ?_
    simp [go_sem]
    refine hJ _ _ _ ?_
   refine oN_ ?_
   refine ⟨⟨(pre ++ [x], post), by simp [← hl], by rw [← hgo]; simp [idxL, c10]⟩, ?_, by simp⟩
   refine wO_ [] (by simp [go_sem]) ?_ ?_ <;> simp [go_sem, wN_ hpl, hcl]
 ·
  simp [go_sem] at c6
  obtain ⟨rfl, rfl⟩ := mN_ hl c6
  refine aX_ ?_
  simp only [go_sem]
  refine hK2 _ ?_
  refine aQ_ ?_
  iterate 1
   refine oC_ fun J hJ => ?_
   simp [go_sem]
   refine hJ _ _ _ ?_
  refine oN_ ?_
  refine aE_ ?_
  refine fQ_ [] ?_
  simp [go_sem, Try.f67, ← hgo, idxL]
end Go.Proofs.Ytebflegkdfhoaaa.AE
