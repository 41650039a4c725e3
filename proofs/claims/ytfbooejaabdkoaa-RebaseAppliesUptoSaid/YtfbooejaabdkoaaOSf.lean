/-
 Where an Id stands. Conditions: none; every contract names its own.
-/
import Derived.Test.YtfbooejaabdkoaaPe
set_option linter.constructorNameAsVariable false
namespace Go.Proofs.Ytfbooejaabdkoaa.AE
open Go Go.Proofs Go.RowKit
set_option linter.unusedVariables false
set_option linter.unusedSimpArgs false
set_option maxRecDepth 100000
set_option maxHeartbeats 4000000
def isChg (a : Id) (x : Chg) : Bool := decide (x.id = a)
def placeC (l : List Chg) (a : Id) : Int := idxL (isChg a) l 0
structure indexChgX where
 L : List Chg
 hL : L.length ≤ 100000
noncomputable def indexChgS (g : FuncId) (caps : List AV) (p : Chg → Bool) : HSpec := mkH (ι := indexChgX) (fun ⟨L, _⟩ => ([.sl 9 (rows cChg L), .fn g caps], [])) fun ⟨L, _⟩ => ⟨.int .i64 (idxL p L 0), [], []⟩
theorem indexChgS_at (g : FuncId) (caps : List AV) (p : Chg → Bool) (L : List Chg) (hL : L.length ≤ 100000) : indexChgS g caps p [.sl 9 (rows cChg L), .fn g caps] [] = some ⟨.int .i64 (idxL p L 0), [], []⟩ :=
 mA_ (ι := indexChgX) (fun i j h => by obtain ⟨L, hL⟩ := i; obtain ⟨M, hM⟩ := j; simp [rows_iff_Chg] at h; simp [h]) ⟨L, hL⟩
def indexChgI (g : FuncId) (caps : List AV) (L pre _post : List Chg) : St := ⟨ofL [(0, .sl 9 (rows cChg L)), (1, .fn g caps), (7, .int .i64 L.length), (8, .int .i64 pre.length)], hOf []⟩
theorem indexChg_ok (g : FuncId) (caps : List AV) (p : Chg → Bool) (Sg : HSpec) (he : entersB Try.prog g = true) (hG : HSound Try.prog g Sg) (hp : ∀ x, Sg (.agg (cChg x) :: caps) [] = some ⟨.bool (p x), [], []⟩) (hv : ∀ H, caps.map (view H 3) = caps) (hcl : ∀ H0 H, le.leC H0 H [] caps caps = True) : HSound Try.prog 66 (indexChgS g caps p) := by
 refine sE_ (fn := Try.f66) rfl rfl (by kernel_rfl) fun args bx hr hS => ?_
 obtain ⟨⟨L, hL⟩, rfl, rfl, rfl⟩ := mO_ hS
 refine ⟨_, (eV_ (g := g) he hG (eN_ _)), by simp [Try.f66], by simp [go_sem], fun w Mx pin => ?_⟩
 simp only [hB_at, lab_nil, lab_cons, hOf_nil, hOf_cons]
 refine aQ_ ?_
 iterate 1
  refine oC_ fun J hJ => ?_
  simp [go_sem]
  refine hJ _ _ _ ?_
 refine oN_ ?_
 refine aS_ fun K2 hK2 => ?_
 refine aQ_ ?_
 iterate 3
  refine oC_ fun J hJ => ?_
  simp [go_sem]
  refine hJ _ _ _ ?_
 refine oN_ ?_
 refine aB_ ?_
 refine aL_ (ι := { q : List Chg × List Chg // q.1 ++ q.2 = L ∧ idxL p q.2 q.1.length = idxL p L 0 }) (fun q => indexChgI g caps L q.1.1 q.1.2) (fun q => q.1.2.length) ⟨([], L), rfl, rfl⟩ ?_ ?_
 · refine wO_ [] (by simp [go_sem]) ?_ ?_ <;> simp [go_sem, hcl]
 intro ⟨⟨pre, post⟩, hl, hgo⟩
 simp only at hl hgo
 have hpl := lS_ hl hL
 simp only [indexChgI]
 refine aQ_ ?_
 iterate 1
  refine oC_ fun J hJ => ?_
  simp [go_sem]
  refine hJ _ _ _ ?_
 refine oN_ ?_
 refine aS_ fun K5 hK5 => ?_
 refine aC_ (t := _) rfl (fun c6 => ?_) (fun c6 => ?_)
 ·
  simp [go_sem] at c6
  obtain ⟨x, post, rfl, hx⟩ := mL_ hl c6
  refine aK_ ?_
  refine hK5 _ ?_
  refine aS_ fun K7 hK7 => ?_
  refine aB_ ?_
  refine aQ_ ?_
  iterate 2
   refine oC_ fun J hJ => ?_
   simp [go_sem]
   refine hJ _ _ _ ?_
  refine oN_ ?_
  refine aQ_ ?_
  iterate 6
   refine oC_ fun J hJ => ?_
   simp [go_sem, hp, hv, hx]
   refine hJ _ _ _ ?_
  refine oN_ ?_
  refine aC_ (t := _) rfl (fun c10 => ?_) (fun c10 => ?_)
  ·
   refine aQ_ ?_
   iterate 2
    refine oC_ fun J hJ => ?_
    simp [go_sem]
    refine hJ _ _ _ ?_
   refine oN_ ?_
   refine aE_ ?_
   refine fQ_ [] ?_
   simp [go_sem, Try.f66, ← hgo, idxL, c10]
  ·
   refine aK_ ?_
   refine hK7 _ ?_
   refine aR_ ?_
   iterate 2
    refine oC_ fun J hJ => ?_
    simp [go_sem]
    refine hJ _ _ _ ?_
   refine oN_ ?_
   refine ⟨⟨(pre ++ [x], post), by simp [← hl], by rw [← hgo]; simp [idxL, c10]⟩, ?_, by simp⟩
   refine wO_ [] (by simp [go_sem]) ?_ ?_ <;> simp [go_sem, wN_ hpl, hcl]
 ·
  simp [go_sem] at c6
  obtain ⟨rfl, rfl⟩ := mN_ hl c6
  refine aX_ ?_
  simp only [go_sem]
  refine hK2 _ ?_
  refine aQ_ ?_
  iterate 1
   refine oC_ fun J hJ => ?_
   simp [go_sem]
   refine hJ _ _ _ ?_
  refine oN_ ?_
  refine aE_ ?_
  refine fQ_ [] ?_
  simp [go_sem, Try.f66, ← hgo, idxL]
structure isChgX where
 x : Chg
 a : Id
noncomputable def isChgS : HSpec := mkH (ι := isChgX) (fun ⟨x, a⟩ => ([.agg (cChg x), .iref (cId a) 0], [])) fun ⟨x, a⟩ => ⟨.bool (isChg a x), [], []⟩
theorem isChgS_atG (x : Chg) (a : Id) : isChgS [.agg (cChg x), .iref (cId a) 0] [] = some (⟨.bool (isChg a x), [], []⟩) :=
 mA_ (ι := isChgX) (fun i j h => by obtain ⟨x, a⟩ := i; obtain ⟨x2, a2⟩ := j; simp [and_assoc, qB_, qI_, qO_, qC_, qE_, qK_, qR_, qV_, qP_, qOc_] at h; obtain ⟨rfl, rfl⟩ := h; rfl) ⟨x, a⟩
theorem isChgS_at (x : Chg) (a : Id) : isChgS [.agg (cChg x), .iref (cId a) 0] [] = some (⟨.bool (isChg a x), [], []⟩) := isChgS_atG x a
theorem isChg_ok : HSound Try.prog 67 isChgS := by
 refine sE_ (fn := Try.f67) rfl rfl (by kernel_rfl) fun args bx hr hS => ?_
 obtain ⟨⟨x, a⟩, rfl, rfl, rfl⟩ := mO_ hS
 clear hS
 refine ⟨_, (eN_ _), by simp [Try.f67], by simp [go_sem], fun w Mx pin => ?_⟩
 simp only [hB_at, lab_nil, lab_cons, hOf_nil, hOf_cons]
 refine aQ_ ?_
 iterate 2
  refine oC_ fun J hJ => ?_
  simp [go_sem]
  refine hJ _ _ _ ?_
 refine oN_ ?_
 refine aQ_ ?_
 iterate 5
  refine oC_ fun J hJ => ?_
  simp [go_sem]
  refine hJ _ _ _ ?_
 refine oN_ ?_
 refine aE_ ?_
 refine fQ_ [] ?_
 simp [go_sem, Try.f67, isChg]
structure findCX where
 l : List Chg
 l' : AV
 a : Id
 h_l : SlA 9 cChg l l'
 hL : l.length ≤ 100000
noncomputable def findCS : HSpec := mkH (ι := findCX) (fun ⟨l, l', a, h_l, hL⟩ => ([l', .agg (cId a)], [])) fun ⟨l, l', a, h_l, hL⟩ => ⟨.int .i64 (placeC l a), [], []⟩
theorem findCS_atG (l : List Chg) (l' : AV) (a : Id) (h_l : SlA 9 cChg l l') (hL : l.length ≤ 100000) : findCS [l', .agg (cId a)] [] = some (⟨.int .i64 (placeC l a), [], []⟩) :=
 mA_ (ι := findCX) (fun i j h => by obtain ⟨l, l', a, h_l, hL⟩ := i; obtain ⟨l2, l'2, a2, h_l2, hL2⟩ := j; simp [and_assoc, qB_, qI_, qO_, qC_, qE_, qK_, qR_, qV_, qP_, qOc_] at h; obtain ⟨rfl, rfl⟩ := h; obtain rfl := SlA.inj (fun x y h => cChg_inj h) h_l h_l2; rfl) ⟨l, l', a, h_l, hL⟩
theorem findCS_at (l : List Chg) (a : Id) (hL : l.length ≤ 100000) : findCS [(.sl 9 (rows cChg l)), .agg (cId a)] [] = some (⟨.int .i64 (placeC l a), [], []⟩) := findCS_atG l _ a .sl hL
theorem findCS_atN (a : Id) : findCS [.nils, .agg (cId a)] [] = some ((fun (l : List Chg) => ⟨.int .i64 (placeC l a), [], []⟩) []) := findCS_atG [] _ a .nil (by simp)
theorem findC_ok : HSound Try.prog 40 findCS := by
 refine sE_ (fn := Try.f40) rfl rfl (by kernel_rfl) fun args bx hr hS => ?_
 obtain ⟨⟨l, l', a, h_l, hL⟩, rfl, rfl, rfl⟩ := mO_ hS
 clear hS
 refine ⟨_, (eV_ (g := 66) (by kernel_rfl) (indexChg_ok 67 [.iref (cId a) 0] (isChg a) isChgS (by kernel_rfl) isChg_ok (fun x => isChgS_at x a) (fun H => by simp [go_sem]) (fun H0 H => by simp [go_sem])) (eN_ _)), by simp [Try.f40], by simp [go_sem], fun w Mx pin => ?_⟩
 simp only [hB_at, lab_nil, lab_cons, hOf_nil, hOf_cons]
 refine aW_ (s' := ⟨ofL [(0, (.sl 9 (rows cChg l))), (1, .agg (cId a))], hOf []⟩) ?_ ?_
 · cases h_l <;> exact wO_ [] (by simp [go_sem]) (by simp [go_sem]) (by simp [go_sem])
 clear h_l
 refine aQ_ ?_
 iterate 2
  refine oC_ fun J hJ => ?_
  simp [go_sem]
  refine hJ _ _ _ ?_
 refine oN_ ?_
 refine aQ_ ?_
 iterate 4
  refine oC_ fun J hJ => ?_
  simp [go_sem, indexChgS_at _ _ (isChg a) l hL]
  refine hJ _ _ _ ?_
 refine oN_ ?_
 refine aE_ ?_
 refine fQ_ [] ?_
 simp [go_sem, Try.f40, placeC]
structure findCRX where
 l : List Chg
 l' : AV
 a : Id
 h_l : SlA 9 cChg l l'
 hL : l.length ≤ 100000
noncomputable def findCRS : HSpec := mkH (ι := findCRX) (fun ⟨l, l', a, h_l, hL⟩ => ([l', .agg (cId a)], [])) fun ⟨l, l', a, h_l, hL⟩ => ⟨.int .i64 (placeC l a), [], []⟩
theorem findCRS_atG (l : List Chg) (l' : AV) (a : Id) (h_l : SlA 9 cChg l l') (hL : l.length ≤ 100000) : findCRS [l', .agg (cId a)] [] = some (⟨.int .i64 (placeC l a), [], []⟩) :=
 mA_ (ι := findCRX) (fun i j h => by obtain ⟨l, l', a, h_l, hL⟩ := i; obtain ⟨l2, l'2, a2, h_l2, hL2⟩ := j; simp [and_assoc, qB_, qI_, qO_, qC_, qE_, qK_, qR_, qV_, qP_, qOc_] at h; obtain ⟨rfl, rfl⟩ := h; obtain rfl := SlA.inj (fun x y h => cChg_inj h) h_l h_l2; rfl) ⟨l, l', a, h_l, hL⟩
theorem findCRS_at (l : List Chg) (a : Id) (hL : l.length ≤ 100000) : findCRS [(.sl 9 (rows cChg l)), .agg (cId a)] [] = some (⟨.int .i64 (placeC l a), [], []⟩) := findCRS_atG l _ a .sl hL
def findCRI (l : List Chg) (a : Id) (pre _post : List Chg) : St := ⟨ofL [(0, .sl 9 (rows cChg l)), (3, .ref (0, 48) 0), (5, .int .i64 pre.length)], hOf [((0, 48), .obj (cId a))]⟩
theorem findCR_ok : HSound Try.prog 14 findCRS := by
 refine sE_ (fn := Try.f14) rfl rfl (by kernel_rfl) fun args bx hr hS => ?_
 obtain ⟨⟨l, l', a, h_l, hL⟩, rfl, rfl, rfl⟩ := mO_ hS
 clear hS
 refine ⟨_, (eN_ _), by simp [Try.f14], by simp [go_sem], fun w Mx pin => ?_⟩
 simp only [hB_at, lab_nil, lab_cons, hOf_nil, hOf_cons]
 refine aW_ (s' := ⟨ofL [(0, (.sl 9 (rows cChg l))), (1, .agg (cId a))], hOf []⟩) ?_ ?_
 · cases h_l <;> exact wO_ [] (by simp [go_sem]) (by simp [go_sem]) (by simp [go_sem])
 clear h_l
 refine aQ_ ?_
 iterate 2
  refine oC_ fun J hJ => ?_
  simp [go_sem]
  refine hJ _ _ _ ?_
 refine oN_ ?_
 refine aS_ fun K2 hK2 => ?_
 refine aQ_ ?_
 iterate 1
  refine oC_ fun J hJ => ?_
  simp [go_sem]
  refine hJ _ _ _ ?_
 refine oN_ ?_
 refine aB_ ?_
 refine aL_ (ι := { q : List Chg × List Chg // q.1 ++ q.2 = l ∧ idxL (isChg a) q.2 q.1.length = placeC l a }) (fun q => findCRI l a q.1.1 q.1.2) (fun q => q.1.2.length) ⟨([], l), rfl, rfl⟩ ?_ ?_
 · refine wO_ [((0, 48), some (0, 48))] (by simp [go_sem]) ?_ ?_ <;> simp [go_sem]
 intro ⟨⟨pre, post⟩, hl, hgo⟩
 simp only at hl hgo
 have hpl := lS_ hl hL
 simp only [findCRI]
 refine aS_ fun K4 hK4 => ?_
 refine aQ_ ?_
 iterate 4
  refine oC_ fun J hJ => ?_
  simp [go_sem]
  refine hJ _ _ _ ?_
 refine oN_ ?_
 refine aC_ (t := _) rfl (fun c6 => ?_) (fun c6 => ?_)
 ·
  simp [go_sem] at c6
  obtain ⟨x, post, rfl, hx⟩ := mL_ hl c6
  refine aK_ ?_
  refine hK4 _ ?_
  refine aS_ fun K7 hK7 => ?_
  refine aB_ ?_
  refine aU_ ?_
  iterate 7
   refine oC_ fun J hJ => ?_
   simp [go_sem, hx]
   refine hJ _ _ _ ?_
  refine oN_ ?_
  refine ⟨rfl, ?_⟩
  refine aC_ (t := _) rfl (fun c9 => ?_) (fun c9 => ?_)
  ·
   simp [go_sem] at c9
   refine aQ_ ?_
   iterate 2
    refine oC_ fun J hJ => ?_
    simp [go_sem]
    refine hJ _ _ _ ?_
   refine oN_ ?_
   refine aE_ ?_
   refine fQ_ [] ?_
   simp [go_sem, Try.f14, ← hgo, idxL, isChg, c9]
  ·
   simp [go_sem] at c9
   refine aK_ ?_
   refine hK7 _ ?_
   refine aR_ ?_
   iterate 3
    refine oC_ fun J hJ => ?_
    simp [go_sem]
    refine hJ _ _ _ ?_
   refine oN_ ?_
   refine ⟨⟨(pre ++ [x], post), by simp [← hl], by rw [← hgo]; simp [idxL, isChg, c9]⟩, ?_, by simp⟩
   refine wO_ [((0, 48), some (0, 48))] (by simp [go_sem]) ?_ ?_ <;> simp [go_sem, wN_ hpl]
 ·
  simp [go_sem] at c6
  obtain ⟨rfl, rfl⟩ := mN_ hl c6
  refine aX_ ?_
  simp only [go_sem]
  refine hK2 _ ?_
  refine aQ_ ?_
  iterate 1
   refine oC_ fun J hJ => ?_
   simp [go_sem]
   refine hJ _ _ _ ?_
  refine oN_ ?_
  refine aE_ ?_
  refine fQ_ [] ?_
  simp [go_sem, Try.f14, ← hgo, idxL]
end Go.Proofs.Ytfbooejaabdkoaa.AE
