/-
 Package rebase: ids, Swaps, Lost. Conditions: none; every contract names its own.
-/
import Derived.Test.YtfbooejaabdkoaaORb1
set_option linter.constructorNameAsVariable false
namespace Go.Proofs.Ytfbooejaabdkoaa.AE
open Go Go.Proofs Go.RowKit
set_option linter.unusedVariables false
set_option linter.unusedSimpArgs false
set_option maxRecDepth 100000
set_option maxHeartbeats 4000000
theorem idsL_len (l : List Chg) : (idsL l).length ≤ l.length := by have := idsG_len l []; rw [List.length_nil, Nat.zero_add] at this; exact this
@[go_sem] theorem rows_one_Id' (x : Id) : [cId x] = rows cId [x] := rfl
def idsI (l pre _post : List Chg) : St := ⟨ofL [(3, .own (0, 999) (idsG pre []).length), (6, .sl 9 (rows cChg l)), (7, .int .i64 l.length), (8, .int .i64 pre.length)], hOf [((0, 999), .row 37 2 (rows cId (idsG pre [])) false)]⟩
def lostI (l y pre _post : List Chg) : St := ⟨ofL [(1, .sl 9 (rows cChg y)), (5, .own (0, 999) (lostL pre y).length), (8, .sl 9 (rows cChg l)), (9, .int .i64 l.length), (10, .int .i64 pre.length)], hOf [((0, 999), .row 37 2 (rows cId (lostL pre y)) false)]⟩
theorem lostL_snoc (pre y : List Chg) (x : Chg) : lostL (pre ++ [x]) y = lostL pre y ++ (if placeC y x.id < 0 then [x.id] else []) := by
 unfold lostL
 rw [List.filter_append, List.map_append]
 by_cases h : placeC y x.id < 0 <;> simp [h]
theorem lostL_len (pre y : List Chg) : (lostL pre y).length ≤ pre.length := by unfold lostL; rw [List.length_map]; exact List.length_filter_le _ _
@[go_sem] theorem lostL_nil (y : List Chg) : lostL [] y = [] := rfl
@[go_sem] theorem idsG_nil (a : List Id) : idsG [] a = a := rfl
structure idsX where
 l : List Chg
 l' : AV
 h_l : SlA 9 cChg l l'
 hL : l.length ≤ 100000
noncomputable def idsS : HSpec := mkH (ι := idsX) (fun ⟨l, l', h_l, hL⟩ => ([l'], [])) fun ⟨l, l', h_l, hL⟩ => ⟨.own (2, 0) (idsL l).length, [], [.row 37 2 (rows cId (idsL l)) false]⟩
theorem idsS_atG (l : List Chg) (l' : AV) (h_l : SlA 9 cChg l l') (hL : l.length ≤ 100000) : idsS [l'] [] = some (⟨.own (2, 0) (idsL l).length, [], [.row 37 2 (rows cId (idsL l)) false]⟩) :=
 mA_ (ι := idsX) (fun i j h => by obtain ⟨l, l', h_l, hL⟩ := i; obtain ⟨l2, l'2, h_l2, hL2⟩ := j; simp [and_assoc, qB_, qI_, qO_, qC_, qE_, qK_, qR_, qV_, qP_, qOc_] at h; obtain rfl := h; obtain rfl := SlA.inj (fun x y h => cChg_inj h) h_l h_l2; rfl) ⟨l, l', h_l, hL⟩
theorem idsS_at (l : List Chg) (hL : l.length ≤ 100000) : idsS [(.sl 9 (rows cChg l))] [] = some (⟨.own (2, 0) (idsL l).length, [], [.row 37 2 (rows cId (idsL l)) false]⟩) := idsS_atG l _ .sl hL
theorem ids_ok : HSound Try.prog 46 idsS := by
 refine sE_ (fn := Try.f46) rfl rfl (by kernel_rfl) fun args bx hr hS => ?_
 obtain ⟨⟨l, l', h_l, hL⟩, rfl, rfl, rfl⟩ := mO_ hS
 clear hS
 refine ⟨_, (eV_ (g := 74) (by kernel_rfl) contId_ok (eN_ _)), by simp [Try.f46], by simp [go_sem], fun w Mx pin => ?_⟩
 simp only [hB_at, lab_nil, lab_cons, hOf_nil, hOf_cons]
 refine aW_ (s' := ⟨ofL [(0, (.sl 9 (rows cChg l)))], hOf []⟩) ?_ ?_
 · cases h_l <;> exact wO_ [] (by simp [go_sem]) (by simp [go_sem]) (by simp [go_sem])
 clear h_l
 refine aQ_ ?_
 iterate 1
  refine oC_ fun J hJ => ?_
  simp [go_sem]
  refine hJ _ _ _ ?_
 refine oN_ ?_
 refine aQ_ ?_
 iterate 1
  refine oC_ fun J hJ => ?_
  simp [go_sem]
  refine hJ _ _ _ ?_
 refine oN_ ?_
 refine aS_ fun K3 hK3 => ?_
 refine aQ_ ?_
 iterate 3
  refine oC_ fun J hJ => ?_
  simp [go_sem]
  refine hJ _ _ _ ?_
 refine oN_ ?_
 refine aB_ ?_
 refine aL_ (ι := { q : List Chg × List Chg // q.1 ++ q.2 = l ∧ True }) (fun q => idsI l q.1.1 q.1.2) (fun q => q.1.2.length) ⟨([], l), rfl, trivial⟩ ?_ ?_
 · refine wO_ [((0, 999), none)] (by simp [go_sem]) ?_ ?_ <;> simp [go_sem, dropped]
 intro ⟨⟨pre, post⟩, hl, hgo⟩
 simp only at hl hgo
 have hpl := lS_ hl hL
 simp only [idsI]
 refine aQ_ ?_
 iterate 1
  refine oC_ fun J hJ => ?_
  simp [go_sem]
  refine hJ _ _ _ ?_
 refine oN_ ?_
 refine aS_ fun K6 hK6 => ?_
 refine aC_ (t := _) rfl (fun c7 => ?_) (fun c7 => ?_)
 ·
  simp [go_sem] at c7
  obtain ⟨x, post, rfl, hx⟩ := mL_ hl c7
  have hacc : (idsG pre []).length ≤ 100000 := by have := idsG_len pre []; simp at this; omega
  refine aK_ ?_
  refine hK6 _ ?_
  refine aS_ fun K8 hK8 => ?_
  refine aB_ ?_
  refine aQ_ ?_
  iterate 4
   refine oC_ fun J hJ => ?_
   simp [go_sem, hx]
   refine hJ _ _ _ ?_
  refine oN_ ?_
  refine aS_ fun K10 hK10 => ?_
  by_cases hm : x.id ∈ idsG pre []
  ·
   refine aR_ ?_
   iterate 5
    refine oC_ fun J hJ => ?_
    simp [go_sem, contIdS_at (idsG pre []) x.id hacc, hm]
    refine hJ _ _ _ ?_
   refine oN_ ?_
   refine hK10 _ ?_
   refine aF_ rfl ?_
   refine aK_ ?_
   refine hK8 _ ?_
   refine aR_ ?_
   iterate 2
    refine oC_ fun J hJ => ?_
    simp [go_sem]
    refine hJ _ _ _ ?_
   refine oN_ ?_
   refine ⟨⟨(pre ++ [x], post), by simp [← hl], by exact trivial⟩, ?_, by simp⟩
   first
    | (refine wO_ [((0, 999), some (0, 999))] (by simp [go_sem]) ?_ ?_ <;> (simp [go_sem, wN_ hpl, idsG_snoc, hm, rows_append]; done))
    | (refine wO_ [((0, 999), some (0, 336))] (by simp [go_sem]) ?_ ?_ <;> (simp [go_sem, wN_ hpl, idsG_snoc, hm, rows_append]; done))
  ·
   refine aR_ ?_
   iterate 5
    refine oC_ fun J hJ => ?_
    simp [go_sem, contIdS_at (idsG pre []) x.id hacc, hm]
    refine hJ _ _ _ ?_
   refine oN_ ?_
   refine hK10 _ ?_
   refine aT_ rfl ?_
   refine aR_ ?_
   iterate 6
    refine oC_ fun J hJ => ?_
    simp [go_sem, show ((idsG pre []).length + 1) * 16 ≤ 140737488355328 by omega, show (idsG pre []).length + 1 ≤ maxLen by (simp only [maxLen]; omega)]
    refine hJ _ _ _ ?_
   refine oN_ ?_
   refine hK8 _ ?_
   refine aR_ ?_
   iterate 2
    refine oC_ fun J hJ => ?_
    simp [go_sem]
    refine hJ _ _ _ ?_
   refine oN_ ?_
   refine ⟨⟨(pre ++ [x], post), by simp [← hl], by exact trivial⟩, ?_, by simp⟩
   first
    | (refine wO_ [((0, 999), some (0, 999))] (by simp [go_sem]) ?_ ?_ <;> (simp [go_sem, wN_ hpl, idsG_snoc, hm, rows_append]; done))
    | (refine wO_ [((0, 999), some (0, 336))] (by simp [go_sem]) ?_ ?_ <;> (simp [go_sem, wN_ hpl, idsG_snoc, hm, rows_append]; done))
 ·
  simp [go_sem] at c7
  obtain ⟨rfl, rfl⟩ := mN_ hl c7
  refine aX_ ?_
  simp only [go_sem]
  refine hK3 _ ?_
  refine aQ_ ?_
  iterate 2
   refine oC_ fun J hJ => ?_
   simp [go_sem]
   refine hJ _ _ _ ?_
  refine oN_ ?_
  refine aE_ ?_
  refine fQ_ [((2, 0), some (0, 999))] ?_
  simp [go_sem, Try.f46, idsL]
structure lostX where
 l : List Chg
 l' : AV
 y : List Chg
 y' : AV
 h_l : SlA 9 cChg l l'
 h_y : SlA 9 cChg y y'
 hL : l.length ≤ 100000 ∧ y.length ≤ 100000
noncomputable def lostS : HSpec := mkH (ι := lostX) (fun ⟨l, l', y, y', h_l, h_y, hL⟩ => ([l', y'], [])) fun ⟨l, l', y, y', h_l, h_y, hL⟩ => ⟨.own (2, 0) (lostL l y).length, [], [.row 37 2 (rows cId (lostL l y)) false]⟩
theorem lostS_atG (l : List Chg) (l' : AV) (y : List Chg) (y' : AV) (h_l : SlA 9 cChg l l') (h_y : SlA 9 cChg y y') (hL : l.length ≤ 100000 ∧ y.length ≤ 100000) : lostS [l', y'] [] = some (⟨.own (2, 0) (lostL l y).length, [], [.row 37 2 (rows cId (lostL l y)) false]⟩) :=
 mA_ (ι := lostX) (fun i j h => by obtain ⟨l, l', y, y', h_l, h_y, hL⟩ := i; obtain ⟨l2, l'2, y2, y'2, h_l2, h_y2, hL2⟩ := j; simp [and_assoc, qB_, qI_, qO_, qC_, qE_, qK_, qR_, qV_, qP_, qOc_] at h; obtain ⟨rfl, rfl⟩ := h; obtain rfl := SlA.inj (fun x y h => cChg_inj h) h_l h_l2; obtain rfl := SlA.inj (fun x y h => cChg_inj h) h_y h_y2; rfl) ⟨l, l', y, y', h_l, h_y, hL⟩
theorem lostS_at (l : List Chg) (y : List Chg) (hL : l.length ≤ 100000 ∧ y.length ≤ 100000) : lostS [(.sl 9 (rows cChg l)), (.sl 9 (rows cChg y))] [] = some (⟨.own (2, 0) (lostL l y).length, [], [.row 37 2 (rows cId (lostL l y)) false]⟩) := lostS_atG l _ y _ .sl .sl hL
theorem lost_ok : HSound Try.prog 23 lostS := by
 refine sE_ (fn := Try.f23) rfl rfl (by kernel_rfl) fun args bx hr hS => ?_
 obtain ⟨⟨l, l', y, y', h_l, h_y, hL⟩, rfl, rfl, rfl⟩ := mO_ hS
 clear hS
 refine ⟨_, (eV_ (g := 40) (by kernel_rfl) findC_ok (eN_ _)), by simp [Try.f23], by simp [go_sem], fun w Mx pin => ?_⟩
 simp only [hB_at, lab_nil, lab_cons, hOf_nil, hOf_cons]
 refine aW_ (s' := ⟨ofL [(0, (.sl 9 (rows cChg l))), (1, (.sl 9 (rows cChg y)))], hOf []⟩) ?_ ?_
 · cases h_l <;> cases h_y <;> exact wO_ [] (by simp [go_sem]) (by simp [go_sem]) (by simp [go_sem])
 clear h_l h_y
 obtain ⟨hl0, hy0⟩ := hL
 refine aQ_ ?_
 iterate 1
  refine oC_ fun J hJ => ?_
  simp [go_sem]
  refine hJ _ _ _ ?_
 refine oN_ ?_
 refine aQ_ ?_
 iterate 1
  refine oC_ fun J hJ => ?_
  simp [go_sem]
  refine hJ _ _ _ ?_
 refine oN_ ?_
 refine aS_ fun K3 hK3 => ?_
 refine aQ_ ?_
 iterate 3
  refine oC_ fun J hJ => ?_
  simp [go_sem]
  refine hJ _ _ _ ?_
 refine oN_ ?_
 refine aB_ ?_
 refine aL_ (ι := { q : List Chg × List Chg // q.1 ++ q.2 = l ∧ True }) (fun q => lostI l y q.1.1 q.1.2) (fun q => q.1.2.length) ⟨([], l), rfl, trivial⟩ ?_ ?_
 · refine wO_ [((0, 999), none)] (by simp [go_sem]) ?_ ?_ <;> simp [go_sem, dropped]
 intro ⟨⟨pre, post⟩, hl, hgo⟩
 simp only at hl hgo
 have hpl := lS_ hl hl0
 simp only [lostI]
 refine aQ_ ?_
 iterate 1
  refine oC_ fun J hJ => ?_
  simp [go_sem]
  refine hJ _ _ _ ?_
 refine oN_ ?_
 refine aS_ fun K6 hK6 => ?_
 refine aC_ (t := _) rfl (fun c7 => ?_) (fun c7 => ?_)
 ·
  simp [go_sem] at c7
  obtain ⟨x, post, rfl, hx⟩ := mL_ hl c7
  have hacc := lostL_len pre y
  refine aK_ ?_
  refine hK6 _ ?_
  refine aS_ fun K8 hK8 => ?_
  refine aB_ ?_
  refine aQ_ ?_
  iterate 4
   refine oC_ fun J hJ => ?_
   simp [go_sem, hx]
   refine hJ _ _ _ ?_
  refine oN_ ?_
  refine aS_ fun K10 hK10 => ?_
  by_cases hm : placeC y x.id < 0
  ·
   refine aR_ ?_
   iterate 5
    refine oC_ fun J hJ => ?_
    simp [go_sem, findCS_at y x.id hy0, hm]
    refine hJ _ _ _ ?_
   refine oN_ ?_
   refine hK10 _ ?_
   refine aT_ rfl ?_
   refine aR_ ?_
   iterate 6
    refine oC_ fun J hJ => ?_
    simp [go_sem, show ((lostL pre y).length + 1) * 16 ≤ 140737488355328 by omega, show (lostL pre y).length + 1 ≤ maxLen by (simp only [maxLen]; omega)]
    refine hJ _ _ _ ?_
   refine oN_ ?_
   refine hK8 _ ?_
   refine aR_ ?_
   iterate 2
    refine oC_ fun J hJ => ?_
    simp [go_sem]
    refine hJ _ _ _ ?_
   refine oN_ ?_
   refine ⟨⟨(pre ++ [x], post), by simp [← hl], by exact trivial⟩, ?_, by simp⟩
   first
    | (refine wO_ [((0, 999), some (0, 999))] (by simp [go_sem]) ?_ ?_ <;> (simp [go_sem, wN_ hpl, lostL_snoc, hm, rows_append]; done))
    | (refine wO_ [((0, 999), some (0, 368))] (by simp [go_sem]) ?_ ?_ <;> (simp [go_sem, wN_ hpl, lostL_snoc, hm, rows_append]; done))
  ·
   refine aR_ ?_
   iterate 5
    refine oC_ fun J hJ => ?_
    simp [go_sem, findCS_at y x.id hy0, hm]
    refine hJ _ _ _ ?_
   refine oN_ ?_
   refine hK10 _ ?_
   refine aF_ rfl ?_
   refine aK_ ?_
   refine hK8 _ ?_
   refine aR_ ?_
   iterate 2
    refine oC_ fun J hJ => ?_
    simp [go_sem]
    refine hJ _ _ _ ?_
   refine oN_ ?_
   refine ⟨⟨(pre ++ [x], post), by simp [← hl], by exact trivial⟩, ?_, by simp⟩
   first
    | (refine wO_ [((0, 999), some (0, 999))] (by simp [go_sem]) ?_ ?_ <;> (simp [go_sem, wN_ hpl, lostL_snoc, hm, rows_append]; done))
    | (refine wO_ [((0, 999), some (0, 368))] (by simp [go_sem]) ?_ ?_ <;> (simp [go_sem, wN_ hpl, lostL_snoc, hm, rows_append]; done))
 ·
  simp [go_sem] at c7
  obtain ⟨rfl, rfl⟩ := mN_ hl c7
  refine aX_ ?_
  simp only [go_sem]
  refine hK3 _ ?_
  refine aQ_ ?_
  iterate 2
   refine oC_ fun J hJ => ?_
   simp [go_sem]
   refine hJ _ _ _ ?_
  refine oN_ ?_
  refine aE_ ?_
  refine fQ_ [((2, 0), some (0, 999))] ?_
  simp [go_sem, Try.f23]
theorem cntP_cons {α : Type} (f : α → α → Bool) (a : α) (r : List α) : cntP f (a :: r) = (r.filter (f a)).length + cntP f r := rfl
theorem cntP_len {α : Type} (f : α → α → Bool) : ∀ L : List α, cntP f L ≤ L.length * L.length
 | [] => Nat.zero_le _
 | a :: r => by
  have h1 := cntP_len f r
  have h2 := List.length_filter_le (f a) r
  simp only [cntP, List.length_cons, Nat.add_mul, Nat.mul_add]
  omega
def swI (y : List Chg) (L pre _post : List Id) (n : Nat) : St := ⟨ofL [(1, .sl 9 (rows cChg y)), (5, .int .i64 n), (6, .own (0, 999) L.length), (15, .own (0, 999) L.length), (16, .int .i64 L.length), (17, .int .i64 pre.length)], hOf [((0, 999), .row 37 2 (rows cId L) true)]⟩
def swJ (y : List Chg) (L : List Id) (a : Id) (i : Nat) (P pre _post : List Id) (n : Nat) : St := ⟨ofL [(1, .sl 9 (rows cChg y)), (5, .int .i64 n), (6, .own (0, 999) L.length), (9, .int .i64 (placeC y a)), (15, .own (0, 999) L.length), (16, .int .i64 L.length), (17, .int .i64 i), (28, .sl 2 (rows cId P)), (29, .int .i64 P.length), (30, .int .i64 pre.length)], hOf [((0, 999), .row 37 2 (rows cId L) true)]⟩
theorem swap_cases (y : List Chg) (a b : Id) : (placeC y a < 0 ∧ swapB y a b = false) ∨ (0 ≤ placeC y a ∧ placeC y b < 0 ∧ swapB y a b = false) ∨ (0 ≤ placeC y a ∧ 0 ≤ placeC y b ∧ ¬ placeC y b < placeC y a ∧ swapB y a b = false) ∨ (0 ≤ placeC y a ∧ 0 ≤ placeC y b ∧ placeC y b < placeC y a ∧ swapB y a b = true) := by
 unfold swapB
 by_cases h1 : placeC y a < 0
 · exact .inl ⟨h1, by simp; omega⟩
 ·
  by_cases h2 : placeC y b < 0
  · exact .inr (.inl ⟨by omega, h2, by simp; omega⟩)
  ·
   by_cases h3 : placeC y b < placeC y a
   · exact .inr (.inr (.inr ⟨by omega, by omega, h3, by simp; omega⟩))
   · exact .inr (.inr (.inl ⟨by omega, by omega, h3, by simp; omega⟩))
structure swapsX where
 x : List Chg
 x' : AV
 y : List Chg
 y' : AV
 h_x : SlA 9 cChg x x'
 h_y : SlA 9 cChg y y'
 hL : x.length ≤ 1000 ∧ y.length ≤ 100000
noncomputable def swapsS : HSpec := mkH (ι := swapsX) (fun ⟨x, x', y, y', h_x, h_y, hL⟩ => ([x', y'], [])) fun ⟨x, x', y, y', h_x, h_y, hL⟩ => ⟨.int .i64 (swapsL x y : Nat), [], []⟩
theorem swapsS_atG (x : List Chg) (x' : AV) (y : List Chg) (y' : AV) (h_x : SlA 9 cChg x x') (h_y : SlA 9 cChg y y') (hL : x.length ≤ 1000 ∧ y.length ≤ 100000) : swapsS [x', y'] [] = some (⟨.int .i64 (swapsL x y : Nat), [], []⟩) :=
 mA_ (ι := swapsX) (fun i j h => by obtain ⟨x, x', y, y', h_x, h_y, hL⟩ := i; obtain ⟨x2, x'2, y2, y'2, h_x2, h_y2, hL2⟩ := j; simp [and_assoc, qB_, qI_, qO_, qC_, qE_, qK_, qR_, qV_, qP_, qOc_] at h; obtain ⟨rfl, rfl⟩ := h; obtain rfl := SlA.inj (fun x y h => cChg_inj h) h_x h_x2; obtain rfl := SlA.inj (fun x y h => cChg_inj h) h_y h_y2; rfl) ⟨x, x', y, y', h_x, h_y, hL⟩
theorem swapsS_at (x : List Chg) (y : List Chg) (hL : x.length ≤ 1000 ∧ y.length ≤ 100000) : swapsS [(.sl 9 (rows cChg x)), (.sl 9 (rows cChg y))] [] = some (⟨.int .i64 (swapsL x y : Nat), [], []⟩) := swapsS_atG x _ y _ .sl .sl hL
theorem swaps_ok : HSound Try.prog 21 swapsS := by
 refine sE_ (fn := Try.f21) rfl rfl (by kernel_rfl) fun args bx hr hS => ?_
 obtain ⟨⟨x, x', y, y', h_x, h_y, hL⟩, rfl, rfl, rfl⟩ := mO_ hS
 clear hS
 refine ⟨_, (eV_ (g := 46) (by kernel_rfl) ids_ok (eV_ (g := 40) (by kernel_rfl) findC_ok (eN_ _))), by simp [Try.f21], by simp [go_sem], fun w Mx pin => ?_⟩
 simp only [hB_at, lab_nil, lab_cons, hOf_nil, hOf_cons]
 refine aW_ (s' := ⟨ofL [(0, (.sl 9 (rows cChg x))), (1, (.sl 9 (rows cChg y)))], hOf []⟩) ?_ ?_
 · cases h_x <;> cases h_y <;> exact wO_ [] (by simp [go_sem]) (by simp [go_sem]) (by simp [go_sem])
 clear h_x h_y
 obtain ⟨hx0, hy0⟩ := hL
 have hi1 := idsL_len x
 have hi : (idsL x).length ≤ 100000 := by omega
 have hsw : swapsL x y ≤ 1100000 := by
  have h1 := cntP_len (swapB y) (idsL x)
  have h2 : (idsL x).length * (idsL x).length ≤ 1000 * 1000 := Nat.mul_le_mul (by omega) (by omega)
  unfold swapsL
  omega
 refine aQ_ ?_
 iterate 1
  refine oC_ fun J hJ => ?_
  simp [go_sem]
  refine hJ _ _ _ ?_
 refine oN_ ?_
 refine aQ_ ?_
 iterate 4
  refine oC_ fun J hJ => ?_
  simp [go_sem, idsS_at x (by omega)]
  refine hJ _ _ _ ?_
 refine oN_ ?_
 refine aS_ fun K3 hK3 => ?_
 refine aQ_ ?_
 iterate 3
  refine oC_ fun J hJ => ?_
  simp [go_sem]
  refine hJ _ _ _ ?_
 refine oN_ ?_
 refine aB_ ?_
 refine aL_ (ι := { q : List Id × List Id × Nat // q.1 ++ q.2.1 = (idsL x) ∧ q.2.2 + cntP (swapB y) q.2.1 = swapsL x y }) (fun q => swI y (idsL x) q.1.1 q.1.2.1 q.1.2.2) (fun q => q.1.2.1.length) ⟨([], (idsL x), 0), rfl, by simp [swapsL]⟩ ?_ ?_
 · refine wO_ [((0, 999), some (0, 224))] (by simp [go_sem]) ?_ ?_ <;> simp [go_sem]
 intro ⟨⟨pre, post, n⟩, hl, hgo⟩
 simp only at hl hgo
 have hpl := lS_ hl hi
 simp only [swI]
 refine aQ_ ?_
 iterate 1
  refine oC_ fun J hJ => ?_
  simp [go_sem]
  refine hJ _ _ _ ?_
 refine oN_ ?_
 refine aS_ fun K6 hK6 => ?_
 refine aC_ (t := _) rfl (fun c7 => ?_) (fun c7 => ?_)
 ·
  simp [go_sem] at c7
  obtain ⟨a, post, rfl, hx⟩ := mL_ hl c7
  have hlt := (List.getElem?_eq_some_iff.1 hx).1
  have wp := wN_ (n := pre.length) (by omega)
  have w0 : (0 : Int) ≤ (pre.length : Int) + 1 := by omega
  have hdr : (idsL x).drop (pre.length + 1) = post := by rw [← hl]; simp
  have hplen : pre.length + 1 ≤ (idsL x).length := hlt
  have hpost : post.length ≤ 100000 := by have := congrArg List.length hl; simp at this; omega
  have hi2 := hpost
  have hpt : ((pre.length : Int) + 1).toNat = pre.length + 1 := by omega
  have hpz : ¬ (pre.length + 1 = 0) := by omega
  have hdl : (idsL x).length - (pre.length + 1) = post.length := by rw [← hdr]; simp
  refine aK_ ?_
  refine hK6 _ ?_
  refine aS_ fun K8 hK8 => ?_
  refine aB_ ?_
  refine aQ_ ?_
  iterate 6
   refine oC_ fun J hJ => ?_
   simp [go_sem, ↓hx, hx, hlt]
   refine hJ _ _ _ ?_
  refine oN_ ?_
  refine aQ_ ?_
  iterate 4
   refine oC_ fun J hJ => ?_
   simp [go_sem, findCS_at y a hy0]
   refine hJ _ _ _ ?_
  refine oN_ ?_
  refine aQ_ ?_
  iterate 6
   refine oC_ fun J hJ => ?_
   simp [go_sem, wp, hpt, w0, hplen, hpz, hdr, hdl]
   refine hJ _ _ _ ?_
  refine oN_ ?_
  refine aB_ ?_
  refine aL_ (ι := { q : List Id × List Id × Nat // q.1 ++ q.2.1 = post ∧ q.2.2 + (q.2.1.filter (swapB y a)).length = n + (post.filter (swapB y a)).length }) (fun q => swJ y (idsL x) a pre.length post q.1.1 q.1.2.1 q.1.2.2) (fun q => q.1.2.1.length) ⟨([], post, n), rfl, rfl⟩ ?_ ?_
  · refine wO_ [((0, 999), some (0, 999))] (by simp [go_sem]) ?_ ?_ <;> simp [go_sem, hdr, wp, w0]
  intro ⟨⟨ip, iq, m⟩, hli, hgi⟩
  simp only at hli hgi
  have hpi := lS_ hli hi2
  simp only [swJ]
  refine aQ_ ?_
  iterate 1
   refine oC_ fun J hJ => ?_
   simp [go_sem]
   refine hJ _ _ _ ?_
  refine oN_ ?_
  refine aS_ fun K13 hK13 => ?_
  refine aC_ (t := _) rfl (fun c14 => ?_) (fun c14 => ?_)
  ·
   simp [go_sem] at c14
   obtain ⟨b, iq, rfl, hb⟩ := mL_ hli c14
   refine aK_ ?_
   refine hK13 _ ?_
   refine aS_ fun K15 hK15 => ?_
   refine aB_ ?_
   refine aQ_ ?_
   iterate 4
    refine oC_ fun J hJ => ?_
    simp [go_sem, hb]
    refine hJ _ _ _ ?_
   refine oN_ ?_
   refine aQ_ ?_
   iterate 4
    refine oC_ fun J hJ => ?_
    simp [go_sem, findCS_at y b hy0]
    refine hJ _ _ _ ?_
   refine oN_ ?_
   refine aS_ fun K18 hK18 => ?_
   have hmb : m ≤ 1100000 := by
    rw [cntP_cons] at hgo
    simp only [List.filter_cons] at hgi
    omega
   have wm := wrap_mid (n := m) hmb
   rcases swap_cases y a b with ⟨k1, hsb⟩ | ⟨k1, k2, hsb⟩ | ⟨k1, k2, k3, hsb⟩ | ⟨k1, k2, k3, hsb⟩
   ·
    have k1b : ¬ 0 ≤ placeC y a := by omega
    refine aR_ ?_
    iterate 11
     refine oC_ fun J hJ => ?_
     simp [go_sem, k1b]
     refine hJ _ _ _ ?_
    refine oN_ ?_
    refine hK18 _ ?_
    refine aF_ rfl ?_
    refine aK_ ?_
    refine hK15 _ ?_
    refine aR_ ?_
    iterate 2
     refine oC_ fun J hJ => ?_
     simp [go_sem]
     refine hJ _ _ _ ?_
    refine oN_ ?_
    refine ⟨⟨(ip ++ [b], iq, (if swapB y a b = true then m + 1 else m)), by simp [← hli], by rw [← hgi]; simp [List.filter_cons, hsb]; try omega⟩, ?_, by simp⟩
    refine wO_ [((0, 999), some (0, 999))] (by simp [go_sem]) ?_ ?_ <;> simp [go_sem, wN_ hpi, hsb, wm]
   ·
    have k2b : ¬ 0 ≤ placeC y b := by omega
    refine aR_ ?_
    iterate 11
     refine oC_ fun J hJ => ?_
     simp [go_sem, k1, k2b]
     refine hJ _ _ _ ?_
    refine oN_ ?_
    refine hK18 _ ?_
    refine aF_ rfl ?_
    refine aK_ ?_
    refine hK15 _ ?_
    refine aR_ ?_
    iterate 2
     refine oC_ fun J hJ => ?_
     simp [go_sem]
     refine hJ _ _ _ ?_
    refine oN_ ?_
    refine ⟨⟨(ip ++ [b], iq, (if swapB y a b = true then m + 1 else m)), by simp [← hli], by rw [← hgi]; simp [List.filter_cons, hsb]; try omega⟩, ?_, by simp⟩
    refine wO_ [((0, 999), some (0, 999))] (by simp [go_sem]) ?_ ?_ <;> simp [go_sem, wN_ hpi, hsb, wm]
   ·
    refine aR_ ?_
    iterate 11
     refine oC_ fun J hJ => ?_
     simp [go_sem, k1, k2, k3]
     refine hJ _ _ _ ?_
    refine oN_ ?_
    refine hK18 _ ?_
    refine aF_ rfl ?_
    refine aK_ ?_
    refine hK15 _ ?_
    refine aR_ ?_
    iterate 2
     refine oC_ fun J hJ => ?_
     simp [go_sem]
     refine hJ _ _ _ ?_
    refine oN_ ?_
    refine ⟨⟨(ip ++ [b], iq, (if swapB y a b = true then m + 1 else m)), by simp [← hli], by rw [← hgi]; simp [List.filter_cons, hsb]; try omega⟩, ?_, by simp⟩
    refine wO_ [((0, 999), some (0, 999))] (by simp [go_sem]) ?_ ?_ <;> simp [go_sem, wN_ hpi, hsb, wm]
   ·
    refine aR_ ?_
    iterate 11
     refine oC_ fun J hJ => ?_
     simp [go_sem, k1, k2, k3]
     refine hJ _ _ _ ?_
    refine oN_ ?_
    refine hK18 _ ?_
    refine aT_ rfl ?_
    refine aR_ ?_
    iterate 3
     refine oC_ fun J hJ => ?_
     simp [go_sem, wm]
     refine hJ _ _ _ ?_
    refine oN_ ?_
    refine hK15 _ ?_
    refine aR_ ?_
    iterate 2
     refine oC_ fun J hJ => ?_
     simp [go_sem]
     refine hJ _ _ _ ?_
    refine oN_ ?_
    refine ⟨⟨(ip ++ [b], iq, (if swapB y a b = true then m + 1 else m)), by simp [← hli], by rw [← hgi]; simp [List.filter_cons, hsb]; try omega⟩, ?_, by simp⟩
    refine wO_ [((0, 999), some (0, 999))] (by simp [go_sem]) ?_ ?_ <;> simp [go_sem, wN_ hpi, hsb, wm]
  ·
   simp [go_sem] at c14
   obtain ⟨rfl, hie⟩ := mN_ hli c14
   have hm2 : m + cntP (swapB y) post = swapsL x y := by rw [← hgo, cntP_cons, ← Nat.add_assoc, ← hgi]; simp
   refine aX_ ?_
   simp only [go_sem]
   refine hK8 _ ?_
   refine aR_ ?_
   iterate 2
    refine oC_ fun J hJ => ?_
    simp [go_sem]
    refine hJ _ _ _ ?_
   refine oN_ ?_
   refine ⟨⟨(pre ++ [a], post, m), by simp [← hl], by exact hm2⟩, ?_, by simp⟩
   refine wO_ [((0, 999), some (0, 999))] (by simp [go_sem]) ?_ ?_ <;> simp [go_sem, wN_ hpl]
 ·
  simp [go_sem] at c7
  obtain ⟨rfl, hpe⟩ := mN_ hl c7
  have hn : n = swapsL x y := by rw [← hgo]; simp [cntP]
  refine aX_ ?_
  simp only [go_sem]
  refine hK3 _ ?_
  refine aQ_ ?_
  iterate 2
   refine oC_ fun J hJ => ?_
   simp [go_sem]
   refine hJ _ _ _ ?_
  refine oN_ ?_
  refine aE_ ?_
  refine fQ_ [] ?_
  simp [go_sem, Try.f21, hn]
end Go.Proofs.Ytfbooejaabdkoaa.AE
