/-
 Package clash: Swap, Free, Sink. Conditions: none; every contract names its own.
-/
import Derived.Test.YtiifcalgolkpiaaOCl1
set_option linter.constructorNameAsVariable false
namespace Go.Proofs.Ytiifcalgolkpiaa.AE
open Go Go.Proofs Go.RowKit
set_option linter.unusedVariables false
set_option linter.unusedSimpArgs false
set_option maxRecDepth 100000
set_option maxHeartbeats 4000000
def bothB (n : Nat) (i : Int) : Bool := decide (0 ≤ i ∧ i < (n : Int) - 1)
theorem both_T {n : Nat} {i : Int} (h : bothB n i = true) : ∃ k : Nat, i = k ∧ k + 1 < n := by
 simp only [bothB, decide_eq_true_eq] at h
 exact ⟨i.toNat, by omega, by omega⟩
theorem both_F {n : Nat} {i : Int} (h : bothB n i = false) : i < 0 ∨ (n : Int) ≤ i + 1 := by
 simp only [bothB, decide_eq_false_iff_not] at h
 omega
def swapZ (l : List Chg) (i : Int) : List Chg := if bothB l.length i = true then swapN l i.toNat else l
theorem swapZ_len (l : List Chg) (i : Int) : (swapZ l i).length = l.length := by
 unfold swapZ
 split
 · exact swapN_len ..
 · rfl
def freeZ (p : Bk × List Ord) (l : List Chg) (i : Int) : Bool := bothB l.length i && freeB p l i.toNat
theorem freeZ_nat (p : Bk × List Ord) (l : List Chg) (k : Nat) : freeZ p l (k : Int) = freeB p l k := by
 unfold freeZ
 by_cases h : bothB l.length (k : Int) = true
 · rw [h]; simp
 ·
  simp only [Bool.not_eq_true] at h
  rw [h]
  rcases both_F h with h2 | h2
  · omega
  ·
   unfold freeB
   have : l[k + 1]? = none := List.getElem?_eq_none (by omega)
   rw [this]
   cases l[k]? <;> rfl
theorem get_two {l : List Chg} {k : Nat} (h : k + 1 < l.length) : ∃ x y, l[k]? = some x ∧ l[k + 1]? = some y := ⟨l[k], l[k + 1], List.getElem?_eq_getElem _, List.getElem?_eq_getElem _⟩
theorem clash_atP (p : Bk × List Ord) (c d : Chg) (h : FairP p ∧ p.2.length ≤ 29000) : clashS [.agg (cBk p.1 (.sl 7 (rows cOrd p.2))), .agg (cChg c), .agg (cChg d)] [] = some ⟨.bool (clashB p c d), [], []⟩ := clashS_at p.1 p.2 c d ⟨h.1.1, h.1.2, h.2⟩
def cPr (x : Nat × Nat) : List AV := [.int .i64 (x.1 : Int), .int .i64 (x.2 : Int)]
@[go_sem] theorem cPr_len (x : Nat × Nat) : (cPr x).length = 2 := rfl
theorem cV_pr (a b : Nat) : cV (((zV 2).put 0 (a : Int)).put 1 (b : Int)) = cPr (a, b) := rfl
theorem cPr_at (i k : Nat) : [AV.int .i64 (i : Int), .int .i64 (k : Int)] = cPr (i, k) := rfl
@[go_sem] theorem rows_cPr1 (x : Nat × Nat) : [cPr x] = rows cPr [x] := rfl
theorem cPr_inj {x y : Nat × Nat} (h : cPr x = cPr y) : x = y := by
 simp only [cPr, List.cons.injEq, AV.int.injEq, true_and, and_true] at h
 exact Prod.ext (by omega) (by omega)
theorem rows_iff_Pr {L M : List (Nat × Nat)} : rows cPr L = rows cPr M ↔ L = M := ⟨rows_inj (fun x y => cPr_inj), fun h => h ▸ rfl⟩
@[go_sem] theorem cPr_flat (x : Nat × Nat) : (cPr x).all flatC = true := rfl
@[go_sem] theorem cPr_view (x : Nat × Nat) (H d) : (cPr x).map (view H d) = cPr x := by simp only [cPr, List.map_cons, List.map_nil, view_int]
@[go_sem] theorem cPr_take_app (x : Nat × Nat) (X : List AV) : (cPr x ++ X).take 2 = cPr x := rfl
@[go_sem] theorem cPr_take (x : Nat × Nat) : (cPr x).take 2 = cPr x := rfl
def innL (p : Bk × List Ord) (l : List Chg) (x : Chg) (i : Nat) : Nat → List (Nat × Nat)
 | 0 => []
 | n + 1 => innL p l x i n ++ (match l[i + 1 + n]? with
  | some y => if clashB p x y = true then [(i, i + 1 + n)] else []
  | none => [])
def allL (p : Bk × List Ord) (l : List Chg) : Nat → List (Nat × Nat)
 | 0 => []
 | n + 1 => allL p l n ++ (match l[n]? with
  | some x => innL p l x n (l.length - (n + 1))
  | none => [])
theorem innL_len (p : Bk × List Ord) (l : List Chg) (x : Chg) (i : Nat) : ∀ n, (innL p l x i n).length ≤ n
 | 0 => Nat.le_refl _
 | n + 1 => by
  have := innL_len p l x i n
  simp only [innL, List.length_append]
  split
  · split <;> simp <;> omega
  · simp; omega
theorem allL_len (p : Bk × List Ord) (l : List Chg) : ∀ n, (allL p l n).length ≤ n * l.length
 | 0 => Nat.zero_le _
 | n + 1 => by
  have h1 := allL_len p l n
  simp only [allL, List.length_append, Nat.add_mul]
  split
  ·
   rename_i x _
   have h2 := innL_len p l x n (l.length - (n + 1))
   omega
  · simp; omega
theorem innL_succ {p : Bk × List Ord} {l : List Chg} {x y : Chg} {i n : Nat} (h : l[i + 1 + n]? = some y) : innL p l x i (n + 1) = innL p l x i n ++ (if clashB p x y = true then [(i, i + 1 + n)] else []) := by
 simp only [innL, h]
theorem allL_succ {p : Bk × List Ord} {l : List Chg} {x : Chg} {n : Nat} (h : l[n]? = some x) : allL p l (n + 1) = allL p l n ++ innL p l x n (l.length - (n + 1)) := by
 simp only [allL, h]
@[go_sem] theorem allL_0 (p : Bk × List Ord) (l : List Chg) : allL p l 0 = [] := rfl
@[go_sem] theorem innL_0 (p : Bk × List Ord) (l : List Chg) (x : Chg) (i : Nat) : innL p l x i 0 = [] := rfl
def allI (b : Bk) (os : List Ord) (l pre _post : List Chg) : St := ⟨ofL [(1, .sl 9 (rows cChg l)), (2, .ref (0, 32) 0), (5, .own (0, 999) (allL (b, os) l pre.length).length), (9, .sl 9 (rows cChg l)), (10, .int .i64 l.length), (11, .int .i64 pre.length)], hOf [((0, 32), .obj (cBk b (.sl 7 (rows cOrd os)))), ((0, 999), .row 79 2 (rows cPr (allL (b, os) l pre.length)) false)]⟩
def allJ (b : Bk) (os : List Ord) (l : List Chg) (x : Chg) (i n : Nat) : St := ⟨ofL [(1, .sl 9 (rows cChg l)), (2, .ref (0, 32) 0), (5, .own (0, 998) (allL (b, os) l i ++ innL (b, os) l x i n).length), (6, .int .i64 i), (7, .ref (0, 112) 0), (8, .int .i64 ((i + 1 + n : Nat) : Int)), (9, .sl 9 (rows cChg l)), (10, .int .i64 l.length), (11, .int .i64 i)], hOf [((0, 32), .obj (cBk b (.sl 7 (rows cOrd os)))), ((0, 112), .obj (cChg x)), ((0, 998), .row 79 2 (rows cPr (allL (b, os) l i ++ innL (b, os) l x i n)) false)]⟩
def sinkI (b : Bk) (os : List Ord) (M : List Chg) : St := ⟨ofL [(2, .ref (0, 32) 0), (5, .own (0, 999) M.length)], hOf [((0, 32), .obj (cBk b (.sl 7 (rows cOrd os)))), ((0, 999), .row 29 9 (rows cChg M) false)]⟩
def sinkJ (b : Bk) (os : List Ord) (M : List Chg) (i : Nat) : St := ⟨ofL [(2, .ref (0, 32) 0), (5, .own (0, 999) M.length), (11, .int .i64 ((M.length : Int) - 1)), (12, .int .i64 i)], hOf [((0, 32), .obj (cBk b (.sl 7 (rows cOrd os)))), ((0, 999), .row 29 9 (rows cChg M) false)]⟩
structure bothX where
 l : List Chg
 l' : AV
 i : Int
 h_l : SlA 9 cChg l l'
 hL : l.length ≤ 100000
noncomputable def bothS : HSpec := mkH (ι := bothX) (fun ⟨l, l', i, h_l, hL⟩ => ([l', .int .i64 i], [])) fun ⟨l, l', i, h_l, hL⟩ => ⟨.bool (bothB l.length i), [], []⟩
theorem bothS_atG (l : List Chg) (l' : AV) (i : Int) (h_l : SlA 9 cChg l l') (hL : l.length ≤ 100000) : bothS [l', .int .i64 i] [] = some (⟨.bool (bothB l.length i), [], []⟩) :=
 mA_ (ι := bothX) (fun i j h => by obtain ⟨l, l', i, h_l, hL⟩ := i; obtain ⟨l2, l'2, i2, h_l2, hL2⟩ := j; simp [and_assoc, qB_, qI_, qO_, qC_, qE_, qK_, qR_, qV_, qP_, qOc_] at h; obtain ⟨rfl, rfl⟩ := h; obtain rfl := SlA.inj (fun x y h => cChg_inj h) h_l h_l2; rfl) ⟨l, l', i, h_l, hL⟩
theorem bothS_at (l : List Chg) (i : Int) (hL : l.length ≤ 100000) : bothS [(.sl 9 (rows cChg l)), .int .i64 i] [] = some (⟨.bool (bothB l.length i), [], []⟩) := bothS_atG l _ i .sl hL
theorem both_ok : HSound Try.prog 64 bothS := by
 refine sE_ (fn := Try.f64) rfl rfl (by kernel_rfl) fun args bx hr hS => ?_
 obtain ⟨⟨l, l', i, h_l, hL⟩, rfl, rfl, rfl⟩ := mO_ hS
 clear hS
 refine ⟨_, (eN_ _), by simp [Try.f64], by simp [go_sem], fun w Mx pin => ?_⟩
 simp only [hB_at, lab_nil, lab_cons, hOf_nil, hOf_cons]
 refine aW_ (s' := ⟨ofL [(0, (.sl 9 (rows cChg l))), (1, .int .i64 i)], hOf []⟩) ?_ ?_
 · cases h_l <;> exact wO_ [] (by simp [go_sem]) (by simp [go_sem]) (by simp [go_sem])
 clear h_l
 have w1 : IntKind.i64.wrap ((l.length : Int) - 1) = (l.length : Int) - 1 := wA_ (by omega)
 refine aQ_ ?_
 iterate 1
  refine oC_ fun J hJ => ?_
  simp [go_sem]
  refine hJ _ _ _ ?_
  clear hJ J
 refine oN_ ?_
 refine aS_ fun K2 hK2 => ?_
 by_cases h1 : 0 ≤ i
 all_goals
  refine aR_ ?_
  iterate 10
   refine oC_ fun J hJ => ?_
   simp [go_sem, h1, w1]
   refine hJ _ _ _ ?_
   clear hJ J
  refine oN_ ?_
  refine hK2 _ ?_
  clear hK2
  refine aE_ ?_
  refine fQ_ [] ?_
  simp [go_sem, Try.f64, bothB, h1]
structure swapCX where
 l : List Chg
 l' : AV
 i : Int
 h_l : SlA 9 cChg l l'
 hL : l.length ≤ 100000
noncomputable def swapCS : HSpec := mkH (ι := swapCX) (fun ⟨l, l', i, h_l, hL⟩ => ([l', .int .i64 i], [])) fun ⟨l, l', i, h_l, hL⟩ => ⟨.own (2, 0) (swapZ l i).length, [], [.row 29 9 (rows cChg (swapZ l i)) false]⟩
theorem swapCS_atG (l : List Chg) (l' : AV) (i : Int) (h_l : SlA 9 cChg l l') (hL : l.length ≤ 100000) : swapCS [l', .int .i64 i] [] = some (⟨.own (2, 0) (swapZ l i).length, [], [.row 29 9 (rows cChg (swapZ l i)) false]⟩) :=
 mA_ (ι := swapCX) (fun i j h => by obtain ⟨l, l', i, h_l, hL⟩ := i; obtain ⟨l2, l'2, i2, h_l2, hL2⟩ := j; simp [and_assoc, qB_, qI_, qO_, qC_, qE_, qK_, qR_, qV_, qP_, qOc_] at h; obtain ⟨rfl, rfl⟩ := h; obtain rfl := SlA.inj (fun x y h => cChg_inj h) h_l h_l2; rfl) ⟨l, l', i, h_l, hL⟩
theorem swapCS_at (l : List Chg) (i : Int) (hL : l.length ≤ 100000) : swapCS [(.sl 9 (rows cChg l)), .int .i64 i] [] = some (⟨.own (2, 0) (swapZ l i).length, [], [.row 29 9 (rows cChg (swapZ l i)) false]⟩) := swapCS_atG l _ i .sl hL
theorem swapC_ok : HSound Try.prog 37 swapCS := by
 refine sE_ (fn := Try.f37) rfl rfl (by kernel_rfl) fun args bx hr hS => ?_
 obtain ⟨⟨l, l', i, h_l, hL⟩, rfl, rfl, rfl⟩ := mO_ hS
 clear hS
 refine ⟨_, (eV_ (g := 63) (by kernel_rfl) cloneChg_ok (eV_ (g := 64) (by kernel_rfl) both_ok (eN_ _))), by simp [Try.f37], by simp [go_sem], fun w Mx pin => ?_⟩
 simp only [hB_at, lab_nil, lab_cons, hOf_nil, hOf_cons]
 refine aW_ (s' := ⟨ofL [(0, (.sl 9 (rows cChg l))), (1, .int .i64 i)], hOf []⟩) ?_ ?_
 · cases h_l <;> exact wO_ [] (by simp [go_sem]) (by simp [go_sem]) (by simp [go_sem])
 clear h_l
 refine aQ_ ?_
 iterate 1
  refine oC_ fun J hJ => ?_
  simp [go_sem]
  refine hJ _ _ _ ?_
  clear hJ J
 refine oN_ ?_
 refine aQ_ ?_
 iterate 3
  refine oC_ fun J hJ => ?_
  simp [go_sem, cloneChgS_at l hL]
  refine hJ _ _ _ ?_
  clear hJ J
 refine oN_ ?_
 refine aS_ fun K3 hK3 => ?_
 refine aS_ fun K4 hK4 => ?_
 cases hb : bothB l.length i
 ·
  have hz : swapZ l i = l := if_neg (by simp [hb])
  refine aR_ ?_
  iterate 3
   refine oC_ fun J hJ => ?_
   simp [go_sem, bothS_at l i hL, hb]
   refine hJ _ _ _ ?_
   clear hJ J
  refine oN_ ?_
  refine hK4 _ ?_
  clear hK4
  refine aF_ rfl ?_
  refine aK_ ?_
  refine hK3 _ ?_
  clear hK3
  refine aQ_ ?_
  iterate 2
   refine oC_ fun J hJ => ?_
   simp [go_sem]
   refine hJ _ _ _ ?_
   clear hJ J
  refine oN_ ?_
  refine aE_ ?_
  refine fQ_ [((2, 0), some (0, 112))] ?_
  simp [go_sem, Try.f37, hz]
 ·
  have hz0 : swapZ l i = swapN l i.toNat := if_pos hb
  obtain ⟨k, rfl, hk⟩ := both_T hb
  obtain ⟨x, y, hx, hy⟩ := get_two hk
  have hz : swapZ l (k : Int) = (l.set k y).set (k + 1) x := by rw [hz0, Int.toNat_natCast, swapN_eq hx hy]
  have wk := wN_ (n := k) (by omega)
  have hk1 : k < l.length := by omega
  have hkt : ((k : Int) + 1).toNat = k + 1 := by omega
  have h0 : (0 : Int) ≤ (k : Int) + 1 := by omega
  have hkl : (k : Int) + 1 < l.length := by omega
  refine aR_ ?_
  iterate 3
   refine oC_ fun J hJ => ?_
   simp [go_sem, bothS_at l (k : Int) hL, hb]
   refine hJ _ _ _ ?_
   clear hJ J
  refine oN_ ?_
  refine hK4 _ ?_
  clear hK4
  refine aT_ rfl ?_
  refine aD_ ?_
  iterate 18
   refine oC_ fun J hJ => ?_
   simp [go_sem, wk, hk, hk1, hkt, h0, hkl, ↓hx, ↓hy]
   refine hJ _ _ _ ?_
   clear hJ J
  refine oN_ ?_
  refine ⟨rfl, ?_⟩
  refine hK3 _ ?_
  clear hK3
  refine aQ_ ?_
  iterate 2
   refine oC_ fun J hJ => ?_
   simp [go_sem]
   refine hJ _ _ _ ?_
   clear hJ J
  refine oN_ ?_
  refine aE_ ?_
  refine fQ_ [((2, 0), some (0, 112))] ?_
  simp [go_sem, Try.f37, hz]
structure freeCX where
 b : Bk
 os : List Ord
 os' : AV
 l : List Chg
 l' : AV
 i : Int
 h_os : SlA 7 cOrd os os'
 h_l : SlA 9 cChg l l'
 hL : FairB b ∧ FairO os ∧ os.length + l.length ≤ 29000
noncomputable def freeCS : HSpec := mkH (ι := freeCX) (fun ⟨b, os, os', l, l', i, h_os, h_l, hL⟩ => ([.agg (cBk b os'), l', .int .i64 i], [])) fun ⟨b, os, os', l, l', i, h_os, h_l, hL⟩ => ⟨.bool (freeZ (b, os) l i), [], []⟩
theorem freeCS_atG (b : Bk) (os : List Ord) (os' : AV) (l : List Chg) (l' : AV) (i : Int) (h_os : SlA 7 cOrd os os') (h_l : SlA 9 cChg l l') (hL : FairB b ∧ FairO os ∧ os.length + l.length ≤ 29000) : freeCS [.agg (cBk b os'), l', .int .i64 i] [] = some (⟨.bool (freeZ (b, os) l i), [], []⟩) :=
 mA_ (ι := freeCX) (fun i j h => by obtain ⟨b, os, os', l, l', i, h_os, h_l, hL⟩ := i; obtain ⟨b2, os2, os'2, l2, l'2, i2, h_os2, h_l2, hL2⟩ := j; simp [and_assoc, qB_, qI_, qO_, qC_, qE_, qK_, qR_, qV_, qP_, qOc_] at h; obtain ⟨rfl, rfl, rfl, rfl⟩ := h; obtain rfl := SlA.inj (fun x y h => cOrd_inj h) h_os h_os2; obtain rfl := SlA.inj (fun x y h => cChg_inj h) h_l h_l2; rfl) ⟨b, os, os', l, l', i, h_os, h_l, hL⟩
theorem freeCS_at (b : Bk) (os : List Ord) (l : List Chg) (i : Int) (hL : FairB b ∧ FairO os ∧ os.length + l.length ≤ 29000) : freeCS [.agg (cBk b (.sl 7 (rows cOrd os))), (.sl 9 (rows cChg l)), .int .i64 i] [] = some (⟨.bool (freeZ (b, os) l i), [], []⟩) := freeCS_atG b os _ l _ i .sl .sl hL
theorem freeC_ok : HSound Try.prog 38 freeCS := by
 refine sE_ (fn := Try.f38) rfl rfl (by kernel_rfl) fun args bx hr hS => ?_
 obtain ⟨⟨b, os, os', l, l', i, h_os, h_l, hL⟩, rfl, rfl, rfl⟩ := mO_ hS
 clear hS
 refine ⟨_, (eV_ (g := 64) (by kernel_rfl) both_ok (eV_ (g := 34) (by kernel_rfl) lastF_ok (eV_ (g := 46) (by kernel_rfl) clash_ok (eN_ _)))), by simp [Try.f38], by simp [go_sem], fun w Mx pin => ?_⟩
 simp only [hB_at, lab_nil, lab_cons, hOf_nil, hOf_cons]
 refine aW_ (s' := ⟨ofL [(0, .agg (cBk b (.sl 7 (rows cOrd os)))), (1, (.sl 9 (rows cChg l))), (2, .int .i64 i)], hOf []⟩) ?_ ?_
 · cases h_os <;> cases h_l <;> exact wO_ [] (by simp [go_sem]) (by simp [go_sem]) (by simp [go_sem])
 clear h_os h_l
 obtain ⟨hF, hO, hlen⟩ := hL
 have hl1 : l.length ≤ 100000 := by omega
 refine aQ_ ?_
 iterate 2
  refine oC_ fun J hJ => ?_
  simp [go_sem]
  refine hJ _ _ _ ?_
  clear hJ J
 refine oN_ ?_
 refine aS_ fun K2 hK2 => ?_
 cases hb : bothB l.length i
 ·
  have hz : freeZ (b, os) l i = false := by simp [freeZ, hb]
  refine aD_ ?_
  iterate 22
   refine oC_ fun J hJ => ?_
   simp [go_sem, bothS_at l i hl1, hb]
   refine hJ _ _ _ ?_
   clear hJ J
  refine oN_ ?_
  refine ⟨rfl, ?_⟩
  refine hK2 _ ?_
  clear hK2
  refine aE_ ?_
  rw [hz]
  refine fQ_ [] ?_
  simp [go_sem, Try.f38]
 ·
  obtain ⟨k, rfl, hk⟩ := both_T hb
  obtain ⟨x, y, hx, hy⟩ := get_two hk
  have hz : freeZ (b, os) l (k : Int) = !clashB (bkL (b, os) (l.take k)) x y := by rw [freeZ_nat, freeB_eq hx hy]
  have wk := wN_ (n := k) (by omega)
  have hk1 : k < l.length := by omega
  have hk2 : k ≤ l.length := by omega
  have hkt : ((k : Int) + 1).toNat = k + 1 := by omega
  have h0 : (0 : Int) ≤ (k : Int) + 1 := by omega
  have hkl : (k : Int) + 1 < l.length := by omega
  obtain ⟨hfp, hlp⟩ := bkL_fair (p := (b, os)) ⟨hF, hO⟩ (l.take k)
  simp only [List.length_take] at hlp
  refine aD_ ?_
  iterate 22
   refine oC_ fun J hJ => ?_
   simp [go_sem, bothS_at l (k : Int) hl1, hb, wk, hk, hk1, hk2, hkt, h0, hkl, ↓hx, ↓hy, lastFS_at b os (l.take k) ⟨hF, hO, by simp; omega⟩, clash_atP (bkL (b, os) (l.take k)) x y ⟨hfp, by omega⟩]
   refine hJ _ _ _ ?_
   clear hJ J
  refine oN_ ?_
  refine ⟨rfl, ?_⟩
  refine hK2 _ ?_
  clear hK2
  refine aE_ ?_
  rw [hz]
  refine fQ_ [] ?_
  simp [go_sem, Try.f38]
structure sinkX where
 b : Bk
 os : List Ord
 os' : AV
 l : List Chg
 l' : AV
 h_os : SlA 7 cOrd os os'
 h_l : SlA 9 cChg l l'
 hL : FairB b ∧ FairO os ∧ os.length + l.length ≤ 29000
noncomputable def sinkS : HSpec := mkH (ι := sinkX) (fun ⟨b, os, os', l, l', h_os, h_l, hL⟩ => ([.agg (cBk b os'), l'], [])) fun ⟨b, os, os', l, l', h_os, h_l, hL⟩ => ⟨.own (2, 0) (sinkL (b, os) l).length, [], [.row 29 9 (rows cChg (sinkL (b, os) l)) false]⟩
theorem sinkS_atG (b : Bk) (os : List Ord) (os' : AV) (l : List Chg) (l' : AV) (h_os : SlA 7 cOrd os os') (h_l : SlA 9 cChg l l') (hL : FairB b ∧ FairO os ∧ os.length + l.length ≤ 29000) : sinkS [.agg (cBk b os'), l'] [] = some (⟨.own (2, 0) (sinkL (b, os) l).length, [], [.row 29 9 (rows cChg (sinkL (b, os) l)) false]⟩) :=
 mA_ (ι := sinkX) (fun i j h => by obtain ⟨b, os, os', l, l', h_os, h_l, hL⟩ := i; obtain ⟨b2, os2, os'2, l2, l'2, h_os2, h_l2, hL2⟩ := j; simp [and_assoc, qB_, qI_, qO_, qC_, qE_, qK_, qR_, qV_, qP_, qOc_] at h; obtain ⟨rfl, rfl, rfl⟩ := h; obtain rfl := SlA.inj (fun x y h => cOrd_inj h) h_os h_os2; obtain rfl := SlA.inj (fun x y h => cChg_inj h) h_l h_l2; rfl) ⟨b, os, os', l, l', h_os, h_l, hL⟩
theorem sinkS_at (b : Bk) (os : List Ord) (l : List Chg) (hL : FairB b ∧ FairO os ∧ os.length + l.length ≤ 29000) : sinkS [.agg (cBk b (.sl 7 (rows cOrd os))), (.sl 9 (rows cChg l))] [] = some (⟨.own (2, 0) (sinkL (b, os) l).length, [], [.row 29 9 (rows cChg (sinkL (b, os) l)) false]⟩) := sinkS_atG b os _ l _ .sl .sl hL
theorem sink_ok : HSound Try.prog 41 sinkS := by
 refine sE_ (fn := Try.f41) rfl rfl (by kernel_rfl) fun args bx hr hS => ?_
 obtain ⟨⟨b, os, os', l, l', h_os, h_l, hL⟩, rfl, rfl, rfl⟩ := mO_ hS
 clear hS
 refine ⟨_, (eV_ (g := 63) (by kernel_rfl) cloneChg_ok (eV_ (g := 65) (by kernel_rfl) lessChg_ok (eV_ (g := 38) (by kernel_rfl) freeC_ok (eV_ (g := 37) (by kernel_rfl) swapC_ok (eN_ _))))), by simp [Try.f41], by simp [go_sem], fun w Mx pin => ?_⟩
 simp only [hB_at, lab_nil, lab_cons, hOf_nil, hOf_cons]
 refine aW_ (s' := ⟨ofL [(0, .agg (cBk b (.sl 7 (rows cOrd os)))), (1, (.sl 9 (rows cChg l)))], hOf []⟩) ?_ ?_
 · cases h_os <;> cases h_l <;> exact wO_ [] (by simp [go_sem]) (by simp [go_sem]) (by simp [go_sem])
 clear h_os h_l
 obtain ⟨hF, hO, hlen⟩ := hL
 have hl1 : l.length ≤ 100000 := by omega
 refine aQ_ ?_
 iterate 2
  refine oC_ fun J hJ => ?_
  simp [go_sem]
  refine hJ _ _ _ ?_
  clear hJ J
 refine oN_ ?_
 refine awp_scopeS (ι := { M : List Chg // M.length = l.length ∧ sinkL (b, os) M = sinkL (b, os) l }) (fun q => sinkI b os q.1) (fun q => inv43 q.1) rfl ?first ?pass
 case first =>
  refine aR_ ?_
  iterate 3
   refine oC_ fun J hJ => ?_
   simp [go_sem, cloneChgS_at l hl1]
   refine hJ _ _ _ ?_
   clear hJ J
  refine oN_ ?_
  refine ⟨⟨l, rfl, rfl⟩, ?_⟩
  refine wO_ [((0, 32), some (0, 32)), ((0, 999), some (0, 128))] (by simp [go_sem]) ?_ ?_ <;> simp [go_sem]
 case pass =>
  intro ⟨M, hM, hgo⟩
  try simp only at hM hgo
  simp only [sinkI]
  have wM : IntKind.i64.wrap ((M.length : Int) - 1) = (M.length : Int) - 1 := wA_ (by omega)
  have hMl : M.length ≤ 100000 := by omega
  refine awpG_seq fun K4 hK4 => ?_
  refine awpG_seq fun K5 hK5 => ?_
  refine awpG_region ?_
  iterate 4
   refine oC_ fun J hJ => ?_
   simp [go_sem, wM]
   refine hJ _ _ _ ?_
   clear hJ J
  refine oN_ ?_
  refine hK5 _ ?_
  clear hK5
  refine awpG_block ?_
  refine awpG_loop (ι := { i : Nat // i ≤ M.length ∧ ∀ j, j < i → readyB (b, os) M j = false }) (fun q => sinkJ b os M q.1) (fun q => M.length - q.1) ⟨0, by omega, fun j hj => by omega⟩ ?_ ?_
  · refine wO_ [((0, 32), some (0, 32)), ((0, 999), some (0, 999))] (by simp [go_sem]) ?_ ?_ <;> simp [go_sem, wM]
  intro ⟨i, hi, hb⟩
  try simp only at hi hb
  simp only [sinkJ]
  refine awpG_seq fun K6 hK6 => ?_
  refine awpG_region ?_
  iterate 1
   refine oC_ fun J hJ => ?_
   simp [go_sem]
   refine hJ _ _ _ ?_
   clear hJ J
  refine oN_ ?_
  refine hK6 _ ?_
  clear hK6
  refine awpG_seq fun K7 hK7 => ?_
  refine awpG_cond (t := _) rfl (fun c8 => ?_) (fun c8 => ?_)
  ·
   simp [go_sem] at c8
   refine awpG_skip ?_
   refine hK7 _ ?_
   clear hK7
   refine awpG_seq fun K9 hK9 => ?_
   refine awpG_block ?_
   refine awpG_seq fun K10 hK10 => ?_
   have hi1 : i + 1 < M.length := by omega
   obtain ⟨x, y, hx, hy⟩ := get_two hi1
   have wi := wN_ (n := i) (by omega)
   have hk1 : i < M.length := by omega
   have hkt : ((i : Int) + 1).toNat = i + 1 := by omega
   have h0 : (0 : Int) ≤ (i : Int) + 1 := by omega
   have hkl : (i : Int) + 1 < M.length := by omega
   have hr := readyB_eq (p := (b, os)) hx hy
   have hsz : swapZ M (i : Int) = swapN M i := by unfold swapZ; rw [if_pos (by simp [bothB]; omega), Int.toNat_natCast]
   have hsw := swapN_len M i
   have hfz := freeZ_nat (b, os) M i
   cases hl2 : lessChg y x <;> cases hf2 : freeB (b, os) M i
   ·
    rw [hl2, Bool.false_and] at hr
    refine awpG_region ?_
    iterate 2
     refine oC_ fun J hJ => ?_
     simp [go_sem]
     refine hJ _ _ _ ?_
     clear hJ J
    refine oN_ ?_
    refine hK10 _ ?_
    clear hK10
    refine awpG_seq fun K11 hK11 => ?_
    refine awpG_draw ?_
    iterate 16
     refine oC_ fun J hJ => ?_
     simp [go_sem, wi, hi1, hk1, hkt, h0, hkl, ↓hx, ↓hy, lessChgS_at y x, hl2]
     refine hJ _ _ _ ?_
     clear hJ J
    refine oN_ ?_
    refine ⟨rfl, ?_⟩
    refine hK11 _ ?_
    clear hK11
    refine awpG_condF rfl ?_
    refine awpG_skip ?_
    refine hK9 _ ?_
    clear hK9
    refine awpG_region ?_
    iterate 2
     refine oC_ fun J hJ => ?_
     simp [go_sem, wi]
     refine hJ _ _ _ ?_
     clear hJ J
    refine oN_ ?_
    refine ⟨⟨i + 1, by omega, fun j hj => ?_⟩, ?_, by simp; omega⟩
    ·
     rcases Nat.lt_or_ge j i with h | h
     · exact hb j h
     ·
      obtain rfl : j = i := by omega
      exact hr
    refine wO_ [((0, 32), some (0, 32)), ((0, 999), some (0, 999))] (by simp [go_sem]) ?_ ?_ <;> simp [go_sem, wi]
   ·
    rw [hl2, Bool.false_and] at hr
    refine awpG_region ?_
    iterate 2
     refine oC_ fun J hJ => ?_
     simp [go_sem]
     refine hJ _ _ _ ?_
     clear hJ J
    refine oN_ ?_
    refine hK10 _ ?_
    clear hK10
    refine awpG_seq fun K11 hK11 => ?_
    refine awpG_draw ?_
    iterate 16
     refine oC_ fun J hJ => ?_
     simp [go_sem, wi, hi1, hk1, hkt, h0, hkl, ↓hx, ↓hy, lessChgS_at y x, hl2]
     refine hJ _ _ _ ?_
     clear hJ J
    refine oN_ ?_
    refine ⟨rfl, ?_⟩
    refine hK11 _ ?_
    clear hK11
    refine awpG_condF rfl ?_
    refine awpG_skip ?_
    refine hK9 _ ?_
    clear hK9
    refine awpG_region ?_
    iterate 2
     refine oC_ fun J hJ => ?_
     simp [go_sem, wi]
     refine hJ _ _ _ ?_
     clear hJ J
    refine oN_ ?_
    refine ⟨⟨i + 1, by omega, fun j hj => ?_⟩, ?_, by simp; omega⟩
    ·
     rcases Nat.lt_or_ge j i with h | h
     · exact hb j h
     ·
      obtain rfl : j = i := by omega
      exact hr
    refine wO_ [((0, 32), some (0, 32)), ((0, 999), some (0, 999))] (by simp [go_sem]) ?_ ?_ <;> simp [go_sem, wi]
   ·
    rw [hl2, hf2, Bool.and_false] at hr
    refine awpG_region ?_
    iterate 2
     refine oC_ fun J hJ => ?_
     simp [go_sem]
     refine hJ _ _ _ ?_
     clear hJ J
    refine oN_ ?_
    refine hK10 _ ?_
    clear hK10
    refine awpG_seq fun K11 hK11 => ?_
    refine awpG_draw ?_
    iterate 16
     refine oC_ fun J hJ => ?_
     simp [go_sem, wi, hi1, hk1, hkt, h0, hkl, ↓hx, ↓hy, lessChgS_at y x, hl2, freeCS_at b os M (i : Int) ⟨hF, hO, by omega⟩, hfz, hf2]
     refine hJ _ _ _ ?_
     clear hJ J
    refine oN_ ?_
    refine ⟨rfl, ?_⟩
    refine hK11 _ ?_
    clear hK11
    refine awpG_condF rfl ?_
    refine awpG_skip ?_
    refine hK9 _ ?_
    clear hK9
    refine awpG_region ?_
    iterate 2
     refine oC_ fun J hJ => ?_
     simp [go_sem, wi]
     refine hJ _ _ _ ?_
     clear hJ J
    refine oN_ ?_
    refine ⟨⟨i + 1, by omega, fun j hj => ?_⟩, ?_, by simp; omega⟩
    ·
     rcases Nat.lt_or_ge j i with h | h
     · exact hb j h
     ·
      obtain rfl : j = i := by omega
      exact hr
    refine wO_ [((0, 32), some (0, 32)), ((0, 999), some (0, 999))] (by simp [go_sem]) ?_ ?_ <;> simp [go_sem, wi]
   ·
    refine awpG_region ?_
    iterate 2
     refine oC_ fun J hJ => ?_
     simp [go_sem]
     refine hJ _ _ _ ?_
     clear hJ J
    refine oN_ ?_
    refine hK10 _ ?_
    clear hK10
    refine awpG_seq fun K11 hK11 => ?_
    refine awpG_draw ?_
    iterate 16
     refine oC_ fun J hJ => ?_
     simp [go_sem, wi, hi1, hk1, hkt, h0, hkl, ↓hx, ↓hy, lessChgS_at y x, hl2, freeCS_at b os M (i : Int) ⟨hF, hO, by omega⟩, hfz, hf2]
     refine hJ _ _ _ ?_
     clear hJ J
    refine oN_ ?_
    refine ⟨rfl, ?_⟩
    refine hK11 _ ?_
    clear hK11
    refine awpG_condT rfl ?_
    refine awpG_seq fun K13 hK13 => ?_
    refine awpG_region ?_
    iterate 4
     refine oC_ fun J hJ => ?_
     simp [go_sem, swapCS_at M (i : Int) hMl, hsz]
     refine hJ _ _ _ ?_
     clear hJ J
    refine oN_ ?_
    refine hK13 _ ?_
    clear hK13
    refine awpG_goto ?_
    have hr1 : readyB (b, os) M i = true := by rw [hr, hl2, hf2]; rfl
    refine ⟨⟨swapN M i, by rw [swapN_len]; exact hM, by rw [← hgo]; exact (sink_some hr1 hb).symm⟩, ?_, by have := inv43_ready hr1; simp; omega⟩
    refine wO_ [((0, 32), some (0, 32)), ((0, 999), some (0, 528))] (by simp [go_sem]) ?_ ?_ <;> simp [go_sem, hsw]
  ·
   simp [go_sem] at c8
   have hend : sinkL (b, os) M = M := sink_none fun j hj => hb j (by omega)
   refine awpG_exit ?_
   simp only [go_sem]
   refine hK4 _ ?_
   clear hK4
   refine awpG_seq fun K14 hK14 => ?_
   refine awpG_region ?_
   iterate 2
    refine oC_ fun J hJ => ?_
    simp [go_sem]
    refine hJ _ _ _ ?_
    clear hJ J
   refine oN_ ?_
   refine hK14 _ ?_
   clear hK14
   refine awpG_ret ?_
   rw [← hgo, hend]
   refine fQ_ [((2, 0), some (0, 999))] ?_
   simp [go_sem, Try.f41]
end Go.Proofs.Ytiifcalgolkpiaa.AE
