/-
 RebaseTells. Conditions: none; every contract names its own.
-/
import Derived.Test.YtfbooejaabdkoaaORb4
import Derived.Test.YtfbooejaabdkoaaPg
set_option linter.constructorNameAsVariable false
namespace Go.Proofs.Ytfbooejaabdkoaa.AE
open Go Go.Proofs Go.RowKit
set_option linter.unusedVariables false
set_option linter.unusedSimpArgs false
set_option maxRecDepth 100000
set_option maxHeartbeats 4000000
theorem shiftsL_get {x ys : List Chg} {ox : List Outc} {p : Bk × List Ord} {pre post : List Chg} {c : Chg} {sh : Shf} (h : pre ++ c :: post = ys) (hs : shift1 x ox c (ocB (bkL p pre) c) = [sh]) :
  (shiftsL x ox p ys)[(shiftsL x ox p pre).length]? = some sh ∧ (shiftsL x ox p pre).length < (shiftsL x ox p ys).length := by
 have e : shiftsL x ox p ys = shiftsL x ox p pre ++ sh :: shiftsL x ox (stB (bkL p pre) c) post := by
  rw [← h, shiftsL_append, shiftsL, hs]
  rfl
 rw [e]
 exact ⟨by simp, by simp⟩
def rtI (xs ys : List Chg) (b : Bk) (qs : List Ord) (pre _post : List Chg) : St := ⟨ofL [(1, .sl 9 (rows cChg xs)), (2, .sl 9 (rows cChg ys)), (7, .own (0, 997) (shiftsL xs (ouL (b, qs) xs) (b, qs) ys).length), (9, .own (0, 998) xs.length), (11, .own (0, 999) ys.length), (12, .int .i64 (shiftsL xs (ouL (b, qs) xs) (b, qs) pre).length), (13, .int .i64 pre.length)], hOf [((0, 997), .row 46 6 (rows cShf (shiftsL xs (ouL (b, qs) xs) (b, qs) ys)) false), ((0, 998), .row 44 2 (rows cOc (ouL (b, qs) xs)) false), ((0, 999), .row 44 2 (rows cOc (ouL (b, qs) ys)) false)]⟩
structure rebaseTellsX where
 b : Bk
 os : List Ord
 os' : AV
 x : List Chg
 x' : AV
 y : List Chg
 y' : AV
 h_os : SlA 7 cOrd os os'
 h_x : SlA 9 cChg x x'
 h_y : SlA 9 cChg y y'
noncomputable def rebaseTellsS : HSpec := mkH (ι := rebaseTellsX) (fun ⟨b, os, os', x, x', y, y', h_os, h_x, h_y⟩ => ([.agg (cBk b os'), x', y'], [])) fun ⟨b, os, os', x, x', y, y', h_os, h_x, h_y⟩ => ⟨.bool true, [], []⟩
theorem rebaseTellsS_atG (b : Bk) (os : List Ord) (os' : AV) (x : List Chg) (x' : AV) (y : List Chg) (y' : AV) (h_os : SlA 7 cOrd os os') (h_x : SlA 9 cChg x x') (h_y : SlA 9 cChg y y') : rebaseTellsS [.agg (cBk b os'), x', y'] [] = some (⟨.bool true, [], []⟩) :=
 mA_ (ι := rebaseTellsX) (fun i j h => by obtain ⟨b, os, os', x, x', y, y', h_os, h_x, h_y⟩ := i; obtain ⟨b2, os2, os'2, x2, x'2, y2, y'2, h_os2, h_x2, h_y2⟩ := j; simp [and_assoc, qB_, qI_, qO_, qC_, qE_, qK_, qR_, qV_, qP_, qOc_] at h; obtain ⟨rfl, rfl, rfl, rfl⟩ := h; obtain rfl := SlA.inj (fun x y h => cOrd_inj h) h_os h_os2; obtain rfl := SlA.inj (fun x y h => cChg_inj h) h_x h_x2; obtain rfl := SlA.inj (fun x y h => cChg_inj h) h_y h_y2; rfl) ⟨b, os, os', x, x', y, y', h_os, h_x, h_y⟩
theorem rebaseTellsS_at (b : Bk) (os : List Ord) (x : List Chg) (y : List Chg) : rebaseTellsS [.agg (cBk b (.sl 7 (rows cOrd os))), (.sl 9 (rows cChg x)), (.sl 9 (rows cChg y))] [] = some (⟨.bool true, [], []⟩) := rebaseTellsS_atG b os _ x _ y _ .sl .sl .sl
theorem rebaseTells_ok : HSound Try.prog 3 rebaseTellsS := by
 refine sE_ (fn := Try.f3) rfl rfl (by kernel_rfl) fun args bx hr hS => ?_
 obtain ⟨⟨b, os, os', x, x', y, y', h_os, h_x, h_y⟩, rfl, rfl, rfl⟩ := mO_ hS
 clear hS
 refine ⟨_, (eH_ (g := 9) (by kernel_rfl) alive42_ok (eV_ (g := 10) (by kernel_rfl) few42_ok (eV_ (g := 11) (by kernel_rfl) fair16_ok (eV_ (g := 12) (by kernel_rfl) ofR_ok (eV_ (g := 13) (by kernel_rfl) runR_ok (eV_ (g := 14) (by kernel_rfl) findCR_ok (eV_ (g := 15) (by kernel_rfl) plOcB_ok (eN_ _)))))))), by simp [Try.f3], by simp [go_sem], fun w Mx pin => ?_⟩
 simp only [hB_at, lab_nil, lab_cons, hOf_nil, hOf_cons]
 refine aW_ (s' := ⟨ofL [(0, .agg (cBk b (.sl 7 (rows cOrd os)))), (1, (.sl 9 (rows cChg x))), (2, (.sl 9 (rows cChg y)))], hOf []⟩) ?_ ?_
 · cases h_os <;> cases h_x <;> cases h_y <;> exact wO_ [] (by simp [go_sem]) (by simp [go_sem]) (by simp [go_sem])
 clear h_os h_x h_y
 obtain ⟨xs, hxs⟩ : ∃ xs, xs = x.take 25 := ⟨_, rfl⟩
 obtain ⟨ys, hys⟩ : ∃ ys, ys = y.take 25 := ⟨_, rfl⟩
 have hx25 : xs.length ≤ 25 := by rw [hxs]; simp; omega
 have hy25 : ys.length ≤ 25 := by rw [hys]; simp; omega
 have hxl : xs.length ≤ 100000 := by omega
 have hyl : ys.length ≤ 100000 := by omega
 obtain ⟨qs, hqs⟩ : ∃ qs, qs = os.take 20 := ⟨_, rfl⟩
 have hlen : qs.length ≤ 20 := by rw [hqs]; simp; omega
 refine aQ_ ?_
 iterate 2
  refine oC_ fun J hJ => ?_
  simp [go_sem]
  refine hJ _ _ _ ?_
  clear hJ J
 refine oN_ ?_
 refine aS_ fun K2 hK2 => ?_
 refine aQ_ ?_
 iterate 2
  refine oC_ fun J hJ => ?_
  simp [go_sem, alive42S_at]
  refine hJ _ _ _ ?_
  clear hJ J
 refine oN_ ?_
 refine aF_ rfl ?_
 refine aK_ ?_
 refine hK2 _ ?_
 clear hK2
 refine aQ_ ?_
 iterate 6
  refine oC_ fun J hJ => ?_
  simp [go_sem, few42S_at x, few42S_at y, ← hxs, ← hys]
  refine hJ _ _ _ ?_
  clear hJ J
 refine oN_ ?_
 refine aS_ fun K7 hK7 => ?_
 have jK7 : ∀ s : St, Weak ⟨Try.prog, w, Mx, Try.f3.ntmps, pin, [], true⟩ ⟨ofL [(1, .sl 9 (rows cChg xs)), (2, .sl 9 (rows cChg ys)), (3, .ref (0, 48) 0)], hOf [((0, 48), .obj (cBk b (.sl 7 (rows cOrd qs))))]⟩ s → K7 s := by
  intro s hw
  refine hK7 s (aW_ hw ?_)
  refine aS_ fun K10 hK10 => ?_
  refine aS_ fun K11 hK11 => ?_
  cases hfr : fairR b qs
  ·
   refine aR_ ?_
   iterate 3
    refine oC_ fun J hJ => ?_
    simp [go_sem, fair16S_at b qs (show qs.length ≤ 100000 by omega), hfr]
    refine hJ _ _ _ ?_
    clear hJ J
   refine oN_ ?_
   refine hK11 _ ?_
   clear hK11
   refine aT_ rfl ?_
   refine aQ_ ?_
   iterate 1
    refine oC_ fun J hJ => ?_
    simp [go_sem]
    refine hJ _ _ _ ?_
    clear hJ J
   refine oN_ ?_
   refine aE_ ?_
   refine fQ_ [] ?_
   simp [go_sem, Try.f3]
  ·
   obtain ⟨hF, hO⟩ := fairR_of hfr
   have hp : FairP (b, qs) := ⟨hF, hO⟩
   have lx := ouL_len (b, qs) xs
   have ly := ouL_len (b, qs) ys
   refine aR_ ?_
   iterate 3
    refine oC_ fun J hJ => ?_
    simp [go_sem, fair16S_at b qs (show qs.length ≤ 100000 by omega), hfr]
    refine hJ _ _ _ ?_
    clear hJ J
   refine oN_ ?_
   refine hK11 _ ?_
   clear hK11
   refine aF_ rfl ?_
   refine aK_ ?_
   refine hK10 _ ?_
   clear hK10
   refine aQ_ ?_
   iterate 5
    refine oC_ fun J hJ => ?_
    simp [go_sem, ofRS_at b qs xs ys ⟨hF, hO, by omega⟩]
    refine hJ _ _ _ ?_
    clear hJ J
   refine oN_ ?_
   refine aQ_ ?_
   iterate 9
    refine oC_ fun J hJ => ?_
    simp [go_sem, runRS_at b qs xs ⟨hF, hO, by omega⟩]
    refine hJ _ _ _ ?_
    clear hJ J
   refine oN_ ?_
   refine aQ_ ?_
   iterate 9
    refine oC_ fun J hJ => ?_
    simp [go_sem, runRS_at b qs ys ⟨hF, hO, by omega⟩]
    refine hJ _ _ _ ?_
    clear hJ J
   refine oN_ ?_
   refine aQ_ ?_
   iterate 1
    refine oC_ fun J hJ => ?_
    simp [go_sem]
    refine hJ _ _ _ ?_
    clear hJ J
   refine oN_ ?_
   refine aS_ fun K18 hK18 => ?_
   refine aQ_ ?_
   iterate 1
    refine oC_ fun J hJ => ?_
    simp [go_sem]
    refine hJ _ _ _ ?_
    clear hJ J
   refine oN_ ?_
   refine aB_ ?_
   refine aL_ (ι := { q : List Chg × List Chg // q.1 ++ q.2 = ys ∧ True }) (fun q => rtI xs ys b qs q.1.1 q.1.2) (fun q => q.1.2.length) ⟨([], ys), rfl, trivial⟩ ?_ ?_
   · refine wO_ [((0, 997), some (0, 560)), ((0, 998), some (0, 624)), ((0, 999), some (0, 720))] (by simp [go_sem]) ?_ ?_ <;> simp [go_sem]
   intro ⟨⟨pre, post⟩, hl, hgo⟩
   simp only at hl hgo
   have hpl := lS_ hl hyl
   simp only [rtI]
   refine aS_ fun K20 hK20 => ?_
   refine aQ_ ?_
   iterate 4
    refine oC_ fun J hJ => ?_
    simp [go_sem]
    refine hJ _ _ _ ?_
    clear hJ J
   refine oN_ ?_
   refine aC_ (t := _) rfl (fun c22 => ?_) (fun c22 => ?_)
   ·
    simp [go_sem] at c22
    obtain ⟨c, post, rfl, hx⟩ := mL_ hl c22
    have hpl2 := (List.getElem?_eq_some_iff.1 hx).1
    obtain ⟨oc, hoc⟩ : ∃ oc, oc = ocB (bkL (b, qs) pre) c := ⟨_, rfl⟩
    have hn : (ouL (b, qs) ys)[pre.length]? = some oc := by rw [← hl, ouL_at, hoc]
    have hob := effsBig_ou (b, qs) hp xs
    have hsl := shiftsL_len xs (ouL (b, qs) xs) (b, qs) pre
    have hw : IntKind.i64.wrap (((shiftsL xs (ouL (b, qs) xs) (b, qs) pre).length : Int) + 1) = ((shiftsL xs (ouL (b, qs) xs) (b, qs) pre).length : Int) + 1 := wN_ (by omega)
    refine aK_ ?_
    refine hK20 _ ?_
    clear hK20
    refine aS_ fun K23 hK23 => ?_
    refine aB_ ?_
    refine aS_ fun K24 hK24 => ?_
    rcases of_cases xs (ouL (b, qs) xs) lx c oc with ⟨hk, hs1⟩ | ⟨k, q, hk, hkl, hq, he, hs1⟩ | ⟨k, q, hk, hkl, hq, he, hs1⟩
    ·
     refine aR_ ?_
     iterate 8
      refine oC_ fun J hJ => ?_
      simp [go_sem, hpl2, ↓hx, hx, findCRS_at xs c.id hxl]
      refine hJ _ _ _ ?_
      clear hJ J
     refine oN_ ?_
     refine hK24 _ ?_
     clear hK24
     refine aS_ fun K25 hK25 => ?_
     refine aU_ ?_
     iterate 13
      refine oC_ fun J hJ => ?_
      simp [go_sem, hk]
      refine hJ _ _ _ ?_
      clear hJ J
     refine oN_ ?_
     refine ⟨rfl, ?_⟩
     refine aT_ rfl ?_
     refine aX_ ?_
     simp only [go_sem]
     refine hK23 _ ?_
     clear hK23
     refine aR_ ?_
     iterate 3
      refine oC_ fun J hJ => ?_
      simp [go_sem]
      refine hJ _ _ _ ?_
      clear hJ J
     refine oN_ ?_
     refine ⟨⟨(pre ++ [c], post), by simp [← hl], by exact trivial⟩, ?_, by simp⟩
     refine wO_ [((0, 997), some (0, 997)), ((0, 998), some (0, 998)), ((0, 999), some (0, 999))] (by simp [go_sem]) ?_ ?_ <;> simp [go_sem, wN_ hpl, shiftsL_snoc, ↓hs1, ← hoc, hw]
    ·
     subst he
     refine aR_ ?_
     iterate 8
      refine oC_ fun J hJ => ?_
      simp [go_sem, hpl2, ↓hx, hx, findCRS_at xs c.id hxl, hk]
      refine hJ _ _ _ ?_
      clear hJ J
     refine oN_ ?_
     refine hK24 _ ?_
     clear hK24
     refine aS_ fun K25 hK25 => ?_
     refine aU_ ?_
     iterate 13
      refine oC_ fun J hJ => ?_
      simp [go_sem, show ¬ ((k : Int) < 0) by omega, hkl, ↓hq, hq, ↓hn, hn, hpl2, plOcBS_at q q (effsBig_at hob hq)]
      refine hJ _ _ _ ?_
      clear hJ J
     refine oN_ ?_
     refine ⟨rfl, ?_⟩
     refine aT_ rfl ?_
     refine aX_ ?_
     simp only [go_sem]
     refine hK23 _ ?_
     clear hK23
     refine aR_ ?_
     iterate 3
      refine oC_ fun J hJ => ?_
      simp [go_sem]
      refine hJ _ _ _ ?_
      clear hJ J
     refine oN_ ?_
     refine ⟨⟨(pre ++ [c], post), by simp [← hl], by exact trivial⟩, ?_, by simp⟩
     refine wO_ [((0, 997), some (0, 997)), ((0, 998), some (0, 998)), ((0, 999), some (0, 999))] (by simp [go_sem]) ?_ ?_ <;> simp [go_sem, wN_ hpl, shiftsL_snoc, ↓hs1, ← hoc, hw]
    ·
     obtain ⟨hg1, hg2⟩ := shiftsL_get hl (by rw [← hoc]; exact hs1)
     refine aR_ ?_
     iterate 8
      refine oC_ fun J hJ => ?_
      simp [go_sem, hpl2, ↓hx, hx, findCRS_at xs c.id hxl, hk]
      refine hJ _ _ _ ?_
      clear hJ J
     refine oN_ ?_
     refine hK24 _ ?_
     clear hK24
     refine aS_ fun K25 hK25 => ?_
     refine aU_ ?_
     iterate 13
      refine oC_ fun J hJ => ?_
      simp [go_sem, show ¬ ((k : Int) < 0) by omega, hkl, ↓hq, hq, ↓hn, hn, hpl2, plOcBS_at q oc (effsBig_at hob hq), he]
      refine hJ _ _ _ ?_
      clear hJ J
     refine oN_ ?_
     refine ⟨rfl, ?_⟩
     refine aF_ rfl ?_
     refine aK_ ?_
     refine hK25 _ ?_
     clear hK25
     refine aS_ fun K28 hK28 => ?_
     refine aU_ ?_
     iterate 43
      refine oC_ fun J hJ => ?_
      simp [go_sem, show ¬ (((shiftsL xs (ouL (b, qs) xs) (b, qs) ys).length : Int) ≤ ((shiftsL xs (ouL (b, qs) xs) (b, qs) pre).length : Int)) by omega, hg2, ↓hg1, hg1, ↓hx, hx, hkl, ↓hq, hq, ↓hn, hn, hpl2, plOcBS_at q q (effsBig_at hob hq), plOcBS_at oc oc (effsBig_ou (b, qs) hp ys oc (List.mem_of_getElem? hn))]
      refine hJ _ _ _ ?_
      clear hJ J
     refine oN_ ?_
     refine ⟨rfl, ?_⟩
     refine aF_ rfl ?_
     refine aK_ ?_
     refine hK28 _ ?_
     clear hK28
     refine aR_ ?_
     iterate 3
      refine oC_ fun J hJ => ?_
      simp [go_sem, hw]
      refine hJ _ _ _ ?_
      clear hJ J
     refine oN_ ?_
     refine hK23 _ ?_
     clear hK23
     refine aR_ ?_
     iterate 3
      refine oC_ fun J hJ => ?_
      simp [go_sem]
      refine hJ _ _ _ ?_
      clear hJ J
     refine oN_ ?_
     refine ⟨⟨(pre ++ [c], post), by simp [← hl], by exact trivial⟩, ?_, by simp⟩
     refine wO_ [((0, 997), some (0, 997)), ((0, 998), some (0, 998)), ((0, 999), some (0, 999))] (by simp [go_sem]) ?_ ?_ <;> simp [go_sem, wN_ hpl, shiftsL_snoc, ↓hs1, ← hoc, hw]
   ·
    simp [go_sem] at c22
    obtain ⟨rfl, rfl⟩ := mN_ hl c22
    refine aX_ ?_
    simp only [go_sem]
    refine hK18 _ ?_
    clear hK18
    refine aQ_ ?_
    iterate 5
     refine oC_ fun J hJ => ?_
     simp [go_sem]
     refine hJ _ _ _ ?_
     clear hJ J
    refine oN_ ?_
    refine aE_ ?_
    refine fQ_ [] ?_
    simp [go_sem, Try.f3]
 refine aQ_ ?_
 iterate 4
  refine oC_ fun J hJ => ?_
  simp [go_sem]
  refine hJ _ _ _ ?_
  clear hJ J
 refine oN_ ?_
 refine aC_ (t := _) rfl (fun c9 => ?_) (fun c9 => ?_)
 ·
  simp [go_sem] at c9
  have h20 : 20 ≤ os.length := by omega
  refine aR_ ?_
  iterate 5
   refine oC_ fun J hJ => ?_
   simp [go_sem, show 20 ≤ os.length by omega, ← hqs]
   refine hJ _ _ _ ?_
   clear hJ J
  refine oN_ ?_
  first
   | (refine jK7 _ (wO_ [((0, 48), some (0, 48))] (by simp [go_sem]) ?_ ?_) <;> (simp [go_sem]; done))
   | (refine jK7 _ (wO_ [((0, 48), some (0, 48))] (by simp [go_sem]) ?_ ?_) <;> (simp [go_sem, hq20]; done))
 ·
  simp [go_sem] at c9
  have hq20 : qs = os := by rw [hqs]; exact List.take_of_length_le (by omega)
  refine aK_ ?_
  first
   | (refine jK7 _ (wO_ [((0, 48), some (0, 48))] (by simp [go_sem]) ?_ ?_) <;> (simp [go_sem]; done))
   | (refine jK7 _ (wO_ [((0, 48), some (0, 48))] (by simp [go_sem]) ?_ ?_) <;> (simp [go_sem, hq20]; done))
theorem RebaseTells_walk (w : World) (l0 : List Int) (a0 : Option Addr) (c0 : Nat) (L0 : List (List Int)) (g0 : l0.length = 24) (_ : ∀ x ∈ l0, I64 x) (h0 : L0.length ≤ c0) (m0 : c0 ≤ maxLen) (s0 : SlK w.heap.size 7 w a0 L0) (a1 : Option Addr) (c1 : Nat) (L1 : List (List Int)) (h1 : L1.length ≤ c1) (m1 : c1 ≤ maxLen) (s1 : SlK w.heap.size 9 w a1 L1) (a2 : Option Addr) (c2 : Nat) (L2 : List (List Int)) (h2 : L2.length ≤ c2) (m2 : c2 ≤ maxLen) (s2 : SlK w.heap.size 9 w a2 L2) :
  Calls Try.prog 3 #[.agg (bk l0 (.slice a0 L0.length c0)), .slice a1 L1.length c1, .slice a2 L2.length c2] w fun e w' => e = .returned (.bool true) ∧ Below w.heap.size w w' := by
 obtain ⟨b0, os0, e0, r0⟩ := book_rep g0 h0 m0 s0
 obtain ⟨os1, e1, r1⟩ := slk_rows ex_Chg s1 h1 m1
 obtain ⟨os2, e2, r2⟩ := slk_rows ex_Chg s2 h2 m2
 refine true_walk rebaseTells_ok (rebaseTellsS_at b0 os0 os1 os2) w rfl fun i v hi => ?_
 match i, hi with
 | 0, hi => cases hi; exact r0
 | 1, hi => cases hi; exact r1
 | 2, hi => cases hi; exact r2
end Go.Proofs.Ytfbooejaabdkoaa.AE
