/-
 Package rebase: Of; few. Conditions: none; every contract names its own.
-/
import Derived.Test.YtfbooejaabdkoaaORb2
set_option linter.constructorNameAsVariable false
namespace Go.Proofs.Ytfbooejaabdkoaa.AE
open Go Go.Proofs Go.RowKit
set_option linter.unusedVariables false
set_option linter.unusedSimpArgs false
set_option maxRecDepth 100000
set_option maxHeartbeats 4000000
theorem of_cases (x : List Chg) (ox : List Outc) (hox : ox.length = x.length) (c : Chg) (oc : Outc) : (placeC x c.id < 0 ∧ shift1 x ox c oc = []) ∨ (∃ (k : Nat) (q : Outc), placeC x c.id = k ∧ k < x.length ∧ ox[k]? = some q ∧ q = oc ∧ shift1 x ox c oc = []) ∨ (∃ (k : Nat) (q : Outc), placeC x c.id = k ∧ k < x.length ∧ ox[k]? = some q ∧ q ≠ oc ∧ shift1 x ox c oc = [⟨c.id, q, oc⟩]) := by
 by_cases h : placeC x c.id < 0
 · exact .inl ⟨h, if_pos h⟩
 ·
  obtain ⟨k, hk, hlt⟩ := placeC_lt (l := x) (a := c.id) (by omega)
  have hq : ox[k]? = some ox[k] := List.getElem?_eq_getElem (by omega)
  have e : shift1 x ox c oc = if ox[k] = oc then [] else [⟨c.id, ox[k], oc⟩] := by
   unfold shift1
   rw [if_neg h, hk, Int.toNat_natCast, hq]
  by_cases he : ox[k] = oc
  · exact .inr (.inl ⟨k, _, hk, hlt, hq, he, by rw [e, if_pos he]⟩)
  · exact .inr (.inr ⟨k, _, hk, hlt, hq, he, by rw [e, if_neg he]⟩)
def ofI (b : Bk) (os : List Ord) (x y pre _post : List Chg) : St := ⟨ofL [(1, .sl 9 (rows cChg x)), (8, .own (0, 304) x.length), (10, .own (0, 400) y.length), (11, .own (0, 999) (shiftsL x (ouL (b, os) x) (b, os) pre).length), (28, .sl 9 (rows cChg y)), (29, .int .i64 y.length), (30, .int .i64 pre.length)], hOf [((0, 304), .row 44 2 (rows cOc (ouL (b, os) x)) false), ((0, 400), .row 44 2 (rows cOc (ouL (b, os) y)) false), ((0, 999), .row 46 6 (rows cShf (shiftsL x (ouL (b, os) x) (b, os) pre)) false)]⟩
@[go_sem] theorem cShf_take_app (s : Shf) (X : List AV) : (cShf s ++ X).take 6 = cShf s := rfl
@[go_sem] theorem shiftsL_nil (x : List Chg) (ox : List Outc) (p : Bk × List Ord) : shiftsL x ox p [] = [] := rfl
theorem cloneEff_at (q : List Eff) (h : q.length ≤ 3000000) : cloneEffS [.sl 5 (rows cEff q)] [] = some ⟨.own (2, 0) q.length, [], [.row 50 5 (rows cEff q) false]⟩ := cloneEffS_at q h
structure ofRX where
 b : Bk
 os : List Ord
 os' : AV
 x : List Chg
 x' : AV
 y : List Chg
 y' : AV
 h_os : SlA 7 cOrd os os'
 h_x : SlA 9 cChg x x'
 h_y : SlA 9 cChg y y'
 hL : FairB b ∧ FairO os ∧ os.length + x.length + y.length ≤ 30000
noncomputable def ofRS : HSpec := mkH (ι := ofRX) (fun ⟨b, os, os', x, x', y, y', h_os, h_x, h_y, hL⟩ => ([.agg (cBk b os'), x', y'], [])) fun ⟨b, os, os', x, x', y, y', h_os, h_x, h_y, hL⟩ => ⟨.own (2, 0) (shiftsL x (ouL (b, os) x) (b, os) y).length, [], [.row 46 6 (rows cShf (shiftsL x (ouL (b, os) x) (b, os) y)) false]⟩
theorem ofRS_atG (b : Bk) (os : List Ord) (os' : AV) (x : List Chg) (x' : AV) (y : List Chg) (y' : AV) (h_os : SlA 7 cOrd os os') (h_x : SlA 9 cChg x x') (h_y : SlA 9 cChg y y') (hL : FairB b ∧ FairO os ∧ os.length + x.length + y.length ≤ 30000) : ofRS [.agg (cBk b os'), x', y'] [] = some (⟨.own (2, 0) (shiftsL x (ouL (b, os) x) (b, os) y).length, [], [.row 46 6 (rows cShf (shiftsL x (ouL (b, os) x) (b, os) y)) false]⟩) :=
 mA_ (ι := ofRX) (fun i j h => by obtain ⟨b, os, os', x, x', y, y', h_os, h_x, h_y, hL⟩ := i; obtain ⟨b2, os2, os'2, x2, x'2, y2, y'2, h_os2, h_x2, h_y2, hL2⟩ := j; simp [and_assoc, qB_, qI_, qO_, qC_, qE_, qK_, qR_, qV_, qP_, qOc_] at h; obtain ⟨rfl, rfl, rfl, rfl⟩ := h; obtain rfl := SlA.inj (fun x y h => cOrd_inj h) h_os h_os2; obtain rfl := SlA.inj (fun x y h => cChg_inj h) h_x h_x2; obtain rfl := SlA.inj (fun x y h => cChg_inj h) h_y h_y2; rfl) ⟨b, os, os', x, x', y, y', h_os, h_x, h_y, hL⟩
theorem ofRS_at (b : Bk) (os : List Ord) (x : List Chg) (y : List Chg) (hL : FairB b ∧ FairO os ∧ os.length + x.length + y.length ≤ 30000) : ofRS [.agg (cBk b (.sl 7 (rows cOrd os))), (.sl 9 (rows cChg x)), (.sl 9 (rows cChg y))] [] = some (⟨.own (2, 0) (shiftsL x (ouL (b, os) x) (b, os) y).length, [], [.row 46 6 (rows cShf (shiftsL x (ouL (b, os) x) (b, os) y)) false]⟩) := ofRS_atG b os _ x _ y _ .sl .sl .sl hL
theorem ofR_ok : HSound Try.prog 12 ofRS := by
 refine sE_ (fn := Try.f12) rfl rfl (by kernel_rfl) fun args bx hr hS => ?_
 obtain ⟨⟨b, os, os', x, x', y, y', h_os, h_x, h_y, hL⟩, rfl, rfl, rfl⟩ := mO_ hS
 clear hS
 refine ⟨_, (eV_ (g := 39) (by kernel_rfl) runF_ok (eV_ (g := 40) (by kernel_rfl) findC_ok (eV_ (g := 41) (by kernel_rfl) like_ok (eV_ (g := 42) (by kernel_rfl) cloneEff_ok (eN_ _))))), by simp [Try.f12], by simp [go_sem], fun w Mx pin => ?_⟩
 simp only [hB_at, lab_nil, lab_cons, hOf_nil, hOf_cons]
 refine aW_ (s' := ⟨ofL [(0, .agg (cBk b (.sl 7 (rows cOrd os)))), (1, (.sl 9 (rows cChg x))), (2, (.sl 9 (rows cChg y)))], hOf []⟩) ?_ ?_
 · cases h_os <;> cases h_x <;> cases h_y <;> exact wO_ [] (by simp [go_sem]) (by simp [go_sem]) (by simp [go_sem])
 clear h_os h_x h_y
 obtain ⟨hF, hO, hlen⟩ := hL
 have hx0 : x.length ≤ 100000 := by omega
 have hy1 : y.length ≤ 100000 := by omega
 have hp : FairP (b, os) := ⟨hF, hO⟩
 have lx := ouL_len (b, os) x
 have ly := ouL_len (b, os) y
 refine aQ_ ?_
 iterate 2
  refine oC_ fun J hJ => ?_
  simp [go_sem]
  refine hJ _ _ _ ?_
 refine oN_ ?_
 refine aQ_ ?_
 iterate 9
  refine oC_ fun J hJ => ?_
  simp [go_sem, runFS_at b os x ⟨hF, hO, by omega⟩]
  refine hJ _ _ _ ?_
 refine oN_ ?_
 refine aQ_ ?_
 iterate 9
  refine oC_ fun J hJ => ?_
  simp [go_sem, runFS_at b os y ⟨hF, hO, by omega⟩]
  refine hJ _ _ _ ?_
 refine oN_ ?_
 refine aQ_ ?_
 iterate 1
  refine oC_ fun J hJ => ?_
  simp [go_sem]
  refine hJ _ _ _ ?_
 refine oN_ ?_
 refine aS_ fun K5 hK5 => ?_
 refine aQ_ ?_
 iterate 3
  refine oC_ fun J hJ => ?_
  simp [go_sem]
  refine hJ _ _ _ ?_
 refine oN_ ?_
 refine aB_ ?_
 refine aL_ (ι := { q : List Chg × List Chg // q.1 ++ q.2 = y ∧ True }) (fun q => ofI b os x y q.1.1 q.1.2) (fun q => q.1.2.length) ⟨([], y), rfl, trivial⟩ ?_ ?_
 · refine wO_ [((0, 304), some (0, 304)), ((0, 400), some (0, 400)), ((0, 999), none)] (by simp [go_sem]) ?_ ?_ <;> simp [go_sem, dropped]
 intro ⟨⟨pre, post⟩, hl, hgo⟩
 simp only at hl hgo
 have hpl := lS_ hl hy1
 simp only [ofI]
 refine aQ_ ?_
 iterate 1
  refine oC_ fun J hJ => ?_
  simp [go_sem]
  refine hJ _ _ _ ?_
 refine oN_ ?_
 refine aS_ fun K8 hK8 => ?_
 refine aC_ (t := _) rfl (fun c9 => ?_) (fun c9 => ?_)
 ·
  simp [go_sem] at c9
  obtain ⟨c, post, rfl, hx⟩ := mL_ hl c9
  have hpl2 := (List.getElem?_eq_some_iff.1 hx).1
  obtain ⟨oc, hoc⟩ : ∃ oc, oc = ocB (bkL (b, os) pre) c := ⟨_, rfl⟩
  have hn : (ouL (b, os) y)[pre.length]? = some oc := by rw [← hl, ouL_at, hoc]
  have hob := effsBig_ou (b, os) hp x
  have hsl := shiftsL_len x (ouL (b, os) x) (b, os) pre
  refine aK_ ?_
  refine hK8 _ ?_
  refine aS_ fun K10 hK10 => ?_
  refine aB_ ?_
  refine aQ_ ?_
  iterate 6
   refine oC_ fun J hJ => ?_
   simp [go_sem, ↓hx, hx]
   refine hJ _ _ _ ?_
  refine oN_ ?_
  refine aS_ fun K12 hK12 => ?_
  rcases of_cases x (ouL (b, os) x) lx c oc with ⟨hk, hs1⟩ | ⟨k, q, hk, hkl, hq, he, hs1⟩ | ⟨k, q, hk, hkl, hq, he, hs1⟩
  ·
   refine aR_ ?_
   iterate 5
    refine oC_ fun J hJ => ?_
    simp [go_sem, findCS_at x c.id hx0]
    refine hJ _ _ _ ?_
   refine oN_ ?_
   refine hK12 _ ?_
   refine aS_ fun K13 hK13 => ?_
   refine aU_ ?_
   iterate 13
    refine oC_ fun J hJ => ?_
    simp [go_sem, hk]
    refine hJ _ _ _ ?_
   refine oN_ ?_
   refine ⟨rfl, ?_⟩
   refine aT_ rfl ?_
   refine aX_ ?_
   simp only [go_sem]
   refine hK10 _ ?_
   refine aR_ ?_
   iterate 2
    refine oC_ fun J hJ => ?_
    simp [go_sem]
    refine hJ _ _ _ ?_
   refine oN_ ?_
   refine ⟨⟨(pre ++ [c], post), by simp [← hl], by exact trivial⟩, ?_, by simp⟩
   first
    | (refine wO_ [((0, 304), some (0, 304)), ((0, 400), some (0, 400)), ((0, 999), some (0, 999))] (by simp [go_sem]) ?_ ?_ <;> (simp [go_sem, wN_ hpl, shiftsL_snoc, ↓hs1, rows_append, ← hoc]; done))
    | (refine wO_ [((0, 304), some (0, 304)), ((0, 400), some (0, 400)), ((0, 999), some (0, 1120))] (by simp [go_sem]) ?_ ?_ <;> (simp [go_sem, wN_ hpl, shiftsL_snoc, ↓hs1, rows_append, ← hoc]; done))
  ·
   subst he
   refine aR_ ?_
   iterate 5
    refine oC_ fun J hJ => ?_
    simp [go_sem, findCS_at x c.id hx0, hk]
    refine hJ _ _ _ ?_
   refine oN_ ?_
   refine hK12 _ ?_
   refine aS_ fun K13 hK13 => ?_
   refine aU_ ?_
   iterate 13
    refine oC_ fun J hJ => ?_
    simp [go_sem, show ¬ ((k : Int) < 0) by omega, hkl, ↓hq, hq, ↓hn, hn, hpl2, likeS_at q q (effsBig_at hob hq)]
    refine hJ _ _ _ ?_
   refine oN_ ?_
   refine ⟨rfl, ?_⟩
   refine aT_ rfl ?_
   refine aX_ ?_
   simp only [go_sem]
   refine hK10 _ ?_
   refine aR_ ?_
   iterate 2
    refine oC_ fun J hJ => ?_
    simp [go_sem]
    refine hJ _ _ _ ?_
   refine oN_ ?_
   refine ⟨⟨(pre ++ [c], post), by simp [← hl], by exact trivial⟩, ?_, by simp⟩
   first
    | (refine wO_ [((0, 304), some (0, 304)), ((0, 400), some (0, 400)), ((0, 999), some (0, 999))] (by simp [go_sem]) ?_ ?_ <;> (simp [go_sem, wN_ hpl, shiftsL_snoc, ↓hs1, rows_append, ← hoc]; done))
    | (refine wO_ [((0, 304), some (0, 304)), ((0, 400), some (0, 400)), ((0, 999), some (0, 1120))] (by simp [go_sem]) ?_ ?_ <;> (simp [go_sem, wN_ hpl, shiftsL_snoc, ↓hs1, rows_append, ← hoc]; done))
  ·
   have hqe : q.effs.length ≤ 3000000 := by have := ouL_effs hp x q (List.mem_of_getElem? hq); omega
   refine aR_ ?_
   iterate 5
    refine oC_ fun J hJ => ?_
    simp [go_sem, findCS_at x c.id hx0, hk]
    refine hJ _ _ _ ?_
   refine oN_ ?_
   refine hK12 _ ?_
   refine aS_ fun K13 hK13 => ?_
   refine aU_ ?_
   iterate 13
    refine oC_ fun J hJ => ?_
    simp [go_sem, show ¬ ((k : Int) < 0) by omega, hkl, ↓hq, hq, ↓hn, hn, hpl2, likeS_at q oc (effsBig_at hob hq), he]
    refine hJ _ _ _ ?_
   refine oN_ ?_
   refine ⟨rfl, ?_⟩
   refine aF_ rfl ?_
   refine aK_ ?_
   refine hK13 _ ?_
   refine aQ_ ?_
   iterate 6
    refine oC_ fun J hJ => ?_
    simp [go_sem, hkl, ↓hq, hq]
    refine hJ _ _ _ ?_
   refine oN_ ?_
   refine aQ_ ?_
   iterate 5
    refine oC_ fun J hJ => ?_
    simp [go_sem, cloneEff_at q.effs hqe]
    refine hJ _ _ _ ?_
   refine oN_ ?_
   refine aW_ (s' := ⟨ofL [(1, .sl 9 (rows cChg x)), (8, .own (0, 304) x.length), (10, .own (0, 400) y.length), (11, .own (0, 999) (shiftsL x (ouL (b, os) x) (b, os) pre).length), (12, .int .i64 pre.length), (13, .ref (0, 208) 0), (15, .ref (0, 240) 0), (28, .sl 9 (rows cChg y)), (29, .int .i64 y.length), (30, .int .i64 pre.length)], hOf [((0, 208), .obj (cChg c)), ((0, 240), .obj (cOc q)), ((0, 304), .row 44 2 (rows cOc (ouL (b, os) x)) false), ((0, 400), .row 44 2 (rows cOc (ouL (b, os) y)) false), ((0, 999), .row 46 6 (rows cShf (shiftsL x (ouL (b, os) x) (b, os) pre)) false)]⟩) ?_ ?_
   · exact wO_ [((0, 208), some (0, 208)), ((0, 240), some (0, 240)), ((0, 304), some (0, 304)), ((0, 400), some (0, 400)), ((0, 999), some (0, 999))] (by simp [go_sem]) (by simp [go_sem]) (by simp [go_sem, cOc, dropped])
   refine aD_ ?_
   iterate 12
    refine oC_ fun J hJ => ?_
    simp [go_sem, hpl2, ↓hn, hn, show ((shiftsL x (ouL (b, os) x) (b, os) pre).length + 1) * 80 ≤ 140737488355328 by omega, show (shiftsL x (ouL (b, os) x) (b, os) pre).length + 1 ≤ maxLen by (simp only [maxLen]; omega)]
    refine hJ _ _ _ ?_
   refine oN_ ?_
   refine ⟨rfl, ?_⟩
   refine hK10 _ ?_
   refine aR_ ?_
   iterate 2
    refine oC_ fun J hJ => ?_
    simp [go_sem]
    refine hJ _ _ _ ?_
   refine oN_ ?_
   refine ⟨⟨(pre ++ [c], post), by simp [← hl], by exact trivial⟩, ?_, by simp⟩
   first
    | (refine wO_ [((0, 304), some (0, 304)), ((0, 400), some (0, 400)), ((0, 999), some (0, 999))] (by simp [go_sem]) ?_ ?_ <;> (simp [go_sem, wN_ hpl, shiftsL_snoc, ↓hs1, rows_append, ← hoc]; done))
    | (refine wO_ [((0, 304), some (0, 304)), ((0, 400), some (0, 400)), ((0, 999), some (0, 1120))] (by simp [go_sem]) ?_ ?_ <;> (simp [go_sem, wN_ hpl, shiftsL_snoc, ↓hs1, rows_append, ← hoc]; done))
 ·
  simp [go_sem] at c9
  obtain ⟨rfl, rfl⟩ := mN_ hl c9
  refine aX_ ?_
  simp only [go_sem]
  refine hK5 _ ?_
  refine aQ_ ?_
  iterate 2
   refine oC_ fun J hJ => ?_
   simp [go_sem]
   refine hJ _ _ _ ?_
  refine oN_ ?_
  refine aE_ ?_
  refine fQ_ [((2, 0), some (0, 999))] ?_
  simp [go_sem, Try.f12]
structure few42X where
 L : List Chg
 L' : AV
 h_L : SlA 9 cChg L L'
noncomputable def few42S : HSpec := mkH (ι := few42X) (fun ⟨L, L', h_L⟩ => ([L'], [])) fun ⟨L, L', h_L⟩ => ⟨.sl 9 (rows cChg (L.take 25)), [], []⟩
theorem few42S_atG (L : List Chg) (L' : AV) (h_L : SlA 9 cChg L L') : few42S [L'] [] = some (⟨.sl 9 (rows cChg (L.take 25)), [], []⟩) :=
 mA_ (ι := few42X) (fun i j h => by obtain ⟨L, L', h_L⟩ := i; obtain ⟨L2, L'2, h_L2⟩ := j; simp [and_assoc, qB_, qI_, qO_, qC_, qE_, qK_, qR_, qV_, qP_, qOc_] at h; obtain rfl := h; obtain rfl := SlA.inj (fun x y h => cChg_inj h) h_L h_L2; rfl) ⟨L, L', h_L⟩
theorem few42S_at (L : List Chg) : few42S [(.sl 9 (rows cChg L))] [] = some (⟨.sl 9 (rows cChg (L.take 25)), [], []⟩) := few42S_atG L _ .sl
theorem few42S_atN : few42S [.nils] [] = some ((fun (L : List Chg) => ⟨.sl 9 (rows cChg (L.take 25)), [], []⟩) []) := few42S_atG [] _ .nil
theorem few42_ok : HSound Try.prog 10 few42S := by
 refine sE_ (fn := Try.f10) rfl rfl (by kernel_rfl) fun args bx hr hS => ?_
 obtain ⟨⟨L, L', h_L⟩, rfl, rfl, rfl⟩ := mO_ hS
 clear hS
 refine ⟨_, (eN_ _), by simp [Try.f10], by simp [go_sem], fun w Mx pin => ?_⟩
 simp only [hB_at, lab_nil, lab_cons, hOf_nil, hOf_cons]
 refine aW_ (s' := ⟨ofL [(0, (.sl 9 (rows cChg L)))], hOf []⟩) ?_ ?_
 · cases h_L <;> exact wO_ [] (by simp [go_sem]) (by simp [go_sem]) (by simp [go_sem])
 clear h_L
 refine aQ_ ?_
 iterate 1
  refine oC_ fun J hJ => ?_
  simp [go_sem]
  refine hJ _ _ _ ?_
 refine oN_ ?_
 refine aS_ fun K2 hK2 => ?_
 refine aQ_ ?_
 iterate 3
  refine oC_ fun J hJ => ?_
  simp [go_sem]
  refine hJ _ _ _ ?_
 refine oN_ ?_
 refine aC_ (t := _) rfl (fun c4 => ?_) (fun c4 => ?_)
 ·
  simp [go_sem] at c4
  refine aQ_ ?_
  iterate 3
   refine oC_ fun J hJ => ?_
   simp [go_sem, show 25 ≤ L.length by omega]
   refine hJ _ _ _ ?_
  refine oN_ ?_
  refine aE_ ?_
  refine fQ_ [] ?_
  first | (simp [go_sem, Try.f10]; done) | (simp [go_sem, Try.f10, List.take_of_length_le (show L.length ≤ 25 by omega)]; done)
 ·
  simp [go_sem] at c4
  refine aK_ ?_
  refine hK2 _ ?_
  refine aQ_ ?_
  iterate 2
   refine oC_ fun J hJ => ?_
   simp [go_sem]
   refine hJ _ _ _ ?_
  refine oN_ ?_
  refine aE_ ?_
  refine fQ_ [] ?_
  first | (simp [go_sem, Try.f10]; done) | (simp [go_sem, Try.f10, List.take_of_length_le (show L.length ≤ 25 by omega)]; done)
end Go.Proofs.Ytfbooejaabdkoaa.AE
