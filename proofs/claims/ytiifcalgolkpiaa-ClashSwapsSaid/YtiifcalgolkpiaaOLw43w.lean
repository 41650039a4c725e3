/-
 ClashSwaps. Conditions: none; every contract names its own.
-/
import Derived.Test.YtiifcalgolkpiaaOLw17r
import Derived.Test.YtiifcalgolkpiaaOCl4
set_option linter.constructorNameAsVariable false
namespace Go.Proofs.Ytiifcalgolkpiaa.AE
open Go Go.Proofs Go.RowKit
set_option linter.unusedVariables false
set_option linter.unusedSimpArgs false
set_option maxRecDepth 100000
set_option maxHeartbeats 4000000
theorem get_mid43 {α : Type} (A Z : List α) (x : α) : (A ++ x :: Z)[A.length]? = some x := by simp
theorem get_mid43' {α : Type} (A Z : List α) (x y : α) : (A ++ x :: y :: Z)[A.length + 1]? = some y := by
 rw [List.getElem?_append_right (by omega)]; simp
theorem drop_mid43 {α : Type} (A Z : List α) (x y : α) : (A ++ x :: y :: Z).drop (A.length + 2) = Z := by
 rw [show A ++ x :: y :: Z = (A ++ [x, y]) ++ Z by simp, show A.length + 2 = (A ++ [x, y]).length by simp, List.drop_left]
theorem clashR_atP (p : Bk × List Ord) (c d : Chg) (h : FairP p ∧ p.2.length ≤ 29000) : clashRS [.agg (cBk p.1 (.sl 7 (rows cOrd p.2))), .agg (cChg c), .agg (cChg d)] [] = some ⟨.bool (clashB p c d), [], []⟩ := clashRS_at p.1 p.2 c d ⟨h.1.1, h.1.2, h.2⟩
theorem swap_facts {l : List Chg} {k : Nat} {x y : Chg} (hx : l[k]? = some x) (hy : l[k + 1]? = some y) : (swapN l k)[k]? = some y ∧ (swapN l k)[k + 1]? = some x ∧ (swapN l k).take k = l.take k ∧ (swapN l k).drop (k + 2) = l.drop (k + 2) := by
 obtain ⟨A, x', y', B, rfl, rfl⟩ := swap_split (l := l) (n := k) (List.getElem?_eq_some_iff.1 hy).1
 rw [get_mid43] at hx
 rw [get_mid43'] at hy
 cases hx; cases hy
 rw [swapN_at]
 exact ⟨get_mid43 .., get_mid43' .., by simp, by rw [drop_mid43, drop_mid43]⟩
theorem swap_out {p : Bk × List Ord} {l : List Chg} {k : Nat} {x y : Chg} (hx : l[k]? = some x) (hy : l[k + 1]? = some y) (hc : clashB (bkL p (l.take k)) x y = false) :
  bkL p (swapN l k) = bkL p l ∧ ∃ xo yo, (ouL p (swapN l k))[k]? = some yo ∧ (ouL p (swapN l k))[k + 1]? = some xo ∧ ((ouL p (swapN l k)).set (k + 1) yo).set k xo = ouL p l := by
 obtain ⟨A, x', y', B, rfl, rfl⟩ := swap_split (l := l) (n := k) (List.getElem?_eq_some_iff.1 hy).1
 rw [get_mid43] at hx
 rw [get_mid43'] at hy
 cases hx; cases hy
 rw [List.take_left] at hc
 obtain ⟨h1, u, v, xo, yo, hu, h2, h3⟩ := free_swap (B := B) hc
 rw [swapN_at, h2, h3, ← hu]
 refine ⟨h1, xo, yo, by simp, by rw [List.getElem?_append_right (by omega)]; simp, ?_⟩
 rw [List.set_append_right _ _ (by omega), List.set_append_right _ _ (by omega)]
 simp
structure clashSwapsX where
 b : Bk
 os : List Ord
 os' : AV
 l : List Chg
 l' : AV
 i : Int
 h_os : SlA 7 cOrd os os'
 h_l : SlA 9 cChg l l'
noncomputable def clashSwapsS : HSpec := mkH (ι := clashSwapsX) (fun ⟨b, os, os', l, l', i, h_os, h_l⟩ => ([.agg (cBk b os'), l', .int .i64 i], [])) fun ⟨b, os, os', l, l', i, h_os, h_l⟩ => ⟨.bool true, [], []⟩
theorem clashSwapsS_atG (b : Bk) (os : List Ord) (os' : AV) (l : List Chg) (l' : AV) (i : Int) (h_os : SlA 7 cOrd os os') (h_l : SlA 9 cChg l l') : clashSwapsS [.agg (cBk b os'), l', .int .i64 i] [] = some (⟨.bool true, [], []⟩) :=
 mA_ (ι := clashSwapsX) (fun i j h => by obtain ⟨b, os, os', l, l', i, h_os, h_l⟩ := i; obtain ⟨b2, os2, os'2, l2, l'2, i2, h_os2, h_l2⟩ := j; simp [and_assoc, qB_, qI_, qO_, qC_, qE_, qK_, qR_, qV_, qP_, qOc_] at h; obtain ⟨rfl, rfl, rfl, rfl⟩ := h; obtain rfl := SlA.inj (fun x y h => cOrd_inj h) h_os h_os2; obtain rfl := SlA.inj (fun x y h => cChg_inj h) h_l h_l2; rfl) ⟨b, os, os', l, l', i, h_os, h_l⟩
theorem clashSwapsS_at (b : Bk) (os : List Ord) (l : List Chg) (i : Int) : clashSwapsS [.agg (cBk b (.sl 7 (rows cOrd os))), (.sl 9 (rows cChg l)), .int .i64 i] [] = some (⟨.bool true, [], []⟩) := clashSwapsS_atG b os _ l _ i .sl .sl
theorem clashSwaps_ok : HSound Try.prog 10 clashSwapsS := by
 refine sE_ (fn := Try.f10) rfl rfl (by kernel_rfl) fun args bx hr hS => ?_
 obtain ⟨⟨b, os, os', l, l', i, h_os, h_l⟩, rfl, rfl, rfl⟩ := mO_ hS
 clear hS
 refine ⟨_, (eH_ (g := 35) (by kernel_rfl) alive43_ok (eV_ (g := 36) (by kernel_rfl) few43_ok (eV_ (g := 15) (by kernel_rfl) fair16_ok (eV_ (g := 37) (by kernel_rfl) swapC_ok (eV_ (g := 38) (by kernel_rfl) freeC_ok (eV_ (g := 39) (by kernel_rfl) plChg_ok (eV_ (g := 29) (by kernel_rfl) runR_ok (eV_ (g := 40) (by kernel_rfl) clashR_ok (eV_ (g := 22) (by kernel_rfl) plBook_ok (eV_ (g := 28) (by kernel_rfl) plOcsB_ok (eN_ _))))))))))), by simp [Try.f10], by simp [go_sem], fun w Mx pin => ?_⟩
 simp only [hB_at, lab_nil, lab_cons, hOf_nil, hOf_cons]
 refine aW_ (s' := ⟨ofL [(0, .agg (cBk b (.sl 7 (rows cOrd os)))), (1, (.sl 9 (rows cChg l))), (2, .int .i64 i)], hOf []⟩) ?_ ?_
 · cases h_os <;> cases h_l <;> exact wO_ [] (by simp [go_sem]) (by simp [go_sem]) (by simp [go_sem])
 clear h_os h_l
 obtain ⟨qs, hqs⟩ : ∃ qs, qs = os.take 20 := ⟨_, rfl⟩
 have hlen : qs.length ≤ 20 := by rw [hqs]; simp; omega
 obtain ⟨ms, hms⟩ : ∃ ms, ms = l.take 20 := ⟨_, rfl⟩
 have hml : ms.length ≤ 20 := by rw [hms]; simp; omega
 refine aQ_ ?_
 iterate 2
  refine oC_ fun J hJ => ?_
  simp [go_sem]
  refine hJ _ _ _ ?_
  clear hJ J
 refine oN_ ?_
 refine aS_ fun K2 hK2 => ?_
 refine aQ_ ?_
 iterate 2
  refine oC_ fun J hJ => ?_
  simp [go_sem, alive43S_at]
  refine hJ _ _ _ ?_
  clear hJ J
 refine oN_ ?_
 refine aF_ rfl ?_
 refine aK_ ?_
 refine hK2 _ ?_
 clear hK2
 refine aQ_ ?_
 iterate 8
  refine oC_ fun J hJ => ?_
  simp [go_sem, few43_20 b os l, ← hqs, ← hms]
  refine hJ _ _ _ ?_
  clear hJ J
 refine oN_ ?_
 refine aS_ fun K7 hK7 => ?_
 refine aS_ fun K8 hK8 => ?_
 cases hfr : fairR b qs
 ·
  refine aR_ ?_
  iterate 3
   refine oC_ fun J hJ => ?_
   simp [go_sem, fair16S_at b qs (show qs.length ≤ 100000 by omega), hfr]
   refine hJ _ _ _ ?_
   clear hJ J
  refine oN_ ?_
  refine hK8 _ ?_
  clear hK8
  refine aT_ rfl ?_
  refine aQ_ ?_
  iterate 1
   refine oC_ fun J hJ => ?_
   simp [go_sem]
   refine hJ _ _ _ ?_
   clear hJ J
  refine oN_ ?_
  refine aE_ ?_
  refine fQ_ [] ?_
  simp [go_sem, Try.f10]
 ·
  obtain ⟨hF, hO⟩ := fairR_of hfr
  have hm1 : ms.length ≤ 100000 := by omega
  have w1 : IntKind.i64.wrap ((ms.length : Int) - 1) = (ms.length : Int) - 1 := wA_ (by omega)
  refine aR_ ?_
  iterate 3
   refine oC_ fun J hJ => ?_
   simp [go_sem, fair16S_at b qs (show qs.length ≤ 100000 by omega), hfr]
   refine hJ _ _ _ ?_
   clear hJ J
  refine oN_ ?_
  refine hK8 _ ?_
  clear hK8
  refine aF_ rfl ?_
  refine aK_ ?_
  refine hK7 _ ?_
  clear hK7
  refine aS_ fun K11 hK11 => ?_
  cases hb : bothB ms.length i
  ·
   have hz : swapZ ms i = ms := if_neg (by simp [hb])
   have hfz : freeZ (b, qs) ms i = false := by simp [freeZ, hb]
   have hcc : decide (i < 0) = true ∨ (decide (i < 0) = false ∧ decide ((ms.length : Int) - 1 ≤ i) = true) := by
    rcases both_F hb with h | h
    · exact .inl (by simpa using h)
    ·
     by_cases h2 : i < 0
     · exact .inl (by simpa using h2)
     · exact .inr ⟨by simpa using h2, by simp; omega⟩
   refine aR_ ?_
   iterate 4
    refine oC_ fun J hJ => ?_
    simp [go_sem, swapCS_at ms i hm1, hz]
    refine hJ _ _ _ ?_
    clear hJ J
   refine oN_ ?_
   refine hK11 _ ?_
   clear hK11
   refine aS_ fun K12 hK12 => ?_
   refine aS_ fun K13 hK13 => ?_
   rcases hcc with hc1 | ⟨hc1, hc2⟩
   ·
    have hc1 : i < 0 := by simpa using hc1
    refine aR_ ?_
    iterate 9
     refine oC_ fun J hJ => ?_
     simp [go_sem, hc1, w1]
     refine hJ _ _ _ ?_
     clear hJ J
    refine oN_ ?_
    refine hK13 _ ?_
    clear hK13
    refine aT_ rfl ?_
    refine aQ_ ?_
    iterate 11
     refine oC_ fun J hJ => ?_
     simp [go_sem, freeCS_at b qs ms i ⟨hF, hO, by omega⟩, hfz, plChgS_at ms ms hm1]
     refine hJ _ _ _ ?_
     clear hJ J
    refine oN_ ?_
    refine aE_ ?_
    refine fQ_ [] ?_
    simp [go_sem, Try.f10]
   ·
    have hc1 : ¬ i < 0 := by simpa using hc1
    have hc2 : (ms.length : Int) - 1 ≤ i := by simpa using hc2
    refine aR_ ?_
    iterate 9
     refine oC_ fun J hJ => ?_
     simp [go_sem, hc1, hc2, w1]
     refine hJ _ _ _ ?_
     clear hJ J
    refine oN_ ?_
    refine hK13 _ ?_
    clear hK13
    refine aT_ rfl ?_
    refine aQ_ ?_
    iterate 11
     refine oC_ fun J hJ => ?_
     simp [go_sem, freeCS_at b qs ms i ⟨hF, hO, by omega⟩, hfz, plChgS_at ms ms hm1]
     refine hJ _ _ _ ?_
     clear hJ J
    refine oN_ ?_
    refine aE_ ?_
    refine fQ_ [] ?_
    simp [go_sem, Try.f10]
  ·
   obtain ⟨k, rfl, hk⟩ := both_T hb
   obtain ⟨x, y, hx, hy⟩ := get_two hk
   obtain ⟨g1, g2, g3, g4⟩ := swap_facts hx hy
   have hz : swapZ ms (k : Int) = swapN ms k := by unfold swapZ; rw [if_pos hb, Int.toNat_natCast]
   have hsl : (swapN ms k).length = ms.length := swapN_len ms k
   have wk := wN_ (n := k) (by omega)
   have wk2 : IntKind.i64.wrap ((k : Int) + 2) = (k : Int) + 2 := wA_ (by omega)
   have hk1 : k < ms.length := by omega
   have hk2 : k ≤ ms.length := by omega
   have hk3 : k + 2 ≤ ms.length := by omega
   have hkt : ((k : Int) + 1).toNat = k + 1 := by omega
   have hkt2 : ((k : Int) + 2).toNat = k + 2 := by omega
   have h0 : (0 : Int) ≤ (k : Int) + 1 := by omega
   have h02 : (0 : Int) ≤ (k : Int) + 2 := by omega
   have hkl : (k : Int) + 1 < ms.length := by omega
   have hn1 : ¬ ((k : Int) < 0) := by omega
   have hn2 : ¬ ((ms.length : Int) - 1 ≤ (k : Int)) := by omega
   obtain ⟨hfp, hlp⟩ := bkL_fair (p := (b, qs)) ⟨hF, hO⟩ (ms.take k)
   simp only [List.length_take] at hlp
   have hfz : freeZ (b, qs) ms (k : Int) = !clashB (bkL (b, qs) (ms.take k)) x y := by rw [freeZ_nat, freeB_eq hx hy]
   obtain ⟨S, hS⟩ : ∃ S, S = swapN ms k := ⟨_, rfl⟩
   rw [← hS] at g1 g2 g3 g4 hz hsl
   have hst : S.take ms.length = S := by rw [← hsl]; exact List.take_length
   refine aR_ ?_
   iterate 4
    refine oC_ fun J hJ => ?_
    simp [go_sem, swapCS_at ms (k : Int) hm1, hz]
    refine hJ _ _ _ ?_
    clear hJ J
   refine oN_ ?_
   refine hK11 _ ?_
   clear hK11
   refine aS_ fun K12 hK12 => ?_
   refine aS_ fun K13 hK13 => ?_
   refine aW_ (s' := ⟨ofL [(1, .sl 9 (rows cChg ms)), (2, .int .i64 (k : Int)), (3, .ref (0, 48) 0), (7, .sl 9 (rows cChg S))], hOf [((0, 48), .obj (cBk b (.sl 7 (rows cOrd qs))))]⟩) ?_ ?_
   · exact wO_ [((0, 48), some (0, 48))] (by simp [go_sem]) (by simp [go_sem, hst, hsl]) (by simp [go_sem])
   refine aR_ ?_
   iterate 9
    refine oC_ fun J hJ => ?_
    simp [go_sem, w1, wk, wk2, hk1, hk2, hk3, hkt, hkt2, h0, h02, hkl, hn1, hn2, ↓hx, ↓hy, ↓g1, ↓g2, hsl, hst]
    refine hJ _ _ _ ?_
    clear hJ J
   refine oN_ ?_
   refine hK13 _ ?_
   clear hK13
   refine aF_ rfl ?_
   refine aK_ ?_
   refine hK12 _ ?_
   clear hK12
   refine aS_ fun K16 hK16 => ?_
   refine aU_ ?_
   iterate 51
    refine oC_ fun J hJ => ?_
    simp [go_sem, wk, wk2, hk1, hk2, hk3, hkt, hkt2, h0, h02, hkl, hn1, hn2, ↓hx, ↓hy, ↓g1, ↓g2, hsl, hst, g3, g4, plChgS_at (ms.take k) (ms.take k) (by simp; omega), plChgS_at (ms.drop (k + 2)) (ms.drop (k + 2)) (by simp; omega)]
    refine hJ _ _ _ ?_
    clear hJ J
   refine oN_ ?_
   refine ⟨rfl, ?_⟩
   refine aF_ rfl ?_
   refine aK_ ?_
   refine hK16 _ ?_
   clear hK16
   refine aU_ ?_
   iterate 11
    refine oC_ fun J hJ => ?_
    simp [go_sem, wk, wk2, hk1, hk2, hk3, hkt, hkt2, h0, h02, hkl, hn1, hn2, ↓hx, ↓hy, ↓g1, ↓g2, hsl, hst, runRS_at b qs (ms.take k) ⟨hF, hO, by simp; omega⟩]
    refine hJ _ _ _ ?_
    clear hJ J
   refine oN_ ?_
   refine ⟨rfl, ?_⟩
   refine aS_ fun K21 hK21 => ?_
   refine aS_ fun K22 hK22 => ?_
   cases hcl : clashB (bkL (b, qs) (ms.take k)) x y
   ·
    obtain ⟨hbk, xo, yo, hxo, hyo, hou⟩ := swap_out hx hy hcl
    rw [← hS] at hbk hxo hyo hou
    have hSl : S.length ≤ 20 := by omega
    have hlS : (bkL (b, qs) ms).2.length ≤ 100000 := by have := (bkL_fair (p := (b, qs)) ⟨hF, hO⟩ ms).2; simp at this; omega
    have hob := effsBig_ou (b, qs) ⟨hF, hO⟩ ms
    have hol : (ouL (b, qs) ms).length ≤ 9223372036854775807 := by rw [ouL_len]; omega
    have rS := runRS_at b qs S ⟨hF, hO, by omega⟩
    rw [hbk, hsl] at rS
    have tkS : (ouL (b, qs) S).take ms.length = ouL (b, qs) S := by rw [← hsl]; exact ouL_take (b, qs) S
    have hlS2 : (ouL (b, qs) S).length = ms.length := by rw [ouL_len]; exact hsl
    refine aD_ ?_
    iterate 16
     refine oC_ fun J hJ => ?_
     simp [go_sem, wk, wk2, hk1, hk2, hk3, hkt, hkt2, h0, h02, hkl, hn1, hn2, ↓hx, ↓hy, ↓g1, ↓g2, hsl, hst, freeCS_at b qs ms (k : Int) ⟨hF, hO, by omega⟩, hfz, hcl, clashR_atP (bkL (b, qs) (ms.take k)) x y ⟨hfp, by omega⟩]
     refine hJ _ _ _ ?_
     clear hJ J
    refine oN_ ?_
    refine ⟨rfl, ?_⟩
    refine hK22 _ ?_
    clear hK22
    refine aF_ rfl ?_
    refine aK_ ?_
    refine hK21 _ ?_
    clear hK21
    refine aS_ fun K25 hK25 => ?_
    refine aQ_ ?_
    iterate 5
     refine oC_ fun J hJ => ?_
     simp [go_sem, freeCS_at b qs ms (k : Int) ⟨hF, hO, by omega⟩, hfz, hcl]
     refine hJ _ _ _ ?_
     clear hJ J
    refine oN_ ?_
    refine aF_ rfl ?_
    refine aK_ ?_
    refine hK25 _ ?_
    clear hK25
    refine aQ_ ?_
    iterate 9
     refine oC_ fun J hJ => ?_
     simp [go_sem, runRS_at b qs ms ⟨hF, hO, by omega⟩]
     refine hJ _ _ _ ?_
     clear hJ J
    refine oN_ ?_
    refine aQ_ ?_
    iterate 9
     refine oC_ fun J hJ => ?_
     simp [go_sem, ↓rS]
     refine hJ _ _ _ ?_
     clear hJ J
    refine oN_ ?_
    refine aS_ fun K31 hK31 => ?_
    refine aQ_ ?_
    iterate 4
     refine oC_ fun J hJ => ?_
     simp [go_sem, plBookS_at (bkL (b, qs) ms).1 (bkL (b, qs) ms).2 (bkL (b, qs) ms).1 (bkL (b, qs) ms).2 hlS, sameB_r]
     refine hJ _ _ _ ?_
     clear hJ J
    refine oN_ ?_
    refine aF_ rfl ?_
    refine aK_ ?_
    refine hK31 _ ?_
    clear hK31
    refine aQ_ ?_
    iterate 7
     refine oC_ fun J hJ => ?_
     simp [go_sem, wk, wk2, hk1, hk2, hk3, hkt, hkt2, h0, h02, hkl, hn1, hn2, ↓hx, ↓hy, ↓g1, ↓g2, hsl, hst, ↓hxo, hyo, ↓hyo, hxo]
     refine hJ _ _ _ ?_
     clear hJ J
    refine oN_ ?_
    refine aQ_ ?_
    iterate 9
     refine oC_ fun J hJ => ?_
     simp [go_sem, wk, wk2, hk1, hk2, hk3, hkt, hkt2, h0, h02, hkl, hn1, hn2, ↓hx, ↓hy, ↓g1, ↓g2, hsl, hst, ↓hxo, ↓hyo]
     refine hJ _ _ _ ?_
     clear hJ J
    refine oN_ ?_
    refine aQ_ ?_
    iterate 5
     refine oC_ fun J hJ => ?_
     simp [go_sem, wk, wk2, hk1, hk2, hk3, hkt, hkt2, h0, h02, hkl, hn1, hn2, ↓hx, ↓hy, ↓g1, ↓g2, hsl, hst]
     refine hJ _ _ _ ?_
     clear hJ J
    refine oN_ ?_
    refine aQ_ ?_
    iterate 4
     refine oC_ fun J hJ => ?_
     simp [go_sem, hou, tkS, ↓plOcsBS_at (ouL (b, qs) ms) (ouL (b, qs) ms) ⟨hol, hob⟩]
     refine hJ _ _ _ ?_
     clear hJ J
    refine oN_ ?_
    refine aE_ ?_
    refine fQ_ [] ?_
    simp [go_sem, Try.f10]
   ·
    refine aD_ ?_
    iterate 16
     refine oC_ fun J hJ => ?_
     simp [go_sem, wk, wk2, hk1, hk2, hk3, hkt, hkt2, h0, h02, hkl, hn1, hn2, ↓hx, ↓hy, ↓g1, ↓g2, hsl, hst, freeCS_at b qs ms (k : Int) ⟨hF, hO, by omega⟩, hfz, hcl, clashR_atP (bkL (b, qs) (ms.take k)) x y ⟨hfp, by omega⟩]
     refine hJ _ _ _ ?_
     clear hJ J
    refine oN_ ?_
    refine ⟨rfl, ?_⟩
    refine hK22 _ ?_
    clear hK22
    refine aF_ rfl ?_
    refine aK_ ?_
    refine hK21 _ ?_
    clear hK21
    refine aS_ fun K25 hK25 => ?_
    refine aQ_ ?_
    iterate 5
     refine oC_ fun J hJ => ?_
     simp [go_sem, freeCS_at b qs ms (k : Int) ⟨hF, hO, by omega⟩, hfz, hcl]
     refine hJ _ _ _ ?_
     clear hJ J
    refine oN_ ?_
    refine aT_ rfl ?_
    refine aQ_ ?_
    iterate 1
     refine oC_ fun J hJ => ?_
     simp [go_sem]
     refine hJ _ _ _ ?_
     clear hJ J
    refine oN_ ?_
    refine aE_ ?_
    refine fQ_ [] ?_
    simp [go_sem, Try.f10]
theorem ClashSwaps_walk (w : World) (l0 : List Int) (a0 : Option Addr) (c0 : Nat) (L0 : List (List Int)) (g0 : l0.length = 24) (_ : ∀ x ∈ l0, I64 x) (h0 : L0.length ≤ c0) (m0 : c0 ≤ maxLen) (s0 : SlK w.heap.size 7 w a0 L0) (a1 : Option Addr) (c1 : Nat) (L1 : List (List Int)) (h1 : L1.length ≤ c1) (m1 : c1 ≤ maxLen) (s1 : SlK w.heap.size 9 w a1 L1) (i2 : Int) (_ : I64 i2) :
  Calls Try.prog 10 #[.agg (bk l0 (.slice a0 L0.length c0)), .slice a1 L1.length c1, .int .i64 i2] w fun e w' => e = .returned (.bool true) ∧ Below w.heap.size w w' := by
 obtain ⟨b0, os0, e0, r0⟩ := book_rep g0 h0 m0 s0
 obtain ⟨os1, e1, r1⟩ := slk_rows ex_Chg s1 h1 m1
 refine true_walk clashSwaps_ok (clashSwapsS_at b0 os0 os1 i2) w rfl fun i v hi => ?_
 match i, hi with
 | 0, hi => cases hi; exact r0
 | 1, hi => cases hi; exact r1
 | 2, hi => cases hi; exact (.int _ _ _)
end Go.Proofs.Ytiifcalgolkpiaa.AE
