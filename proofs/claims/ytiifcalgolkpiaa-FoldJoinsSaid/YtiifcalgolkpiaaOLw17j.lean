/-
 FoldJoins. Conditions: none; every contract names its own.
-/
import Derived.Test.YtiifcalgolkpiaaOLw17r
set_option linter.constructorNameAsVariable false
namespace Go.Proofs.Ytiifcalgolkpiaa.AE
open Go Go.Proofs Go.RowKit
set_option linter.unusedVariables false
set_option linter.unusedSimpArgs false
set_option maxRecDepth 100000
set_option maxHeartbeats 4000000
structure foldJoinsX where
 b : Bk
 os : List Ord
 os' : AV
 L : List Chg
 L' : AV
 M : List Chg
 M' : AV
 h_os : SlA 7 cOrd os os'
 h_L : SlA 9 cChg L L'
 h_M : SlA 9 cChg M M'
noncomputable def foldJoinsS : HSpec := mkH (ι := foldJoinsX) (fun ⟨b, os, os', L, L', M, M', h_os, h_L, h_M⟩ => ([.agg (cBk b os'), L', M'], [])) fun ⟨b, os, os', L, L', M, M', h_os, h_L, h_M⟩ => ⟨.bool true, [], []⟩
theorem foldJoinsS_atG (b : Bk) (os : List Ord) (os' : AV) (L : List Chg) (L' : AV) (M : List Chg) (M' : AV) (h_os : SlA 7 cOrd os os') (h_L : SlA 9 cChg L L') (h_M : SlA 9 cChg M M') : foldJoinsS [.agg (cBk b os'), L', M'] [] = some (⟨.bool true, [], []⟩) :=
 mA_ (ι := foldJoinsX) (fun i j h => by obtain ⟨b, os, os', L, L', M, M', h_os, h_L, h_M⟩ := i; obtain ⟨b2, os2, os'2, L2, L'2, M2, M'2, h_os2, h_L2, h_M2⟩ := j; simp [and_assoc, qB_, qI_, qO_, qC_, qE_, qK_, qR_, qV_, qP_, qOc_] at h; obtain ⟨rfl, rfl, rfl, rfl⟩ := h; obtain rfl := SlA.inj (fun x y h => cOrd_inj h) h_os h_os2; obtain rfl := SlA.inj (fun x y h => cChg_inj h) h_L h_L2; obtain rfl := SlA.inj (fun x y h => cChg_inj h) h_M h_M2; rfl) ⟨b, os, os', L, L', M, M', h_os, h_L, h_M⟩
theorem foldJoinsS_at (b : Bk) (os : List Ord) (L : List Chg) (M : List Chg) : foldJoinsS [.agg (cBk b (.sl 7 (rows cOrd os))), (.sl 9 (rows cChg L)), (.sl 9 (rows cChg M))] [] = some (⟨.bool true, [], []⟩) := foldJoinsS_atG b os _ L _ M _ .sl .sl .sl
theorem foldJoins_ok : HSound Try.prog 7 foldJoinsS := by
 refine sE_ (fn := Try.f7) rfl rfl (by kernel_rfl) fun args bx hr hS => ?_
 obtain ⟨⟨b, os, os', L, L', M, M', h_os, h_L, h_M⟩, rfl, rfl, rfl⟩ := mO_ hS
 clear hS
 refine ⟨_, (eH_ (g := 25) (by kernel_rfl) alive17_ok (eV_ (g := 26) (by kernel_rfl) few17_ok (eV_ (g := 15) (by kernel_rfl) fair16_ok (eV_ (g := 27) (by kernel_rfl) runF_ok (eV_ (g := 22) (by kernel_rfl) plBook_ok (eV_ (g := 28) (by kernel_rfl) plOcsB_ok (eN_ _))))))), by simp [Try.f7], by simp [go_sem], fun w Mx pin => ?_⟩
 simp only [hB_at, lab_nil, lab_cons, hOf_nil, hOf_cons]
 refine aW_ (s' := ⟨ofL [(0, .agg (cBk b (.sl 7 (rows cOrd os)))), (1, (.sl 9 (rows cChg L))), (2, (.sl 9 (rows cChg M)))], hOf []⟩) ?_ ?_
 · cases h_os <;> cases h_L <;> cases h_M <;> exact wO_ [] (by simp [go_sem]) (by simp [go_sem]) (by simp [go_sem])
 clear h_os h_L h_M
 obtain ⟨qs, hqs⟩ : ∃ qs, qs = os.take 30 := ⟨_, rfl⟩
 have hlen : qs.length ≤ 30 := by rw [hqs]; simp; omega
 obtain ⟨ms, hms⟩ : ∃ ms, ms = L.take 50 := ⟨_, rfl⟩
 have hml : ms.length ≤ 50 := by rw [hms]; simp; omega
 obtain ⟨ns, hns⟩ : ∃ ns, ns = M.take 50 := ⟨_, rfl⟩
 have hnl : ns.length ≤ 50 := by rw [hns]; simp; omega
 have hq2 : qs.take 30 = qs := List.take_of_length_le hlen
 refine aS_ fun K1 hK1 => ?_
 refine aR_ ?_
 iterate 2
  refine oC_ fun J hJ => ?_
  simp [go_sem]
  refine hJ _ _ _ ?_
  clear hJ J
 refine oN_ ?_
 refine hK1 _ ?_
 clear hK1
 refine aS_ fun K2 hK2 => ?_
 refine aS_ fun K3 hK3 => ?_
 refine aR_ ?_
 iterate 2
  refine oC_ fun J hJ => ?_
  simp [go_sem, alive17S_at]
  refine hJ _ _ _ ?_
  clear hJ J
 refine oN_ ?_
 refine hK3 _ ?_
 clear hK3
 refine aF_ rfl ?_
 refine aK_ ?_
 refine hK2 _ ?_
 clear hK2
 refine aS_ fun K6 hK6 => ?_
 refine aR_ ?_
 iterate 8
  refine oC_ fun J hJ => ?_
  simp [go_sem, few17S_at b os L, ← hqs, ← hms]
  refine hJ _ _ _ ?_
  clear hJ J
 refine oN_ ?_
 refine hK6 _ ?_
 clear hK6
 refine aS_ fun K7 hK7 => ?_
 refine aR_ ?_
 iterate 8
  refine oC_ fun J hJ => ?_
  simp [go_sem, few17S_at b qs M, hq2, ← hns]
  refine hJ _ _ _ ?_
  clear hJ J
 refine oN_ ?_
 refine hK7 _ ?_
 clear hK7
 refine aS_ fun K8 hK8 => ?_
 refine aS_ fun K9 hK9 => ?_
 cases hfr : fairR b qs
 ·
  refine aR_ ?_
  iterate 3
   refine oC_ fun J hJ => ?_
   simp [go_sem, fair16S_at b qs (show qs.length ≤ 100000 by omega), hfr]
   refine hJ _ _ _ ?_
   clear hJ J
  refine oN_ ?_
  refine hK9 _ ?_
  clear hK9
  refine aT_ rfl ?_
  refine aS_ fun K11 hK11 => ?_
  refine aR_ ?_
  iterate 1
   refine oC_ fun J hJ => ?_
   simp [go_sem]
   refine hJ _ _ _ ?_
   clear hJ J
  refine oN_ ?_
  refine hK11 _ ?_
  clear hK11
  refine aE_ ?_
  refine fQ_ [] ?_
  simp [go_sem, Try.f7]
 ·
  obtain ⟨hF, hO⟩ := fairR_of hfr
  have hR : FairB b ∧ FairO qs ∧ qs.length + ms.length ≤ 30000 := ⟨hF, hO, by omega⟩
  obtain ⟨hfp, hlp⟩ := bkL_fair (p := (b, qs)) ⟨hF, hO⟩ ms
  simp only at hlp
  have hR2 : FairB (bkL (b, qs) ms).1 ∧ FairO (bkL (b, qs) ms).2 ∧ (bkL (b, qs) ms).2.length + ns.length ≤ 30000 := ⟨hfp.1, hfp.2, by omega⟩
  have hR3 : FairB b ∧ FairO qs ∧ qs.length + (ms ++ ns).length ≤ 30000 := ⟨hF, hO, by simp; omega⟩
  obtain ⟨hfq, hlq⟩ := bkL_fair (p := (b, qs)) ⟨hF, hO⟩ (ms ++ ns)
  simp only [List.length_append] at hlq
  have hob := effsBig_ou (b, qs) ⟨hF, hO⟩ (ms ++ ns)
  have hol : (ouL (b, qs) (ms ++ ns)).length ≤ 9223372036854775807 := by rw [ouL_len]; simp; omega
  have rA := runFS_at b qs (ms ++ ns) hR3
  rw [bkL_append, ouL_append, List.length_append] at rA
  rw [bkL_append] at hlq
  rw [ouL_append] at hol hob
  have tkO : (ouL (b, qs) ms ++ ouL (bkL (b, qs) ms) ns).take (ms.length + ns.length) = ouL (b, qs) ms ++ ouL (bkL (b, qs) ms) ns := List.take_of_length_le (by simp [ouL_len])
  refine aR_ ?_
  iterate 3
   refine oC_ fun J hJ => ?_
   simp [go_sem, fair16S_at b qs (show qs.length ≤ 100000 by omega), hfr]
   refine hJ _ _ _ ?_
   clear hJ J
  refine oN_ ?_
  refine hK9 _ ?_
  clear hK9
  refine aF_ rfl ?_
  refine aK_ ?_
  refine hK8 _ ?_
  clear hK8
  refine aS_ fun K12 hK12 => ?_
  refine aR_ ?_
  iterate 1
   refine oC_ fun J hJ => ?_
   simp [go_sem]
   refine hJ _ _ _ ?_
   clear hJ J
  refine oN_ ?_
  refine hK12 _ ?_
  clear hK12
  refine aS_ fun K13 hK13 => ?_
  refine aR_ ?_
  iterate 4
   refine oC_ fun J hJ => ?_
   simp [go_sem, show (ms.length) * 72 ≤ 140737488355328 by omega, show ms.length ≤ maxLen by (simp only [maxLen]; omega)]
   refine hJ _ _ _ ?_
   clear hJ J
  refine oN_ ?_
  refine hK13 _ ?_
  clear hK13
  refine aS_ fun K14 hK14 => ?_
  refine aR_ ?_
  iterate 4
   refine oC_ fun J hJ => ?_
   simp [go_sem, show (ms.length + ns.length) * 72 ≤ 140737488355328 by omega, show ms.length + ns.length ≤ maxLen by (simp only [maxLen]; omega)]
   refine hJ _ _ _ ?_
   clear hJ J
  refine oN_ ?_
  refine hK14 _ ?_
  clear hK14
  refine aS_ fun K15 hK15 => ?_
  refine aR_ ?_
  iterate 9
   refine oC_ fun J hJ => ?_
   simp [go_sem, runFS_at b qs ms hR]
   refine hJ _ _ _ ?_
   clear hJ J
  refine oN_ ?_
  refine hK15 _ ?_
  clear hK15
  refine aS_ fun K16 hK16 => ?_
  refine aR_ ?_
  iterate 9
   refine oC_ fun J hJ => ?_
   simp [go_sem, runF_atP (bkL (b, qs) ms) ns ⟨hfp, hR2.2.2⟩]
   refine hJ _ _ _ ?_
   clear hJ J
  refine oN_ ?_
  refine hK16 _ ?_
  clear hK16
  refine aS_ fun K17 hK17 => ?_
  refine aW_ (s' := ⟨ofL [(3, .ref (0, 48) 0), (7, .sl 9 (rows cChg (ms ++ ns))), (9, .own (0, 656) ms.length), (10, .ref (0, 160) 0), (11, .own (0, 752) ns.length)], hOf [((0, 48), .obj (cBk b (.sl 7 (rows cOrd qs)))), ((0, 160), .obj (cBk (bkL (bkL (b, qs) ms) ns).1 (.sl 7 (rows cOrd (bkL (bkL (b, qs) ms) ns).2)))), ((0, 656), .row 36 2 (rows cOc (ouL (b, qs) ms)) false), ((0, 752), .row 36 2 (rows cOc (ouL (bkL (b, qs) ms) ns)) false)]⟩) ?_ ?_
  · refine wO_ [((0, 48), some (0, 48)), ((0, 160), some (0, 160)), ((0, 656), some (0, 656)), ((0, 752), some (0, 752))] (by simp [go_sem]) ?_ ?_ <;> simp [go_sem, dropped, take_two]
  refine aR_ ?_
  iterate 9
   refine oC_ fun J hJ => ?_
   simp [go_sem, rA, take_two]
   refine hJ _ _ _ ?_
   clear hJ J
  refine oN_ ?_
  refine hK17 _ ?_
  clear hK17
  refine aS_ fun K18 hK18 => ?_
  refine aR_ ?_
  iterate 1
   refine oC_ fun J hJ => ?_
   simp [go_sem]
   refine hJ _ _ _ ?_
   clear hJ J
  refine oN_ ?_
  refine hK18 _ ?_
  clear hK18
  refine aS_ fun K19 hK19 => ?_
  refine aR_ ?_
  iterate 4
   refine oC_ fun J hJ => ?_
   simp [go_sem, show (ms.length) * 32 ≤ 140737488355328 by omega, show ms.length ≤ maxLen by (simp only [maxLen]; omega)]
   refine hJ _ _ _ ?_
   clear hJ J
  refine oN_ ?_
  refine hK19 _ ?_
  clear hK19
  refine aS_ fun K20 hK20 => ?_
  refine aR_ ?_
  iterate 4
   refine oC_ fun J hJ => ?_
   simp [go_sem, show (ms.length + ns.length) * 32 ≤ 140737488355328 by omega, show ms.length + ns.length ≤ maxLen by (simp only [maxLen]; omega)]
   refine hJ _ _ _ ?_
   clear hJ J
  refine oN_ ?_
  refine hK20 _ ?_
  clear hK20
  refine aS_ fun K21 hK21 => ?_
  refine aR_ ?_
  iterate 9
   refine oC_ fun J hJ => ?_
   simp [go_sem, plBookS_at (bkL (bkL (b, qs) ms) ns).1 (bkL (bkL (b, qs) ms) ns).2 (bkL (bkL (b, qs) ms) ns).1 (bkL (bkL (b, qs) ms) ns).2 (show (bkL (bkL (b, qs) ms) ns).2.length ≤ 100000 by omega), sameB_r, ↓plOcsBS_at (ouL (b, qs) ms ++ ouL (bkL (b, qs) ms) ns) (ouL (b, qs) ms ++ ouL (bkL (b, qs) ms) ns) ⟨hol, hob⟩, take_two, tkO]
   refine hJ _ _ _ ?_
   clear hJ J
  refine oN_ ?_
  refine hK21 _ ?_
  clear hK21
  refine aE_ ?_
  refine fQ_ [] ?_
  simp [go_sem, Try.f7]
theorem FoldJoins_walk (w : World) (l0 : List Int) (a0 : Option Addr) (c0 : Nat) (L0 : List (List Int)) (g0 : l0.length = 24) (_ : ∀ x ∈ l0, I64 x) (h0 : L0.length ≤ c0) (m0 : c0 ≤ maxLen) (s0 : SlK w.heap.size 7 w a0 L0) (a1 : Option Addr) (c1 : Nat) (L1 : List (List Int)) (h1 : L1.length ≤ c1) (m1 : c1 ≤ maxLen) (s1 : SlK w.heap.size 9 w a1 L1) (a2 : Option Addr) (c2 : Nat) (L2 : List (List Int)) (h2 : L2.length ≤ c2) (m2 : c2 ≤ maxLen) (s2 : SlK w.heap.size 9 w a2 L2) :
  Calls Try.prog 7 #[.agg (bk l0 (.slice a0 L0.length c0)), .slice a1 L1.length c1, .slice a2 L2.length c2] w fun e w' => e = .returned (.bool true) ∧ Below w.heap.size w w' := by
 obtain ⟨b0, os0, e0, r0⟩ := book_rep g0 h0 m0 s0
 obtain ⟨os1, e1, r1⟩ := slk_rows ex_Chg s1 h1 m1
 obtain ⟨os2, e2, r2⟩ := slk_rows ex_Chg s2 h2 m2
 refine true_walk foldJoins_ok (foldJoinsS_at b0 os0 os1 os2) w rfl fun i v hi => ?_
 match i, hi with
 | 0, hi => cases hi; exact r0
 | 1, hi => cases hi; exact r1
 | 2, hi => cases hi; exact r2
end Go.Proofs.Ytiifcalgolkpiaa.AE
