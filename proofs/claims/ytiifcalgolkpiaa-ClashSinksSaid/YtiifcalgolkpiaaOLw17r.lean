/-
 FoldRuns. Conditions: none; every contract names its own.
-/
import Derived.Test.YtiifcalgolkpiaaOAl17
set_option linter.constructorNameAsVariable false
namespace Go.Proofs.Ytiifcalgolkpiaa.AE
open Go Go.Proofs Go.RowKit
set_option linter.unusedVariables false
set_option linter.unusedSimpArgs false
set_option maxRecDepth 100000
set_option maxHeartbeats 4000000
theorem sameB_r (b : Bk) (os : List Ord) : sameB b os b os = true := by simp [sameB]
structure foldRunsX where
 b : Bk
 os : List Ord
 os' : AV
 L : List Chg
 L' : AV
 h_os : SlA 7 cOrd os os'
 h_L : SlA 9 cChg L L'
noncomputable def foldRunsS : HSpec := mkH (ι := foldRunsX) (fun ⟨b, os, os', L, L', h_os, h_L⟩ => ([.agg (cBk b os'), L'], [])) fun ⟨b, os, os', L, L', h_os, h_L⟩ => ⟨.bool true, [], []⟩
theorem foldRunsS_atG (b : Bk) (os : List Ord) (os' : AV) (L : List Chg) (L' : AV) (h_os : SlA 7 cOrd os os') (h_L : SlA 9 cChg L L') : foldRunsS [.agg (cBk b os'), L'] [] = some (⟨.bool true, [], []⟩) :=
 mA_ (ι := foldRunsX) (fun i j h => by obtain ⟨b, os, os', L, L', h_os, h_L⟩ := i; obtain ⟨b2, os2, os'2, L2, L'2, h_os2, h_L2⟩ := j; simp [and_assoc, qB_, qI_, qO_, qC_, qE_, qK_, qR_, qV_, qP_, qOc_] at h; obtain ⟨rfl, rfl, rfl⟩ := h; obtain rfl := SlA.inj (fun x y h => cOrd_inj h) h_os h_os2; obtain rfl := SlA.inj (fun x y h => cChg_inj h) h_L h_L2; rfl) ⟨b, os, os', L, L', h_os, h_L⟩
theorem foldRunsS_at (b : Bk) (os : List Ord) (L : List Chg) : foldRunsS [.agg (cBk b (.sl 7 (rows cOrd os))), (.sl 9 (rows cChg L))] [] = some (⟨.bool true, [], []⟩) := foldRunsS_atG b os _ L _ .sl .sl
theorem foldRuns_ok : HSound Try.prog 9 foldRunsS := by
 refine sE_ (fn := Try.f9) rfl rfl (by kernel_rfl) fun args bx hr hS => ?_
 obtain ⟨⟨b, os, os', L, L', h_os, h_L⟩, rfl, rfl, rfl⟩ := mO_ hS
 clear hS
 refine ⟨_, (eH_ (g := 25) (by kernel_rfl) alive17_ok (eV_ (g := 26) (by kernel_rfl) few17_ok (eV_ (g := 15) (by kernel_rfl) fair16_ok (eV_ (g := 27) (by kernel_rfl) runF_ok (eH_ (g := 29) (by kernel_rfl) runR_ok (eV_ (g := 22) (by kernel_rfl) plBook_ok (eV_ (g := 28) (by kernel_rfl) plOcsB_ok (eV_ (g := 34) (by kernel_rfl) lastF_ok (eN_ _))))))))), by simp [Try.f9], by simp [go_sem], fun w Mx pin => ?_⟩
 simp only [hB_at, lab_nil, lab_cons, hOf_nil, hOf_cons]
 refine aW_ (s' := ⟨ofL [(0, .agg (cBk b (.sl 7 (rows cOrd os)))), (1, (.sl 9 (rows cChg L)))], hOf []⟩) ?_ ?_
 · cases h_os <;> cases h_L <;> exact wO_ [] (by simp [go_sem]) (by simp [go_sem]) (by simp [go_sem])
 clear h_os h_L
 obtain ⟨qs, hqs⟩ : ∃ qs, qs = os.take 30 := ⟨_, rfl⟩
 have hlen : qs.length ≤ 30 := by rw [hqs]; simp; omega
 obtain ⟨ms, hms⟩ : ∃ ms, ms = L.take 50 := ⟨_, rfl⟩
 have hml : ms.length ≤ 50 := by rw [hms]; simp; omega
 refine aQ_ ?_
 iterate 2
  refine oC_ fun J hJ => ?_
  simp [go_sem]
  refine hJ _ _ _ ?_
  clear hJ J
 refine oN_ ?_
 refine aS_ fun K2 hK2 => ?_
 refine aQ_ ?_
 iterate 2
  refine oC_ fun J hJ => ?_
  simp [go_sem, alive17S_at]
  refine hJ _ _ _ ?_
  clear hJ J
 refine oN_ ?_
 refine aF_ rfl ?_
 refine aK_ ?_
 refine hK2 _ ?_
 clear hK2
 refine aQ_ ?_
 iterate 8
  refine oC_ fun J hJ => ?_
  simp [go_sem, few17S_at b os L, ← hqs, ← hms]
  refine hJ _ _ _ ?_
  clear hJ J
 refine oN_ ?_
 refine aS_ fun K7 hK7 => ?_
 refine aS_ fun K8 hK8 => ?_
 cases hfr : fairR b qs
 ·
  refine aR_ ?_
  iterate 3
   refine oC_ fun J hJ => ?_
   simp [go_sem, fair16S_at b qs (show qs.length ≤ 100000 by omega), hfr]
   refine hJ _ _ _ ?_
   clear hJ J
  refine oN_ ?_
  refine hK8 _ ?_
  clear hK8
  refine aT_ rfl ?_
  refine aQ_ ?_
  iterate 1
   refine oC_ fun J hJ => ?_
   simp [go_sem]
   refine hJ _ _ _ ?_
   clear hJ J
  refine oN_ ?_
  refine aE_ ?_
  refine fQ_ [] ?_
  simp [go_sem, Try.f9]
 ·
  obtain ⟨hF, hO⟩ := fairR_of hfr
  have hR : FairB b ∧ FairO qs ∧ qs.length + ms.length ≤ 30000 := ⟨hF, hO, by omega⟩
  obtain ⟨hfp, hlp⟩ := bkL_fair (p := (b, qs)) ⟨hF, hO⟩ ms
  simp only at hlp
  have hob := effsBig_ou (b, qs) ⟨hF, hO⟩ ms
  have hol : (ouL (b, qs) ms).length ≤ 9223372036854775807 := by rw [ouL_len]; omega
  refine aR_ ?_
  iterate 3
   refine oC_ fun J hJ => ?_
   simp [go_sem, fair16S_at b qs (show qs.length ≤ 100000 by omega), hfr]
   refine hJ _ _ _ ?_
   clear hJ J
  refine oN_ ?_
  refine hK8 _ ?_
  clear hK8
  refine aF_ rfl ?_
  refine aK_ ?_
  refine hK7 _ ?_
  clear hK7
  refine aQ_ ?_
  iterate 9
   refine oC_ fun J hJ => ?_
   simp [go_sem, runFS_at b qs ms hR]
   refine hJ _ _ _ ?_
   clear hJ J
  refine oN_ ?_
  refine aQ_ ?_
  iterate 9
   refine oC_ fun J hJ => ?_
   simp [go_sem, runRS_at b qs ms hR]
   refine hJ _ _ _ ?_
   clear hJ J
  refine oN_ ?_
  refine aU_ ?_
  iterate 16
   refine oC_ fun J hJ => ?_
   simp [go_sem, plBookS_at (bkL (b, qs) ms).1 (bkL (b, qs) ms).2 (bkL (b, qs) ms).1 (bkL (b, qs) ms).2 (show (bkL (b, qs) ms).2.length ≤ 100000 by omega), sameB_r, ↓plOcsBS_at (ouL (b, qs) ms) (ouL (b, qs) ms) ⟨hol, hob⟩, lastFS_at b qs ms hR]
   refine hJ _ _ _ ?_
   clear hJ J
  refine oN_ ?_
  refine ⟨rfl, ?_⟩
  refine aE_ ?_
  refine fQ_ [] ?_
  simp [go_sem, Try.f9]
theorem FoldRuns_walk (w : World) (l0 : List Int) (a0 : Option Addr) (c0 : Nat) (L0 : List (List Int)) (g0 : l0.length = 24) (_ : ∀ x ∈ l0, I64 x) (h0 : L0.length ≤ c0) (m0 : c0 ≤ maxLen) (s0 : SlK w.heap.size 7 w a0 L0) (a1 : Option Addr) (c1 : Nat) (L1 : List (List Int)) (h1 : L1.length ≤ c1) (m1 : c1 ≤ maxLen) (s1 : SlK w.heap.size 9 w a1 L1) :
  Calls Try.prog 9 #[.agg (bk l0 (.slice a0 L0.length c0)), .slice a1 L1.length c1] w fun e w' => e = .returned (.bool true) ∧ Below w.heap.size w w' := by
 obtain ⟨b0, os0, e0, r0⟩ := book_rep g0 h0 m0 s0
 obtain ⟨os1, e1, r1⟩ := slk_rows ex_Chg s1 h1 m1
 refine true_walk foldRuns_ok (foldRunsS_at b0 os0 os1) w rfl fun i v hi => ?_
 match i, hi with
 | 0, hi => cases hi; exact r0
 | 1, hi => cases hi; exact r1
end Go.Proofs.Ytiifcalgolkpiaa.AE
