/-
 Package clash: Clash. Conditions: none; every contract names its own.
-/
import Derived.Test.YtiifcalgolkpiaaOCl0
import Derived.Test.YtiifcalgolkpiaaORv
import Derived.Test.YtiifcalgolkpiaaPc
set_option linter.constructorNameAsVariable false
namespace Go.Proofs.Ytiifcalgolkpiaa.AE
open Go Go.Proofs Go.RowKit
set_option linter.unusedVariables false
set_option linter.unusedSimpArgs false
set_option maxRecDepth 100000
set_option maxHeartbeats 4000000
@[go_sem] theorem cChg_take_app (c : Chg) (X : List AV) : (cChg c ++ X).take 9 = cChg c := rfl
@[go_sem] theorem cChg_drop_app (c : Chg) (X : List AV) : (cChg c ++ X).drop 9 = X := rfl
theorem effsBig_rev {L : List Outc} (h : effsBig L) : effsBig L.reverse := fun x hx => h x (List.mem_reverse.1 hx)
theorem ouL_take2 (p : Bk × List Ord) (c d : Chg) : (ouL p [c, d]).take 2 = ouL p [c, d] := ouL_take p [c, d]
theorem ouL_rtake2 (p : Bk × List Ord) (c d : Chg) : (ouL p [c, d]).reverse.take 2 = (ouL p [c, d]).reverse := List.take_of_length_le (by simp [ouL_len])
theorem runF_two (b : Bk) (os : List Ord) (c d : Chg) (h : FairB b ∧ FairO os ∧ os.length ≤ 29000) : runFS [.agg (cBk b (.sl 7 (rows cOrd os))), .sl 9 (rows cChg [c, d])] [] = some ⟨.tup [.agg (cBk (bkL (b, os) [c, d]).1 (.sl 7 (rows cOrd (bkL (b, os) [c, d]).2))), .own (2, 0) 2], [], [.row 36 2 (rows cOc (ouL (b, os) [c, d])) false]⟩ := runFS_at b os [c, d] ⟨h.1, h.2.1, by simp; omega⟩
theorem runR_two (b : Bk) (os : List Ord) (c d : Chg) (h : FairB b ∧ FairO os ∧ os.length ≤ 29000) : runRS [.agg (cBk b (.sl 7 (rows cOrd os))), .sl 9 (rows cChg [c, d])] [] = some ⟨.tup [.agg (cBk (bkL (b, os) [c, d]).1 (.sl 7 (rows cOrd (bkL (b, os) [c, d]).2))), .own (2, 0) 2], [], [.row 36 2 (rows cOc (ouL (b, os) [c, d])) false]⟩ := runRS_at b os [c, d] ⟨h.1, h.2.1, by simp; omega⟩
theorem os_two {b : Bk} {os : List Ord} (h : FairB b ∧ FairO os ∧ os.length ≤ 29000) (c d : Chg) : (bkL (b, os) [c, d]).2.length ≤ 100000 := by
 have := (bkL_fair (p := (b, os)) ⟨h.1, h.2.1⟩ [c, d]).2
 simp at this
 omega
theorem rev_two (b : Bk) (os : List Ord) (c d : Chg) : revOS [.own (1, 0) 2] [.row 36 2 (rows cOc (ouL (b, os) [c, d])) false] = some ⟨.tup [], [.row 36 2 (rows cOc (ouL (b, os) [c, d]).reverse) false], []⟩ := revOS_at (ouL (b, os) [c, d]) 2 (by rw [ouL_len]; rfl) (by omega)
theorem same_two {b : Bk} {os : List Ord} (h : FairB b ∧ FairO os ∧ os.length ≤ 29000) (c d : Chg) : sameFS [.sl 2 (rows cOc (ouL (b, os) [c, d])), .sl 2 (rows cOc (ouL (b, os) [d, c]).reverse)] [] = some ⟨.bool (decide (ouL (b, os) [c, d] = (ouL (b, os) [d, c]).reverse)), [], []⟩ := sameFS_at _ _ ⟨by rw [ouL_len]; simp, effsBig_ou (b, os) ⟨h.1, h.2.1⟩ [c, d]⟩
structure clashX where
 b : Bk
 os : List Ord
 os' : AV
 c : Chg
 d : Chg
 h_os : SlA 7 cOrd os os'
 hL : FairB b ∧ FairO os ∧ os.length ≤ 29000
noncomputable def clashS : HSpec := mkH (ι := clashX) (fun ⟨b, os, os', c, d, h_os, hL⟩ => ([.agg (cBk b os'), .agg (cChg c), .agg (cChg d)], [])) fun ⟨b, os, os', c, d, h_os, hL⟩ => ⟨.bool (clashB (b, os) c d), [], []⟩
theorem clashS_atG (b : Bk) (os : List Ord) (os' : AV) (c : Chg) (d : Chg) (h_os : SlA 7 cOrd os os') (hL : FairB b ∧ FairO os ∧ os.length ≤ 29000) : clashS [.agg (cBk b os'), .agg (cChg c), .agg (cChg d)] [] = some (⟨.bool (clashB (b, os) c d), [], []⟩) :=
 mA_ (ι := clashX) (fun i j h => by obtain ⟨b, os, os', c, d, h_os, hL⟩ := i; obtain ⟨b2, os2, os'2, c2, d2, h_os2, hL2⟩ := j; simp [and_assoc, qB_, qI_, qO_, qC_, qE_, qK_, qR_, qV_, qP_, qOc_] at h; obtain ⟨rfl, rfl, rfl, rfl⟩ := h; obtain rfl := SlA.inj (fun x y h => cOrd_inj h) h_os h_os2; rfl) ⟨b, os, os', c, d, h_os, hL⟩
theorem clashS_at (b : Bk) (os : List Ord) (c : Chg) (d : Chg) (hL : FairB b ∧ FairO os ∧ os.length ≤ 29000) : clashS [.agg (cBk b (.sl 7 (rows cOrd os))), .agg (cChg c), .agg (cChg d)] [] = some (⟨.bool (clashB (b, os) c d), [], []⟩) := clashS_atG b os _ c d .sl hL
theorem clash_ok : HSound Try.prog 46 clashS := by
 refine sE_ (fn := Try.f46) rfl rfl (by kernel_rfl) fun args bx hr hS => ?_
 obtain ⟨⟨b, os, os', c, d, h_os, hL⟩, rfl, rfl, rfl⟩ := mO_ hS
 clear hS
 refine ⟨_, (eV_ (g := 27) (by kernel_rfl) runF_ok (eH_ (g := 66) (by kernel_rfl) revO_ok (eV_ (g := 67) (by kernel_rfl) same_ok (eV_ (g := 33) (by kernel_rfl) sameF_ok (eN_ _))))), by simp [Try.f46], by simp [go_sem], fun w Mx pin => ?_⟩
 simp only [hB_at, lab_nil, lab_cons, hOf_nil, hOf_cons]
 refine aW_ (s' := ⟨ofL [(0, .agg (cBk b (.sl 7 (rows cOrd os)))), (1, .agg (cChg c)), (2, .agg (cChg d))], hOf []⟩) ?_ ?_
 · cases h_os <;> exact wO_ [] (by simp [go_sem]) (by simp [go_sem]) (by simp [go_sem])
 clear h_os
 refine aQ_ ?_
 iterate 4
  refine oC_ fun J hJ => ?_
  simp [go_sem]
  refine hJ _ _ _ ?_
  clear hJ J
 refine oN_ ?_
 refine aS_ fun K2 hK2 => ?_
 refine awp_regionW ?_
 refine opsW_cons fun J hJ => ?_
 simp [go_sem, ↓runF_two b os c d hL]
 refine hJ _ _ _ ?_
 clear hJ J
 refine opsW_cons fun J hJ => ?_
 simp [go_sem, ↓runF_two b os c d hL]
 refine hJ _ _ _ ?_
 clear hJ J
 refine opsW_cons fun J hJ => ?_
 simp [go_sem, ↓runF_two b os c d hL]
 refine hJ _ _ _ ?_
 clear hJ J
 refine opsW_cons fun J hJ => ?_
 simp [go_sem, ↓runF_two b os c d hL]
 refine hJ _ _ _ ?_
 clear hJ J
 refine opsW_frz (e := 29) (sz := 9) (L := [cChg c, cChg d]) (z := false) (0, 240) (by simp [go_sem]) ?_
 refine opsW_cons fun J hJ => ?_
 simp [go_sem, ↓runF_two b os c d hL]
 refine hJ _ _ _ ?_
 clear hJ J
 refine opsW_cons fun J hJ => ?_
 simp [go_sem, ↓runF_two b os c d hL]
 refine hJ _ _ _ ?_
 clear hJ J
 refine opsW_cons fun J hJ => ?_
 simp [go_sem, ↓runF_two b os c d hL]
 refine hJ _ _ _ ?_
 clear hJ J
 refine opsW_cons fun J hJ => ?_
 simp [go_sem, ↓runF_two b os c d hL]
 refine hJ _ _ _ ?_
 clear hJ J
 refine opsW_cons fun J hJ => ?_
 simp [go_sem, ↓runF_two b os c d hL]
 refine hJ _ _ _ ?_
 clear hJ J
 refine opsW_cons fun J hJ => ?_
 simp [go_sem, ↓runF_two b os c d hL]
 refine hJ _ _ _ ?_
 clear hJ J
 refine opsW_cons fun J hJ => ?_
 simp [go_sem, ↓runF_two b os c d hL]
 refine hJ _ _ _ ?_
 clear hJ J
 refine opsW_nil ?_
 refine hK2 _ ?_
 clear hK2
 refine aS_ fun K3 hK3 => ?_
 refine awp_regionW ?_
 refine opsW_cons fun J hJ => ?_
 simp [go_sem, ↓runF_two b os d c hL]
 refine hJ _ _ _ ?_
 clear hJ J
 refine opsW_cons fun J hJ => ?_
 simp [go_sem, ↓runF_two b os d c hL]
 refine hJ _ _ _ ?_
 clear hJ J
 refine opsW_cons fun J hJ => ?_
 simp [go_sem, ↓runF_two b os d c hL]
 refine hJ _ _ _ ?_
 clear hJ J
 refine opsW_cons fun J hJ => ?_
 simp [go_sem, ↓runF_two b os d c hL]
 refine hJ _ _ _ ?_
 clear hJ J
 refine opsW_frz (e := 29) (sz := 9) (L := [cChg d, cChg c]) (z := false) (0, 368) (by simp [go_sem]) ?_
 refine opsW_cons fun J hJ => ?_
 simp [go_sem, ↓runF_two b os d c hL]
 refine hJ _ _ _ ?_
 clear hJ J
 refine opsW_cons fun J hJ => ?_
 simp [go_sem, ↓runF_two b os d c hL]
 refine hJ _ _ _ ?_
 clear hJ J
 refine opsW_cons fun J hJ => ?_
 simp [go_sem, ↓runF_two b os d c hL]
 refine hJ _ _ _ ?_
 clear hJ J
 refine opsW_cons fun J hJ => ?_
 simp [go_sem, ↓runF_two b os d c hL]
 refine hJ _ _ _ ?_
 clear hJ J
 refine opsW_cons fun J hJ => ?_
 simp [go_sem, ↓runF_two b os d c hL]
 refine hJ _ _ _ ?_
 clear hJ J
 refine opsW_cons fun J hJ => ?_
 simp [go_sem, ↓runF_two b os d c hL]
 refine hJ _ _ _ ?_
 clear hJ J
 refine opsW_cons fun J hJ => ?_
 simp [go_sem, ↓runF_two b os d c hL]
 refine hJ _ _ _ ?_
 clear hJ J
 refine opsW_nil ?_
 refine hK3 _ ?_
 clear hK3
 refine aQ_ ?_
 iterate 2
  refine oC_ fun J hJ => ?_
  simp [go_sem, ↓rev_two b os d c]
  refine hJ _ _ _ ?_
  clear hJ J
 refine oN_ ?_
 refine aS_ fun K5 hK5 => ?_
 cases hs : sameB (bkL (b, os) [c, d]).1 (bkL (b, os) [c, d]).2 (bkL (b, os) [d, c]).1 (bkL (b, os) [d, c]).2
 ·
  refine aR_ ?_
  iterate 11
   refine oC_ fun J hJ => ?_
   simp [go_sem, sameS_at (bkL (b, os) [c, d]).1 (bkL (b, os) [c, d]).2 (bkL (b, os) [d, c]).1 (bkL (b, os) [d, c]).2 (os_two hL c d), hs]
   refine hJ _ _ _ ?_
   clear hJ J
  refine oN_ ?_
  refine hK5 _ ?_
  clear hK5
  refine aE_ ?_
  refine fQ_ [] ?_
  simp [go_sem, Try.f46, clashB, hs]
 ·
  refine aR_ ?_
  iterate 11
   refine oC_ fun J hJ => ?_
   simp [go_sem, sameS_at (bkL (b, os) [c, d]).1 (bkL (b, os) [c, d]).2 (bkL (b, os) [d, c]).1 (bkL (b, os) [d, c]).2 (os_two hL c d), hs, ouL_take2, ouL_rtake2, ↓same_two hL c d]
   refine hJ _ _ _ ?_
   clear hJ J
  refine oN_ ?_
  refine hK5 _ ?_
  clear hK5
  refine aE_ ?_
  refine fQ_ [] ?_
  simp [go_sem, Try.f46, clashB, hs]
end Go.Proofs.Ytiifcalgolkpiaa.AE
