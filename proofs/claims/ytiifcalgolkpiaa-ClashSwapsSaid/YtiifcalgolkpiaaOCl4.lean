/-
 Chapter 43: few, clashes, last, alive. Conditions: none; every contract names its own.
-/
import Derived.Test.YtiifcalgolkpiaaOCl3
import Derived.Test.YtiifcalgolkpiaaOOp
set_option linter.constructorNameAsVariable false
namespace Go.Proofs.Ytiifcalgolkpiaa.AE
open Go Go.Proofs Go.RowKit
set_option linter.unusedVariables false
set_option linter.unusedSimpArgs false
set_option maxRecDepth 100000
set_option maxHeartbeats 4000000
theorem clashB_def (p : Bk × List Ord) (c d : Chg) : clashB p c d = (!(sameB (bkL p [c, d]).1 (bkL p [c, d]).2 (bkL p [d, c]).1 (bkL p [d, c]).2) || (!(decide (ocB p c = ocB (stB p d) c)) || !(decide (ocB (stB p c) d = ocB p d)))) := by
 have h : decide (ouL p [c, d] = (ouL p [d, c]).reverse) = (decide (ocB p c = ocB (stB p d) c) && decide (ocB (stB p c) d = ocB p d)) := by
  rw [Bool.eq_iff_iff]
  simp [ouL]
 rw [clashB, h, Bool.not_and]
theorem ou_0 (p : Bk × List Ord) (c d : Chg) : (ouL p [c, d])[0]? = some (ocB p c) := rfl
theorem ou_1 (p : Bk × List Ord) (c d : Chg) : (ouL p [c, d])[1]? = some (ocB (stB p c) d) := rfl
theorem oc_big {p : Bk × List Ord} (h : FairP p) (c : Chg) : (ocB p c).effs.length ≤ 9223372036854775807 := by
 have := (stB_fair h c).2.2
 omega
def a43 : Chg := { zChg with id := ⟨0, 1⟩, time := 2, kind := 2, n := 4 }
def b43 : Chg := { zChg with id := ⟨1, 1⟩, time := 1, kind := 2, n := 3 }
def c43 : Chg := { zChg with id := ⟨0, 1⟩, kind := 3, n := 4 }
def d43 : Chg := { zChg with id := ⟨1, 1⟩, kind := 3, n := 3 }
def s43 : Bk := { zBk with st := zBk.st.put 0 5 }
theorem fairS43 : FairB s43 := by unfold FairB; decide +kernel
theorem sink43 : sinkL (zBk, []) [a43, b43] = [b43, a43] := by decide +kernel
theorem cl43 : clashB (zBk, []) a43 b43 = false := by decide +kernel
theorem cm43 : clashB (s43, []) c43 d43 = true := by decide +kernel
theorem fr43 : freeZ (zBk, []) [a43, b43] 0 = true := by decide +kernel
theorem sinkS43 : sinkS [.agg (cBk zBk .nils), .sl 9 (rows cChg [a43, b43])] [] = some ⟨.own (2, 0) 2, [], [.row 29 9 (rows cChg [b43, a43]) false]⟩ := by
 have := sinkS_atG zBk [] .nils [a43, b43] _ .nil .sl ⟨fairZ.1, fairZ.2, by simp⟩
 rw [sink43] at this
 exact this
theorem clS43 : clashS [.agg (cBk zBk .nils), .agg (cChg a43), .agg (cChg b43)] [] = some ⟨.bool false, [], []⟩ := by
 have := clashS_atG zBk [] .nils a43 b43 .nil ⟨fairZ.1, fairZ.2, by simp⟩
 rw [cl43] at this
 exact this
theorem cmS43 : clashS [.agg (cBk s43 .nils), .agg (cChg c43), .agg (cChg d43)] [] = some ⟨.bool true, [], []⟩ := by
 have := clashS_atG s43 [] .nils c43 d43 .nil ⟨fairS43, fairZ.2, by simp⟩
 rw [cm43] at this
 exact this
theorem frS43 : freeCS [.agg (cBk zBk .nils), .sl 9 (rows cChg [a43, b43]), .int .i64 0] [] = some ⟨.bool true, [], []⟩ := by
 have := freeCS_atG zBk [] .nils [a43, b43] _ 0 .nil .sl ⟨fairZ.1, fairZ.2, by simp⟩
 rw [fr43] at this
 exact this
theorem an43 : cChg { id := { rep := zId.rep, seq := 1 }, time := 2, kind := 2, a := zChg.a, b := zChg.b, n := 4, ref := zChg.ref } = cChg a43 := rfl
theorem bn43 : cChg { id := { rep := 1, seq := 1 }, time := 1, kind := 2, a := zChg.a, b := zChg.b, n := 3, ref := zChg.ref } = cChg b43 := rfl
theorem cn43 : cChg { id := { rep := zId.rep, seq := 1 }, time := zChg.time, kind := 3, a := zChg.a, b := zChg.b, n := 4, ref := zChg.ref } = cChg c43 := rfl
theorem dn43 : cChg { id := { rep := 1, seq := 1 }, time := zChg.time, kind := 3, a := zChg.a, b := zChg.b, n := 3, ref := zChg.ref } = cChg d43 := rfl
theorem sn43 : cBk { st := zBk.st.put 0 5, pr := zBk.pr, pu := zBk.pu } .nils = cBk s43 .nils := rfl
theorem sn43' : cBk { st := (zV 8).put 0 5, pr := zBk.pr, pu := zBk.pu } .nils = cBk s43 .nils := rfl
structure few43X where
 b : Bk
 os : List Ord
 os' : AV
 L : List Chg
 L' : AV
 n : Nat
 h_os : SlA 7 cOrd os os'
 h_L : SlA 9 cChg L L'
noncomputable def few43S : HSpec := mkH (ι := few43X) (fun ⟨b, os, os', L, L', n, h_os, h_L⟩ => ([.agg (cBk b os'), L', .int .i64 (n : Int)], [])) fun ⟨b, os, os', L, L', n, h_os, h_L⟩ => ⟨.tup [.agg (cBk b (.sl 7 (rows cOrd (os.take 20)))), .sl 9 (rows cChg (L.take n))], [], []⟩
theorem few43S_atG (b : Bk) (os : List Ord) (os' : AV) (L : List Chg) (L' : AV) (n : Nat) (h_os : SlA 7 cOrd os os') (h_L : SlA 9 cChg L L') : few43S [.agg (cBk b os'), L', .int .i64 (n : Int)] [] = some (⟨.tup [.agg (cBk b (.sl 7 (rows cOrd (os.take 20)))), .sl 9 (rows cChg (L.take n))], [], []⟩) :=
 mA_ (ι := few43X) (fun i j h => by obtain ⟨b, os, os', L, L', n, h_os, h_L⟩ := i; obtain ⟨b2, os2, os'2, L2, L'2, n2, h_os2, h_L2⟩ := j; simp [and_assoc, qB_, qI_, qO_, qC_, qE_, qK_, qR_, qV_, qP_, qOc_, Int.ofNat_inj] at h; obtain ⟨rfl, rfl, rfl, rfl⟩ := h; obtain rfl := SlA.inj (fun x y h => cOrd_inj h) h_os h_os2; obtain rfl := SlA.inj (fun x y h => cChg_inj h) h_L h_L2; rfl) ⟨b, os, os', L, L', n, h_os, h_L⟩
theorem few43S_at (b : Bk) (os : List Ord) (L : List Chg) (n : Nat) : few43S [.agg (cBk b (.sl 7 (rows cOrd os))), (.sl 9 (rows cChg L)), .int .i64 (n : Int)] [] = some (⟨.tup [.agg (cBk b (.sl 7 (rows cOrd (os.take 20)))), .sl 9 (rows cChg (L.take n))], [], []⟩) := few43S_atG b os _ L _ n .sl .sl
theorem few43_ok : HSound Try.prog 36 few43S := by
 refine sE_ (fn := Try.f36) rfl rfl (by kernel_rfl) fun args bx hr hS => ?_
 obtain ⟨⟨b, os, os', L, L', n, h_os, h_L⟩, rfl, rfl, rfl⟩ := mO_ hS
 clear hS
 refine ⟨_, (eN_ _), by simp [Try.f36], by simp [go_sem], fun w Mx pin => ?_⟩
 simp only [hB_at, lab_nil, lab_cons, hOf_nil, hOf_cons]
 refine aW_ (s' := ⟨ofL [(0, .agg (cBk b (.sl 7 (rows cOrd os)))), (1, (.sl 9 (rows cChg L))), (2, .int .i64 (n : Int))], hOf []⟩) ?_ ?_
 · cases h_os <;> cases h_L <;> exact wO_ [] (by simp [go_sem]) (by simp [go_sem]) (by simp [go_sem])
 clear h_os h_L
 refine aQ_ ?_
 iterate 3
  refine oC_ fun J hJ => ?_
  simp [go_sem]
  refine hJ _ _ _ ?_
  clear hJ J
 refine oN_ ?_
 refine aS_ fun K2 hK2 => ?_
 refine aQ_ ?_
 iterate 4
  refine oC_ fun J hJ => ?_
  simp [go_sem]
  refine hJ _ _ _ ?_
  clear hJ J
 refine oN_ ?_
 refine aC_ (t := _) rfl (fun c4 => ?_) (fun c4 => ?_)
 ·
  simp [go_sem] at c4
  have e1 : (os.take 20) = os.take 20 := rfl
  refine aR_ ?_
  iterate 5
   refine oC_ fun J hJ => ?_
   simp [go_sem, show 20 ≤ os.length by omega]
   refine hJ _ _ _ ?_
   clear hJ J
  refine oN_ ?_
  refine hK2 _ ?_
  clear hK2
  refine aS_ fun K5 hK5 => ?_
  refine aQ_ ?_
  iterate 4
   refine oC_ fun J hJ => ?_
   simp [go_sem]
   refine hJ _ _ _ ?_
   clear hJ J
  refine oN_ ?_
  refine aC_ (t := _) rfl (fun c7 => ?_) (fun c7 => ?_)
  ·
   simp [go_sem] at c7
   refine aR_ ?_
   iterate 4
    refine oC_ fun J hJ => ?_
    simp [go_sem, show n ≤ L.length by omega]
    refine hJ _ _ _ ?_
    clear hJ J
   refine oN_ ?_
   refine hK5 _ ?_
   clear hK5
   refine aQ_ ?_
   iterate 4
    refine oC_ fun J hJ => ?_
    simp [go_sem]
    refine hJ _ _ _ ?_
    clear hJ J
   refine oN_ ?_
   refine aE_ ?_
   refine fQ_ [] ?_
   first | (simp [go_sem, Try.f36]; done) | (simp [go_sem, Try.f36, e1]; done) | (simp [go_sem, Try.f36, e2]; done) | (simp [go_sem, Try.f36, e1, e2]; done)
  ·
   simp [go_sem] at c7
   have e2 : L.take n = L := List.take_of_length_le (by omega)
   refine aK_ ?_
   refine hK5 _ ?_
   clear hK5
   refine aQ_ ?_
   iterate 4
    refine oC_ fun J hJ => ?_
    simp [go_sem]
    refine hJ _ _ _ ?_
    clear hJ J
   refine oN_ ?_
   refine aE_ ?_
   refine fQ_ [] ?_
   first | (simp [go_sem, Try.f36]; done) | (simp [go_sem, Try.f36, e1]; done) | (simp [go_sem, Try.f36, e2]; done) | (simp [go_sem, Try.f36, e1, e2]; done)
 ·
  simp [go_sem] at c4
  have e1 : os.take 20 = os := List.take_of_length_le (by omega)
  refine aK_ ?_
  refine hK2 _ ?_
  clear hK2
  refine aS_ fun K5 hK5 => ?_
  refine aQ_ ?_
  iterate 4
   refine oC_ fun J hJ => ?_
   simp [go_sem]
   refine hJ _ _ _ ?_
   clear hJ J
  refine oN_ ?_
  refine aC_ (t := _) rfl (fun c7 => ?_) (fun c7 => ?_)
  ·
   simp [go_sem] at c7
   refine aR_ ?_
   iterate 4
    refine oC_ fun J hJ => ?_
    simp [go_sem, show n ≤ L.length by omega]
    refine hJ _ _ _ ?_
    clear hJ J
   refine oN_ ?_
   refine hK5 _ ?_
   clear hK5
   refine aQ_ ?_
   iterate 4
    refine oC_ fun J hJ => ?_
    simp [go_sem]
    refine hJ _ _ _ ?_
    clear hJ J
   refine oN_ ?_
   refine aE_ ?_
   refine fQ_ [] ?_
   first | (simp [go_sem, Try.f36]; done) | (simp [go_sem, Try.f36, e1]; done) | (simp [go_sem, Try.f36, e2]; done) | (simp [go_sem, Try.f36, e1, e2]; done)
  ·
   simp [go_sem] at c7
   have e2 : L.take n = L := List.take_of_length_le (by omega)
   refine aK_ ?_
   refine hK5 _ ?_
   clear hK5
   refine aQ_ ?_
   iterate 4
    refine oC_ fun J hJ => ?_
    simp [go_sem]
    refine hJ _ _ _ ?_
    clear hJ J
   refine oN_ ?_
   refine aE_ ?_
   refine fQ_ [] ?_
   first | (simp [go_sem, Try.f36]; done) | (simp [go_sem, Try.f36, e1]; done) | (simp [go_sem, Try.f36, e2]; done) | (simp [go_sem, Try.f36, e1, e2]; done)
theorem few43_12 (b : Bk) (os : List Ord) (L : List Chg) : few43S [.agg (cBk b (.sl 7 (rows cOrd os))), .sl 9 (rows cChg L), .int .i64 12] [] = some ⟨.tup [.agg (cBk b (.sl 7 (rows cOrd (os.take 20)))), .sl 9 (rows cChg (L.take 12))], [], []⟩ := few43S_at b os L 12
theorem few43_20 (b : Bk) (os : List Ord) (L : List Chg) : few43S [.agg (cBk b (.sl 7 (rows cOrd os))), .sl 9 (rows cChg L), .int .i64 20] [] = some ⟨.tup [.agg (cBk b (.sl 7 (rows cOrd (os.take 20)))), .sl 9 (rows cChg (L.take 20))], [], []⟩ := few43S_at b os L 20
structure clashRX where
 b : Bk
 os : List Ord
 os' : AV
 c : Chg
 d : Chg
 h_os : SlA 7 cOrd os os'
 hL : FairB b ∧ FairO os ∧ os.length ≤ 29000
noncomputable def clashRS : HSpec := mkH (ι := clashRX) (fun ⟨b, os, os', c, d, h_os, hL⟩ => ([.agg (cBk b os'), .agg (cChg c), .agg (cChg d)], [])) fun ⟨b, os, os', c, d, h_os, hL⟩ => ⟨.bool (clashB (b, os) c d), [], []⟩
theorem clashRS_atG (b : Bk) (os : List Ord) (os' : AV) (c : Chg) (d : Chg) (h_os : SlA 7 cOrd os os') (hL : FairB b ∧ FairO os ∧ os.length ≤ 29000) : clashRS [.agg (cBk b os'), .agg (cChg c), .agg (cChg d)] [] = some (⟨.bool (clashB (b, os) c d), [], []⟩) :=
 mA_ (ι := clashRX) (fun i j h => by obtain ⟨b, os, os', c, d, h_os, hL⟩ := i; obtain ⟨b2, os2, os'2, c2, d2, h_os2, hL2⟩ := j; simp [and_assoc, qB_, qI_, qO_, qC_, qE_, qK_, qR_, qV_, qP_, qOc_] at h; obtain ⟨rfl, rfl, rfl, rfl⟩ := h; obtain rfl := SlA.inj (fun x y h => cOrd_inj h) h_os h_os2; rfl) ⟨b, os, os', c, d, h_os, hL⟩
theorem clashRS_at (b : Bk) (os : List Ord) (c : Chg) (d : Chg) (hL : FairB b ∧ FairO os ∧ os.length ≤ 29000) : clashRS [.agg (cBk b (.sl 7 (rows cOrd os))), .agg (cChg c), .agg (cChg d)] [] = some (⟨.bool (clashB (b, os) c d), [], []⟩) := clashRS_atG b os _ c d .sl hL
theorem clashR_ok : HSound Try.prog 40 clashRS := by
 refine sE_ (fn := Try.f40) rfl rfl (by kernel_rfl) fun args bx hr hS => ?_
 obtain ⟨⟨b, os, os', c, d, h_os, hL⟩, rfl, rfl, rfl⟩ := mO_ hS
 clear hS
 refine ⟨_, (eV_ (g := 29) (by kernel_rfl) runR_ok (eV_ (g := 22) (by kernel_rfl) plBook_ok (eV_ (g := 23) (by kernel_rfl) plOcB_ok (eN_ _)))), by simp [Try.f40], by simp [go_sem], fun w Mx pin => ?_⟩
 simp only [hB_at, lab_nil, lab_cons, hOf_nil, hOf_cons]
 refine aW_ (s' := ⟨ofL [(0, .agg (cBk b (.sl 7 (rows cOrd os)))), (1, .agg (cChg c)), (2, .agg (cChg d))], hOf []⟩) ?_ ?_
 · cases h_os <;> exact wO_ [] (by simp [go_sem]) (by simp [go_sem]) (by simp [go_sem])
 clear h_os
 have hp : FairP (b, os) := ⟨hL.1, hL.2.1⟩
 have hcd := clashB_def (b, os) c d
 refine aQ_ ?_
 iterate 4
  refine oC_ fun J hJ => ?_
  simp [go_sem]
  refine hJ _ _ _ ?_
  clear hJ J
 refine oN_ ?_
 refine aS_ fun K2 hK2 => ?_
 refine awp_regionW ?_
 refine opsW_cons fun J hJ => ?_
 simp [go_sem, ↓runR_two b os c d hL]
 refine hJ _ _ _ ?_
 clear hJ J
 refine opsW_cons fun J hJ => ?_
 simp [go_sem, ↓runR_two b os c d hL]
 refine hJ _ _ _ ?_
 clear hJ J
 refine opsW_cons fun J hJ => ?_
 simp [go_sem, ↓runR_two b os c d hL]
 refine hJ _ _ _ ?_
 clear hJ J
 refine opsW_cons fun J hJ => ?_
 simp [go_sem, ↓runR_two b os c d hL]
 refine hJ _ _ _ ?_
 clear hJ J
 refine opsW_frz (e := 29) (sz := 9) (L := [cChg c, cChg d]) (z := false) (0, 240) (by simp [go_sem]) ?_
 refine opsW_cons fun J hJ => ?_
 simp [go_sem, ↓runR_two b os c d hL]
 refine hJ _ _ _ ?_
 clear hJ J
 refine opsW_cons fun J hJ => ?_
 simp [go_sem, ↓runR_two b os c d hL]
 refine hJ _ _ _ ?_
 clear hJ J
 refine opsW_cons fun J hJ => ?_
 simp [go_sem, ↓runR_two b os c d hL]
 refine hJ _ _ _ ?_
 clear hJ J
 refine opsW_cons fun J hJ => ?_
 simp [go_sem, ↓runR_two b os c d hL]
 refine hJ _ _ _ ?_
 clear hJ J
 refine opsW_cons fun J hJ => ?_
 simp [go_sem, ↓runR_two b os c d hL]
 refine hJ _ _ _ ?_
 clear hJ J
 refine opsW_cons fun J hJ => ?_
 simp [go_sem, ↓runR_two b os c d hL]
 refine hJ _ _ _ ?_
 clear hJ J
 refine opsW_cons fun J hJ => ?_
 simp [go_sem, ↓runR_two b os c d hL]
 refine hJ _ _ _ ?_
 clear hJ J
 refine opsW_nil ?_
 refine hK2 _ ?_
 clear hK2
 refine aS_ fun K3 hK3 => ?_
 refine awp_regionW ?_
 refine opsW_cons fun J hJ => ?_
 simp [go_sem, ↓runR_two b os d c hL]
 refine hJ _ _ _ ?_
 clear hJ J
 refine opsW_cons fun J hJ => ?_
 simp [go_sem, ↓runR_two b os d c hL]
 refine hJ _ _ _ ?_
 clear hJ J
 refine opsW_cons fun J hJ => ?_
 simp [go_sem, ↓runR_two b os d c hL]
 refine hJ _ _ _ ?_
 clear hJ J
 refine opsW_cons fun J hJ => ?_
 simp [go_sem, ↓runR_two b os d c hL]
 refine hJ _ _ _ ?_
 clear hJ J
 refine opsW_frz (e := 29) (sz := 9) (L := [cChg d, cChg c]) (z := false) (0, 368) (by simp [go_sem]) ?_
 refine opsW_cons fun J hJ => ?_
 simp [go_sem, ↓runR_two b os d c hL]
 refine hJ _ _ _ ?_
 clear hJ J
 refine opsW_cons fun J hJ => ?_
 simp [go_sem, ↓runR_two b os d c hL]
 refine hJ _ _ _ ?_
 clear hJ J
 refine opsW_cons fun J hJ => ?_
 simp [go_sem, ↓runR_two b os d c hL]
 refine hJ _ _ _ ?_
 clear hJ J
 refine opsW_cons fun J hJ => ?_
 simp [go_sem, ↓runR_two b os d c hL]
 refine hJ _ _ _ ?_
 clear hJ J
 refine opsW_cons fun J hJ => ?_
 simp [go_sem, ↓runR_two b os d c hL]
 refine hJ _ _ _ ?_
 clear hJ J
 refine opsW_cons fun J hJ => ?_
 simp [go_sem, ↓runR_two b os d c hL]
 refine hJ _ _ _ ?_
 clear hJ J
 refine opsW_cons fun J hJ => ?_
 simp [go_sem, ↓runR_two b os d c hL]
 refine hJ _ _ _ ?_
 clear hJ J
 refine opsW_nil ?_
 refine hK3 _ ?_
 clear hK3
 refine aS_ fun K4 hK4 => ?_
 cases hs : sameB (bkL (b, os) [c, d]).1 (bkL (b, os) [c, d]).2 (bkL (b, os) [d, c]).1 (bkL (b, os) [d, c]).2 <;> cases h1 : decide (ocB (b, os) c = ocB (stB (b, os) d) c) <;> cases h2 : decide (ocB (stB (b, os) c) d = ocB (b, os) d)
 all_goals rw [hs, h1, h2] at hcd
 ·
  refine aD_ ?_
  iterate 25
   refine oC_ fun J hJ => ?_
   simp [go_sem, ↓ou_0, ↓ou_1, plBookS_at (bkL (b, os) [c, d]).1 (bkL (b, os) [c, d]).2 (bkL (b, os) [d, c]).1 (bkL (b, os) [d, c]).2 (os_two hL c d), hs, plOcBS_at (ocB (b, os) c) (ocB (stB (b, os) d) c) (oc_big hp c), h1, plOcBS_at (ocB (stB (b, os) c) d) (ocB (b, os) d) (oc_big (stB_fair hp c).1 d), h2]
   refine hJ _ _ _ ?_
   clear hJ J
  refine oN_ ?_
  refine ⟨rfl, ?_⟩
  refine hK4 _ ?_
  clear hK4
  refine aE_ ?_
  rw [hcd]
  refine fQ_ [] ?_
  simp [go_sem, Try.f40]
 ·
  refine aD_ ?_
  iterate 25
   refine oC_ fun J hJ => ?_
   simp [go_sem, ↓ou_0, ↓ou_1, plBookS_at (bkL (b, os) [c, d]).1 (bkL (b, os) [c, d]).2 (bkL (b, os) [d, c]).1 (bkL (b, os) [d, c]).2 (os_two hL c d), hs, plOcBS_at (ocB (b, os) c) (ocB (stB (b, os) d) c) (oc_big hp c), h1, plOcBS_at (ocB (stB (b, os) c) d) (ocB (b, os) d) (oc_big (stB_fair hp c).1 d), h2]
   refine hJ _ _ _ ?_
   clear hJ J
  refine oN_ ?_
  refine ⟨rfl, ?_⟩
  refine hK4 _ ?_
  clear hK4
  refine aE_ ?_
  rw [hcd]
  refine fQ_ [] ?_
  simp [go_sem, Try.f40]
 ·
  refine aD_ ?_
  iterate 25
   refine oC_ fun J hJ => ?_
   simp [go_sem, ↓ou_0, ↓ou_1, plBookS_at (bkL (b, os) [c, d]).1 (bkL (b, os) [c, d]).2 (bkL (b, os) [d, c]).1 (bkL (b, os) [d, c]).2 (os_two hL c d), hs, plOcBS_at (ocB (b, os) c) (ocB (stB (b, os) d) c) (oc_big hp c), h1, plOcBS_at (ocB (stB (b, os) c) d) (ocB (b, os) d) (oc_big (stB_fair hp c).1 d), h2]
   refine hJ _ _ _ ?_
   clear hJ J
  refine oN_ ?_
  refine ⟨rfl, ?_⟩
  refine hK4 _ ?_
  clear hK4
  refine aE_ ?_
  rw [hcd]
  refine fQ_ [] ?_
  simp [go_sem, Try.f40]
 ·
  refine aD_ ?_
  iterate 25
   refine oC_ fun J hJ => ?_
   simp [go_sem, ↓ou_0, ↓ou_1, plBookS_at (bkL (b, os) [c, d]).1 (bkL (b, os) [c, d]).2 (bkL (b, os) [d, c]).1 (bkL (b, os) [d, c]).2 (os_two hL c d), hs, plOcBS_at (ocB (b, os) c) (ocB (stB (b, os) d) c) (oc_big hp c), h1, plOcBS_at (ocB (stB (b, os) c) d) (ocB (b, os) d) (oc_big (stB_fair hp c).1 d), h2]
   refine hJ _ _ _ ?_
   clear hJ J
  refine oN_ ?_
  refine ⟨rfl, ?_⟩
  refine hK4 _ ?_
  clear hK4
  refine aE_ ?_
  rw [hcd]
  refine fQ_ [] ?_
  simp [go_sem, Try.f40]
 ·
  refine aD_ ?_
  iterate 25
   refine oC_ fun J hJ => ?_
   simp [go_sem, ↓ou_0, ↓ou_1, plBookS_at (bkL (b, os) [c, d]).1 (bkL (b, os) [c, d]).2 (bkL (b, os) [d, c]).1 (bkL (b, os) [d, c]).2 (os_two hL c d), hs, plOcBS_at (ocB (b, os) c) (ocB (stB (b, os) d) c) (oc_big hp c), h1, plOcBS_at (ocB (stB (b, os) c) d) (ocB (b, os) d) (oc_big (stB_fair hp c).1 d), h2]
   refine hJ _ _ _ ?_
   clear hJ J
  refine oN_ ?_
  refine ⟨rfl, ?_⟩
  refine hK4 _ ?_
  clear hK4
  refine aE_ ?_
  rw [hcd]
  refine fQ_ [] ?_
  simp [go_sem, Try.f40]
 ·
  refine aD_ ?_
  iterate 25
   refine oC_ fun J hJ => ?_
   simp [go_sem, ↓ou_0, ↓ou_1, plBookS_at (bkL (b, os) [c, d]).1 (bkL (b, os) [c, d]).2 (bkL (b, os) [d, c]).1 (bkL (b, os) [d, c]).2 (os_two hL c d), hs, plOcBS_at (ocB (b, os) c) (ocB (stB (b, os) d) c) (oc_big hp c), h1, plOcBS_at (ocB (stB (b, os) c) d) (ocB (b, os) d) (oc_big (stB_fair hp c).1 d), h2]
   refine hJ _ _ _ ?_
   clear hJ J
  refine oN_ ?_
  refine ⟨rfl, ?_⟩
  refine hK4 _ ?_
  clear hK4
  refine aE_ ?_
  rw [hcd]
  refine fQ_ [] ?_
  simp [go_sem, Try.f40]
 ·
  refine aD_ ?_
  iterate 25
   refine oC_ fun J hJ => ?_
   simp [go_sem, ↓ou_0, ↓ou_1, plBookS_at (bkL (b, os) [c, d]).1 (bkL (b, os) [c, d]).2 (bkL (b, os) [d, c]).1 (bkL (b, os) [d, c]).2 (os_two hL c d), hs, plOcBS_at (ocB (b, os) c) (ocB (stB (b, os) d) c) (oc_big hp c), h1, plOcBS_at (ocB (stB (b, os) c) d) (ocB (b, os) d) (oc_big (stB_fair hp c).1 d), h2]
   refine hJ _ _ _ ?_
   clear hJ J
  refine oN_ ?_
  refine ⟨rfl, ?_⟩
  refine hK4 _ ?_
  clear hK4
  refine aE_ ?_
  rw [hcd]
  refine fQ_ [] ?_
  simp [go_sem, Try.f40]
 ·
  refine aD_ ?_
  iterate 25
   refine oC_ fun J hJ => ?_
   simp [go_sem, ↓ou_0, ↓ou_1, plBookS_at (bkL (b, os) [c, d]).1 (bkL (b, os) [c, d]).2 (bkL (b, os) [d, c]).1 (bkL (b, os) [d, c]).2 (os_two hL c d), hs, plOcBS_at (ocB (b, os) c) (ocB (stB (b, os) d) c) (oc_big hp c), h1, plOcBS_at (ocB (stB (b, os) c) d) (ocB (b, os) d) (oc_big (stB_fair hp c).1 d), h2]
   refine hJ _ _ _ ?_
   clear hJ J
  refine oN_ ?_
  refine ⟨rfl, ?_⟩
  refine hK4 _ ?_
  clear hK4
  refine aE_ ?_
  rw [hcd]
  refine fQ_ [] ?_
  simp [go_sem, Try.f40]
structure last43X where
 l : List Chg
 l' : AV
 a : Id
 h_l : SlA 9 cChg l l'
 hL : l.length ≤ 100000
noncomputable def last43S : HSpec := mkH (ι := last43X) (fun ⟨l, l', a, h_l, hL⟩ => ([l', .agg (cId a)], [])) fun ⟨l, l', a, h_l, hL⟩ => ⟨.int .i64 (lastL43 l a), [], []⟩
theorem last43S_atG (l : List Chg) (l' : AV) (a : Id) (h_l : SlA 9 cChg l l') (hL : l.length ≤ 100000) : last43S [l', .agg (cId a)] [] = some (⟨.int .i64 (lastL43 l a), [], []⟩) :=
 mA_ (ι := last43X) (fun i j h => by obtain ⟨l, l', a, h_l, hL⟩ := i; obtain ⟨l2, l'2, a2, h_l2, hL2⟩ := j; simp [and_assoc, qB_, qI_, qO_, qC_, qE_, qK_, qR_, qV_, qP_, qOc_] at h; obtain ⟨rfl, rfl⟩ := h; obtain rfl := SlA.inj (fun x y h => cChg_inj h) h_l h_l2; rfl) ⟨l, l', a, h_l, hL⟩
theorem last43S_at (l : List Chg) (a : Id) (hL : l.length ≤ 100000) : last43S [(.sl 9 (rows cChg l)), .agg (cId a)] [] = some (⟨.int .i64 (lastL43 l a), [], []⟩) := last43S_atG l _ a .sl hL
def last43I (l : List Chg) (a : Id) (pre _post : List Chg) (t : Int) : St := ⟨ofL [(0, .sl 9 (rows cChg l)), (3, .ref (0, 48) 0), (5, .int .i64 t), (6, .int .i64 pre.length)], hOf [((0, 48), .obj (cId a))]⟩
theorem last43_ok : HSound Try.prog 43 last43S := by
 refine sE_ (fn := Try.f43) rfl rfl (by kernel_rfl) fun args bx hr hS => ?_
 obtain ⟨⟨l, l', a, h_l, hL⟩, rfl, rfl, rfl⟩ := mO_ hS
 clear hS
 refine ⟨_, (eN_ _), by simp [Try.f43], by simp [go_sem], fun w Mx pin => ?_⟩
 simp only [hB_at, lab_nil, lab_cons, hOf_nil, hOf_cons]
 refine aW_ (s' := ⟨ofL [(0, (.sl 9 (rows cChg l))), (1, .agg (cId a))], hOf []⟩) ?_ ?_
 · cases h_l <;> exact wO_ [] (by simp [go_sem]) (by simp [go_sem]) (by simp [go_sem])
 clear h_l
 refine aQ_ ?_
 iterate 2
  refine oC_ fun J hJ => ?_
  simp [go_sem]
  refine hJ _ _ _ ?_
  clear hJ J
 refine oN_ ?_
 refine aQ_ ?_
 iterate 1
  refine oC_ fun J hJ => ?_
  simp [go_sem]
  refine hJ _ _ _ ?_
  clear hJ J
 refine oN_ ?_
 refine aS_ fun K3 hK3 => ?_
 refine aQ_ ?_
 iterate 1
  refine oC_ fun J hJ => ?_
  simp [go_sem]
  refine hJ _ _ _ ?_
  clear hJ J
 refine oN_ ?_
 refine aB_ ?_
 refine aL_ (ι := { q : List Chg × List Chg × Int // q.1 ++ q.2.1 = l ∧ lastG43 a q.2.1 q.1.length q.2.2 = lastL43 l a }) (fun q => last43I l a q.1.1 q.1.2.1 q.1.2.2) (fun q => q.1.2.1.length) ⟨([], l, -1), rfl, rfl⟩ ?_ ?_
 · refine wO_ [((0, 48), some (0, 48))] (by simp [go_sem]) ?_ ?_ <;> simp [go_sem]
 intro ⟨⟨pre, post, t⟩, hl, hgo⟩
 simp only at hl hgo
 have hpl := lS_ hl hL
 simp only [last43I]
 refine aS_ fun K5 hK5 => ?_
 refine aQ_ ?_
 iterate 4
  refine oC_ fun J hJ => ?_
  simp [go_sem]
  refine hJ _ _ _ ?_
  clear hJ J
 refine oN_ ?_
 refine aC_ (t := _) rfl (fun c7 => ?_) (fun c7 => ?_)
 ·
  simp [go_sem] at c7
  obtain ⟨x, post, rfl, hx⟩ := mL_ hl c7
  refine aK_ ?_
  refine hK5 _ ?_
  clear hK5
  refine aS_ fun K8 hK8 => ?_
  refine aB_ ?_
  refine aU_ ?_
  iterate 7
   refine oC_ fun J hJ => ?_
   simp [go_sem, hx]
   refine hJ _ _ _ ?_
   clear hJ J
  refine oN_ ?_
  refine ⟨rfl, ?_⟩
  refine aC_ (t := _) rfl (fun c10 => ?_) (fun c10 => ?_)
  ·
   simp [go_sem] at c10
   refine aR_ ?_
   iterate 2
    refine oC_ fun J hJ => ?_
    simp [go_sem]
    refine hJ _ _ _ ?_
    clear hJ J
   refine oN_ ?_
   refine hK8 _ ?_
   clear hK8
   refine aR_ ?_
   iterate 3
    refine oC_ fun J hJ => ?_
    simp [go_sem]
    refine hJ _ _ _ ?_
    clear hJ J
   refine oN_ ?_
   refine ⟨⟨(pre ++ [x], post, (if x.id = a then (pre.length : Int) else t)), by simp [← hl], by rw [← hgo]; simp [lastG43]⟩, ?_, by simp⟩
   refine wO_ [((0, 48), some (0, 48))] (by simp [go_sem]) ?_ ?_ <;> simp [go_sem, wN_ hpl, c10]
  ·
   simp [go_sem] at c10
   refine aK_ ?_
   refine hK8 _ ?_
   clear hK8
   refine aR_ ?_
   iterate 3
    refine oC_ fun J hJ => ?_
    simp [go_sem]
    refine hJ _ _ _ ?_
    clear hJ J
   refine oN_ ?_
   refine ⟨⟨(pre ++ [x], post, (if x.id = a then (pre.length : Int) else t)), by simp [← hl], by rw [← hgo]; simp [lastG43]⟩, ?_, by simp⟩
   refine wO_ [((0, 48), some (0, 48))] (by simp [go_sem]) ?_ ?_ <;> simp [go_sem, wN_ hpl, c10]
 ·
  simp [go_sem] at c7
  obtain ⟨rfl, rfl⟩ := mN_ hl c7
  refine aX_ ?_
  simp only [go_sem]
  refine hK3 _ ?_
  clear hK3
  refine aQ_ ?_
  iterate 2
   refine oC_ fun J hJ => ?_
   simp [go_sem]
   refine hJ _ _ _ ?_
   clear hJ J
  refine oN_ ?_
  refine aE_ ?_
  refine fQ_ [] ?_
  simp [go_sem, Try.f43, ← hgo, lastG43]
structure alive43X where
 u : Unit
noncomputable def alive43S : HSpec := mkH (ι := alive43X) (fun ⟨_⟩ => ([], [])) fun ⟨_⟩ => ⟨.bool true, [], []⟩
theorem alive43S_atG : alive43S [] [] = some (⟨.bool true, [], []⟩) :=
 mA_ (ι := alive43X) (fun i j h => by obtain ⟨_⟩ := i; obtain ⟨_⟩ := j; rfl) ⟨()⟩
theorem alive43S_at : alive43S [] [] = some (⟨.bool true, [], []⟩) := alive43S_atG
theorem alive43_ok : HSound Try.prog 35 alive43S := by
 refine sE_ (fn := Try.f35) rfl rfl (by kernel_rfl) fun args bx hr hS => ?_
 obtain ⟨⟨_⟩, rfl, rfl, rfl⟩ := mO_ hS
 clear hS
 refine ⟨_, (eV_ (g := 41) (by kernel_rfl) sink_ok (eV_ (g := 46) (by kernel_rfl) clash_ok (eV_ (g := 38) (by kernel_rfl) freeC_ok (eN_ _)))), by simp [Try.f35], by simp [go_sem], fun w Mx pin => ?_⟩
 simp only [hB_at, lab_nil, lab_cons, hOf_nil, hOf_cons]
 refine aQ_ ?_
 iterate 1
  refine oC_ fun J hJ => ?_
  simp [go_sem]
  refine hJ _ _ _ ?_
  clear hJ J
 refine oN_ ?_
 refine aQ_ ?_
 iterate 8
  refine oC_ fun J hJ => ?_
  simp [go_sem, an43, bn43]
  refine hJ _ _ _ ?_
  clear hJ J
 refine oN_ ?_
 refine aQ_ ?_
 iterate 8
  refine oC_ fun J hJ => ?_
  simp [go_sem, cn43, dn43]
  refine hJ _ _ _ ?_
  clear hJ J
 refine oN_ ?_
 refine aQ_ ?_
 iterate 6
  refine oC_ fun J hJ => ?_
  simp [go_sem, an43, bn43, sinkS43]
  refine hJ _ _ _ ?_
  clear hJ J
 refine oN_ ?_
 refine aU_ ?_
 iterate 32
  refine oC_ fun J hJ => ?_
  simp [go_sem, an43, bn43, cn43, dn43, sn43, sn43', clS43, cmS43, frS43]
  refine hJ _ _ _ ?_
  clear hJ J
 refine oN_ ?_
 refine ⟨rfl, ?_⟩
 refine aE_ ?_
 refine fQ_ [] ?_
 simp [go_sem, Try.f35]
end Go.Proofs.Ytiifcalgolkpiaa.AE
