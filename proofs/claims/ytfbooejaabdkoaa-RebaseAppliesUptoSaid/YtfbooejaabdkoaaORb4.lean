/-
 Chapter 42: alive. Conditions: none; every contract names its own.
-/
import Derived.Test.YtfbooejaabdkoaaORb3
set_option linter.constructorNameAsVariable false
namespace Go.Proofs.Ytfbooejaabdkoaa.AE
open Go Go.Proofs Go.RowKit
set_option linter.unusedVariables false
set_option linter.unusedSimpArgs false
set_option maxRecDepth 100000
set_option maxHeartbeats 4000000
@[go_sem] theorem cChg_take_app (c : Chg) (X : List AV) : (cChg c ++ X).take 9 = cChg c := rfl
@[go_sem] theorem cChg_drop_app (c : Chg) (X : List AV) : (cChg c ++ X).drop 9 = X := rfl
def c42 : Chg := { zChg with id := ⟨0, 1⟩, kind := 3, n := 4 }
def d42 : Chg := { zChg with id := ⟨1, 1⟩, kind := 3, n := 3 }
def s42 : Bk := { zBk with st := zBk.st.put 0 5 }
def e42 : Eff := ⟨1, 0, 4, ⟨0, 1⟩⟩
def sh42 : Shf := ⟨⟨1, 1⟩, ⟨11, []⟩, ⟨0, [⟨1, 0, 3, ⟨1, 1⟩⟩, ⟨7, 0, 1, ⟨1, 1⟩⟩]⟩⟩
def si42 : Shf := ⟨⟨0, 1⟩, ⟨0, [e42, ⟨7, 0, 1, ⟨0, 1⟩⟩]⟩, ⟨11, []⟩⟩
theorem fair42 : FairB s42 := by unfold FairB; decide +kernel
theorem of42 : shiftsL [c42, d42] (ouL (s42, []) [c42, d42]) (s42, []) [d42, c42] = [sh42, si42] := by decide +kernel
theorem sw42 : swapsL [c42, d42] [d42, c42] = 1 := by decide +kernel
theorem lo42 : lostL [c42] [] = [⟨0, 1⟩] := by decide +kernel
theorem re42 : redoL sh42 = [⟨1, 0, 3, ⟨1, 1⟩⟩] := by decide +kernel
theorem un42 : undoL si42 = [e42] := by decide +kernel
theorem ap42 : applyL [e42] si42 = ([], true) := by decide +kernel
theorem ofS42 : ofRS [.agg (cBk s42 .nils), .sl 9 (rows cChg [c42, d42]), .sl 9 (rows cChg [d42, c42])] [] = some ⟨.own (2, 0) 2, [], [.row 46 6 (rows cShf [sh42, si42]) false]⟩ := by
 have := ofRS_atG s42 [] .nils [c42, d42] _ [d42, c42] _ .nil .sl .sl ⟨fair42, fairZ.2, by simp⟩
 rw [of42] at this
 exact this
theorem swS42 : swapsS [.sl 9 (rows cChg [c42, d42]), .sl 9 (rows cChg [d42, c42])] [] = some ⟨.int .i64 1, [], []⟩ := by
 have := swapsS_at [c42, d42] [d42, c42] ⟨by simp, by simp⟩
 rw [sw42] at this
 exact this
theorem loS42 : lostS [.sl 9 (rows cChg [c42]), .nils] [] = some ⟨.own (2, 0) 1, [], [.row 37 2 (rows cId [⟨0, 1⟩]) false]⟩ := by
 have := lostS_atG [c42] _ [] .nils .sl .nil ⟨by simp, by simp⟩
 rw [lo42] at this
 exact this
theorem reS42 : redoS [.agg (cShf sh42)] [] = some ⟨.sl 5 (rows cEff [⟨1, 0, 3, ⟨1, 1⟩⟩]), [], []⟩ := by
 have := redoS_at sh42 ⟨by simp [sh42], by simp [sh42]⟩
 rw [re42] at this
 exact this
theorem unS42 : undoS [.agg (cShf si42)] [] = some ⟨.sl 5 (rows cEff [e42]), [], []⟩ := by
 have := undoS_at si42 ⟨by simp [si42], by simp [si42]⟩
 rw [un42] at this
 exact this
theorem apS42 : applyS [.sl 5 (rows cEff [e42]), .agg (cShf si42)] [] = some ⟨.tup [.own (2, 0) 0, .bool true], [], [.row 50 5 (rows cEff []) false]⟩ := by
 have := applyS_at [e42] si42 ⟨by simp, by simp [si42], by simp [si42]⟩
 rw [ap42] at this
 exact this
theorem cn42 : cChg { id := { rep := zId.rep, seq := 1 }, time := zChg.time, kind := 3, a := zChg.a, b := zChg.b, n := 4, ref := zChg.ref } = cChg c42 := rfl
theorem dn42 : cChg { id := { rep := 1, seq := 1 }, time := zChg.time, kind := 3, a := zChg.a, b := zChg.b, n := 3, ref := zChg.ref } = cChg d42 := rfl
theorem sn42 : cBk { st := zBk.st.put 0 5, pr := zBk.pr, pu := zBk.pu } .nils = cBk s42 .nils := rfl
theorem sn42' : cBk { st := (zV 8).put 0 5, pr := zBk.pr, pu := zBk.pu } .nils = cBk s42 .nils := rfl
theorem en42 : cEff { kind := 1, a := zEff.a, n := 4, ref := c42.id } = cEff e42 := rfl
theorem ci42 : d42.id = sh42.id := rfl
structure alive42X where
 u : Unit
noncomputable def alive42S : HSpec := mkH (ι := alive42X) (fun ⟨_⟩ => ([], [])) fun ⟨_⟩ => ⟨.bool true, [], []⟩
theorem alive42S_atG : alive42S [] [] = some (⟨.bool true, [], []⟩) :=
 mA_ (ι := alive42X) (fun i j h => by obtain ⟨_⟩ := i; obtain ⟨_⟩ := j; rfl) ⟨()⟩
theorem alive42S_at : alive42S [] [] = some (⟨.bool true, [], []⟩) := alive42S_atG
theorem alive42_ok : HSound Try.prog 9 alive42S := by
 refine sE_ (fn := Try.f9) rfl rfl (by kernel_rfl) fun args bx hr hS => ?_
 obtain ⟨⟨_⟩, rfl, rfl, rfl⟩ := mO_ hS
 clear hS
 refine ⟨_, (eV_ (g := 12) (by kernel_rfl) ofR_ok (eV_ (g := 21) (by kernel_rfl) swaps_ok (eV_ (g := 23) (by kernel_rfl) lost_ok (eV_ (g := 20) (by kernel_rfl) apply_ok (eV_ (g := 18) (by kernel_rfl) redo_ok (eV_ (g := 17) (by kernel_rfl) undo_ok (eN_ _))))))), by simp [Try.f9], by simp [go_sem], fun w Mx pin => ?_⟩
 simp only [hB_at, lab_nil, lab_cons, hOf_nil, hOf_cons]
 refine aQ_ ?_
 iterate 1
  refine oC_ fun J hJ => ?_
  simp [go_sem]
  refine hJ _ _ _ ?_
 refine oN_ ?_
 refine aQ_ ?_
 iterate 4
  refine oC_ fun J hJ => ?_
  simp [go_sem, cn42, dn42, sn42, sn42']
  refine hJ _ _ _ ?_
 refine oN_ ?_
 refine aQ_ ?_
 iterate 8
  refine oC_ fun J hJ => ?_
  simp [go_sem, cn42, dn42, sn42, sn42']
  refine hJ _ _ _ ?_
 refine oN_ ?_
 refine aS_ fun K4 hK4 => ?_
 refine awp_regionW ?_
 refine opsW_cons fun J hJ => ?_
 simp [go_sem, cn42, dn42, sn42, sn42', ofS42]
 refine hJ _ _ _ ?_
 refine opsW_cons fun J hJ => ?_
 simp [go_sem, cn42, dn42, sn42, sn42', ofS42]
 refine hJ _ _ _ ?_
 refine opsW_cons fun J hJ => ?_
 simp [go_sem, cn42, dn42, sn42, sn42', ofS42]
 refine hJ _ _ _ ?_
 refine opsW_cons fun J hJ => ?_
 simp [go_sem, cn42, dn42, sn42, sn42', ofS42]
 refine hJ _ _ _ ?_
 refine opsW_cons fun J hJ => ?_
 simp [go_sem, cn42, dn42, sn42, sn42', ofS42]
 refine hJ _ _ _ ?_
 refine opsW_cons fun J hJ => ?_
 simp [go_sem, cn42, dn42, sn42, sn42', ofS42]
 refine hJ _ _ _ ?_
 refine opsW_cons fun J hJ => ?_
 simp [go_sem, cn42, dn42, sn42, sn42', ofS42]
 refine hJ _ _ _ ?_
 refine opsW_frz (e := 39) (sz := 9) (L := [cChg c42, cChg d42]) (z := false) (0, 256) (by simp [go_sem]) ?_
 refine opsW_frz (e := 39) (sz := 9) (L := [cChg d42, cChg c42]) (z := false) (0, 304) (by simp [go_sem]) ?_
 refine opsW_cons fun J hJ => ?_
 simp [go_sem, cn42, dn42, sn42, sn42', ofS42]
 refine hJ _ _ _ ?_
 refine opsW_cons fun J hJ => ?_
 simp [go_sem, cn42, dn42, sn42, sn42', ofS42]
 refine hJ _ _ _ ?_
 refine opsW_nil ?_
 refine hK4 _ ?_
 refine aS_ fun K5 hK5 => ?_
 refine aS_ fun K6 hK6 => ?_
 refine awp_regionW ?_
 refine opsW_cons fun J hJ => ?_
 simp [go_sem, cn42, dn42, sn42, sn42', swS42, loS42]
 refine hJ _ _ _ ?_
 refine opsW_cons fun J hJ => ?_
 simp [go_sem, cn42, dn42, sn42, sn42', swS42, loS42]
 refine hJ _ _ _ ?_
 refine opsW_cons fun J hJ => ?_
 simp [go_sem, cn42, dn42, sn42, sn42', swS42, loS42]
 refine hJ _ _ _ ?_
 refine opsW_cons fun J hJ => ?_
 simp [go_sem, cn42, dn42, sn42, sn42', swS42, loS42]
 refine hJ _ _ _ ?_
 refine opsW_cons fun J hJ => ?_
 simp [go_sem, cn42, dn42, sn42, sn42', swS42, loS42]
 refine hJ _ _ _ ?_
 refine opsW_cons fun J hJ => ?_
 simp [go_sem, cn42, dn42, sn42, sn42', swS42, loS42]
 refine hJ _ _ _ ?_
 refine opsW_cons fun J hJ => ?_
 simp [go_sem, cn42, dn42, sn42, sn42', swS42, loS42]
 refine hJ _ _ _ ?_
 refine opsW_cons fun J hJ => ?_
 simp [go_sem, cn42, dn42, sn42, sn42', swS42, loS42]
 refine hJ _ _ _ ?_
 refine opsW_cons fun J hJ => ?_
 simp [go_sem, cn42, dn42, sn42, sn42', swS42, loS42]
 refine hJ _ _ _ ?_
 refine opsW_cons fun J hJ => ?_
 simp [go_sem, cn42, dn42, sn42, sn42', swS42, loS42]
 refine hJ _ _ _ ?_
 refine opsW_cons fun J hJ => ?_
 simp [go_sem, cn42, dn42, sn42, sn42', swS42, loS42]
 refine hJ _ _ _ ?_
 refine opsW_cons fun J hJ => ?_
 simp [go_sem, cn42, dn42, sn42, sn42', swS42, loS42]
 refine hJ _ _ _ ?_
 refine opsW_cons fun J hJ => ?_
 simp [go_sem, cn42, dn42, sn42, sn42', swS42, loS42]
 refine hJ _ _ _ ?_
 refine opsW_cons fun J hJ => ?_
 simp [go_sem, cn42, dn42, sn42, sn42', swS42, loS42]
 refine hJ _ _ _ ?_
 refine opsW_cons fun J hJ => ?_
 simp [go_sem, cn42, dn42, sn42, sn42', swS42, loS42]
 refine hJ _ _ _ ?_
 refine opsW_cons fun J hJ => ?_
 simp [go_sem, cn42, dn42, sn42, sn42', swS42, loS42]
 refine hJ _ _ _ ?_
 refine opsW_frz (e := 39) (sz := 9) (L := rows cChg [c42]) (z := false) (0, 576) (by simp [go_sem]) ?_
 refine opsW_cons fun J hJ => ?_
 simp [go_sem, cn42, dn42, sn42, sn42', swS42, loS42]
 refine hJ _ _ _ ?_
 refine opsW_cons fun J hJ => ?_
 simp [go_sem, cn42, dn42, sn42, sn42', swS42, loS42]
 refine hJ _ _ _ ?_
 refine opsW_cons fun J hJ => ?_
 simp [go_sem, cn42, dn42, sn42, sn42', swS42, loS42]
 refine hJ _ _ _ ?_
 refine opsW_cons fun J hJ => ?_
 simp [go_sem, cn42, dn42, sn42, sn42', swS42, loS42]
 refine hJ _ _ _ ?_
 refine opsW_nil ?_
 refine hK6 _ ?_
 refine aF_ rfl ?_
 refine aK_ ?_
 refine hK5 _ ?_
 refine aU_ ?_
 iterate 13
  refine oC_ fun J hJ => ?_
  simp [go_sem, cn42, dn42, sn42, sn42', en42, apS42]
  refine hJ _ _ _ ?_
 refine oN_ ?_
 refine ⟨rfl, ?_⟩
 refine aU_ ?_
 iterate 32
  refine oC_ fun J hJ => ?_
  simp [go_sem, cn42, dn42, sn42, sn42', ci42, reS42, unS42]
  refine hJ _ _ _ ?_
 refine oN_ ?_
 refine ⟨rfl, ?_⟩
 refine aE_ ?_
 refine fQ_ [] ?_
 simp [go_sem, Try.f9]
end Go.Proofs.Ytfbooejaabdkoaa.AE
