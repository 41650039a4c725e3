/-
 Chapter 17: alive. Conditions: none; every contract names its own.
-/
import Derived.Test.YtiifcalgolkpiaaOFx
set_option linter.constructorNameAsVariable false
namespace Go.Proofs.Ytiifcalgolkpiaa.AE
open Go Go.Proofs Go.RowKit
set_option linter.unusedVariables false
set_option linter.unusedSimpArgs false
set_option maxRecDepth 100000
set_option maxHeartbeats 4000000
theorem runF_atP (p : Bk × List Ord) (L : List Chg) (h : FairP p ∧ p.2.length + L.length ≤ 30000) : runFS [.agg (cBk p.1 (.sl 7 (rows cOrd p.2))), .sl 9 (rows cChg L)] [] = some ⟨.tup [.agg (cBk (bkL p L).1 (.sl 7 (rows cOrd (bkL p L).2))), .own (2, 0) L.length], [], [.row 36 2 (rows cOc (ouL p L)) false]⟩ := runFS_at p.1 p.2 L ⟨h.1.1, h.1.2, h.2⟩
theorem runR_atP (p : Bk × List Ord) (L : List Chg) (h : FairP p ∧ p.2.length + L.length ≤ 30000) : runRS [.agg (cBk p.1 (.sl 7 (rows cOrd p.2))), .sl 9 (rows cChg L)] [] = some ⟨.tup [.agg (cBk (bkL p L).1 (.sl 7 (rows cOrd (bkL p L).2))), .own (2, 0) L.length], [], [.row 36 2 (rows cOc (ouL p L)) false]⟩ := runRS_at p.1 p.2 L ⟨h.1.1, h.1.2, h.2⟩
theorem lastF_atP (p : Bk × List Ord) (L : List Chg) (h : FairP p ∧ p.2.length + L.length ≤ 30000) : lastFS [.agg (cBk p.1 (.sl 7 (rows cOrd p.2))), .sl 9 (rows cChg L)] [] = some ⟨.agg (cBk (bkL p L).1 (.sl 7 (rows cOrd (bkL p L).2))), [], []⟩ := lastFS_at p.1 p.2 L ⟨h.1.1, h.1.2, h.2⟩
def c17 : Chg := { zChg with kind := 2, a := 1, n := 4 }
def d17 : Bk := { zBk with pu := zBk.pu.put 1 4 }
def e17 : Eff := ⟨8, 1, 4, zId⟩
def o17 : Outc := ⟨0, [e17]⟩
theorem c17e : cChg { id := zChg.id, time := zChg.time, kind := 2, a := 1, b := zChg.b, n := 4, ref := zChg.ref } = cChg c17 := rfl
theorem bk17 : bkL (zBk, []) [c17] = (d17, []) := rfl
theorem ou17 : ouL (zBk, []) [c17] = [o17] := rfl
theorem wa17 : wantsL [c17] 1 = [[e17]] := rfl
theorem rz17 : runFS [.agg (cBk zBk .nils), (.sl 9 (rows cChg [c17]))] [] = some ⟨.tup [.agg (cBk d17 (.sl 7 [])), .own (2, 0) 1], [], [.row 36 2 (rows cOc [o17]) false]⟩ := by
 have := runZ_at [c17] (by simp)
 rw [bk17, ou17] at this
 exact this
theorem wz17 : wantsFS [(.sl 9 (rows cChg [c17])), .int .i64 1] [] = some ⟨.own (2, 0) 1, [], [.row 34 1 (rows cWs [[e17]]) false]⟩ := by
 have := wantsFS_at [c17] 1 (by simp)
 rw [wa17] at this
 exact this
theorem sz17 : sameFS [.sl 2 (rows cOc [o17]), .sl 2 (rows cOc [o17])] [] = some ⟨.bool true, [], []⟩ := by
 have := sameFS_at [o17] [o17] ⟨by simp, fun x hx => by rw [List.mem_singleton.1 hx]; decide⟩
 simpa using this
theorem pu17 : d17.pu.at 1 = 4 := rfl
theorem oc17 : o17.code = 0 := rfl
structure alive17X where
 u : Unit
noncomputable def alive17S : HSpec := mkH (ι := alive17X) (fun ⟨_⟩ => ([], [])) fun ⟨_⟩ => ⟨.bool true, [], []⟩
theorem alive17S_atG : alive17S [] [] = some (⟨.bool true, [], []⟩) :=
 mA_ (ι := alive17X) (fun i j h => by obtain ⟨_⟩ := i; obtain ⟨_⟩ := j; rfl) ⟨()⟩
theorem alive17S_at : alive17S [] [] = some (⟨.bool true, [], []⟩) := alive17S_atG
theorem alive17_ok : HSound Try.prog 25 alive17S := by
 refine sE_ (fn := Try.f25) rfl rfl (by kernel_rfl) fun args bx hr hS => ?_
 obtain ⟨⟨_⟩, rfl, rfl, rfl⟩ := mO_ hS
 clear hS
 refine ⟨_, (eV_ (g := 27) (by kernel_rfl) runF_ok (eV_ (g := 32) (by kernel_rfl) wantsF_ok (eV_ (g := 33) (by kernel_rfl) sameF_ok (eN_ _)))), by simp [Try.f25], by simp [go_sem], fun w Mx pin => ?_⟩
 simp only [hB_at, lab_nil, lab_cons, hOf_nil, hOf_cons]
 refine aQ_ ?_
 iterate 1
  refine oC_ fun J hJ => ?_
  simp [go_sem]
  refine hJ _ _ _ ?_
  clear hJ J
 refine oN_ ?_
 refine aQ_ ?_
 iterate 10
  refine oC_ fun J hJ => ?_
  simp [go_sem, c17e, rz17]
  refine hJ _ _ _ ?_
  clear hJ J
 refine oN_ ?_
 refine aQ_ ?_
 iterate 4
  refine oC_ fun J hJ => ?_
  simp [go_sem, c17e, wz17]
  refine hJ _ _ _ ?_
  clear hJ J
 refine oN_ ?_
 refine aQ_ ?_
 iterate 34
  refine oC_ fun J hJ => ?_
  simp [go_sem, pu17, oc17, sz17]
  refine hJ _ _ _ ?_
  clear hJ J
 refine oN_ ?_
 refine aE_ ?_
 refine fQ_ [] ?_
 simp [go_sem, Try.f25]
end Go.Proofs.Ytiifcalgolkpiaa.AE
