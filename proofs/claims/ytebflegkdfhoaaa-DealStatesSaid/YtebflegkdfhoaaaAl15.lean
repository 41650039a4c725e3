/-
  Law 15: alive. Conditions: none; every contract names its own.
-/
import Derived.Test.YtebflegkdfhoaaaDl4
import Derived.Test.YtebflegkdfhoaaaFin
namespace Go.Proofs.Ytebflegkdfhoaaa.AE
open Go Go.Proofs Go.RowKit
set_option linter.unusedVariables false
set_option linter.unusedSimpArgs false
set_option maxRecDepth 100000
set_option maxHeartbeats 4000000
def o15 : Ord := ⟨⟨0, 3⟩, 0, 1, 2, 0, 2⟩
theorem n15a : newR zBk [] o15 = ⟨.tup [.agg (cBk zBk (.own (2, 0) 1)), .int .i64 0], [], [.row 53 7 (rows cOrd [o15]) false]⟩ := rfl
theorem n15b : newR zBk [o15] o15 = ⟨.tup [.agg (cBk zBk (.sl 7 [])), .int .i64 9], [], []⟩ := rfl
theorem f15 : findR [o15] o15.id = .tup [.agg (cOrd o15), .bool true] := rfl
theorem i15 : inC [o15] o15.id [1, 3] = 9 := rfl
theorem i15' : inO [o15] o15.id [1, 3] = zOrd := rfl
theorem h15 : heldG 1 [o15] 0 = 2 := by decide
theorem c15 : countG 2 [o15] 0 = 1 := by decide
theorem s15 : sameB zBk [o15] zBk [] = false := by decide
theorem b15 : cOrd { id := ⟨zId.rep, 3⟩, buyer := zOrd.buyer, item := 1, qty := 2, cost := zOrd.cost, state := 2 } = cOrd o15 := rfl

structure alive15X where
  u : Unit
/-- alive -/
noncomputable def alive15S : HSpec := mkH (ι := alive15X) (fun ⟨_⟩ => ([], [])) fun ⟨_⟩ => ⟨.bool true, [], []⟩
theorem alive15S_atG : alive15S [] [] = some (⟨.bool true, [], []⟩) :=
  mkH_at (ι := alive15X) (A := fun ⟨_⟩ => ([], [])) (R := fun ⟨_⟩ => ⟨.bool true, [], []⟩) (fun i j h => by obtain ⟨_⟩ := i; obtain ⟨_⟩ := j; rfl) ⟨()⟩
theorem alive15S_at : alive15S [] [] = some (⟨.bool true, [], []⟩) := alive15S_atG 

theorem alive15_ok : HSound Try.prog 25 alive15S := by
  refine sound_ofE (fn := Try.f25) rfl rfl (by kernel_rfl) fun args bx hr hS => ?_
  obtain ⟨⟨_⟩, rfl, rfl, rfl⟩ := mkH_of hS
  clear hS
  refine ⟨_, (EnvOK.consV (g := 32) (by kernel_rfl) new_ok (EnvOK.consV (g := 30) (by kernel_rfl) find_ok (EnvOK.consV (g := 33) (by kernel_rfl) in_ok (EnvOK.consV (g := 34) (by kernel_rfl) held_ok (EnvOK.consV (g := 35) (by kernel_rfl) count_ok (EnvOK.consV (g := 36) (by kernel_rfl) same_ok (EnvOK.nil _))))))), by simp [Try.f25], by simp [go_sem], fun w Mx pin => ?_⟩
  simp only [hB_at, lab_nil, lab_cons, hOf_nil, hOf_cons]
  refine awp_seq fun K1 hK1 => ?_
  refine awp_region ?_
  iterate 1
    refine opsK_cons fun J hJ => ?_
    simp [go_sem]
    refine hJ _ _ _ ?_
    clear hJ J
  refine opsK_nil ?_
  refine hK1 _ ?_
  clear hK1
  refine awp_seq fun K2 hK2 => ?_
  refine awp_region ?_
  iterate 4
    refine opsK_cons fun J hJ => ?_
    simp [go_sem, b15]
    refine hJ _ _ _ ?_
    clear hJ J
  refine opsK_nil ?_
  refine hK2 _ ?_
  clear hK2
  refine awp_seq fun K3 hK3 => ?_
  refine awp_region ?_
  iterate 9
    refine opsK_cons fun J hJ => ?_
    simp [go_sem, newS_atN, n15a]
    refine hJ _ _ _ ?_
    clear hJ J
  refine opsK_nil ?_
  refine hK3 _ ?_
  clear hK3
  refine awp_seq fun K4 hK4 => ?_
  refine awp_region ?_
  iterate 10
    refine opsK_cons fun J hJ => ?_
    simp [go_sem, findS_at zBk [o15] o15.id (by simp), f15]
    refine hJ _ _ _ ?_
    clear hJ J
  refine opsK_nil ?_
  refine hK4 _ ?_
  clear hK4
  refine awp_seq fun K5 hK5 => ?_
  refine awp_region ?_
  iterate 11
    refine opsK_cons fun J hJ => ?_
    simp [go_sem, inS_at zBk [o15] o15.id [1, 3] (by simp), i15, i15']
    refine hJ _ _ _ ?_
    clear hJ J
  refine opsK_nil ?_
  refine hK5 _ ?_
  clear hK5
  refine awp_seq fun K6 hK6 => ?_
  refine awp_region ?_
  iterate 9
    refine opsK_cons fun J hJ => ?_
    simp [go_sem, newS_at zBk [o15] o15 (by simp), n15b]
    refine hJ _ _ _ ?_
    clear hJ J
  refine opsK_nil ?_
  refine hK6 _ ?_
  clear hK6
  refine awp_seq fun K7 hK7 => ?_
  refine awp_region ?_
  iterate 35
    refine opsK_cons fun J hJ => ?_
    simp [go_sem, heldS_at zBk [o15] 1 (by simp), h15, countS_at zBk [o15] 2 (by simp), c15, sameS_atG zBk [o15] _ zBk [] _ .sl .nil (by simp), s15]
    refine hJ _ _ _ ?_
    clear hJ J
  refine opsK_nil ?_
  refine hK7 _ ?_
  clear hK7
  refine awp_ret ?_
  refine finWQ_of [] ?_
  simp [go_sem, Try.f25]

end Go.Proofs.Ytebflegkdfhoaaa.AE
