/-
 Law 07: alive. Conditions: none; every contract names its own.
-/
import Derived.Test.YtebflegkdfhoaaaOSt2
import Derived.Test.YtebflegkdfhoaaaPg
set_option linter.constructorNameAsVariable false
namespace Go.Proofs.Ytebflegkdfhoaaa.AE
open Go Go.Proofs Go.RowKit
set_option linter.unusedVariables false
set_option linter.unusedSimpArgs false
set_option maxRecDepth 100000
set_option maxHeartbeats 4000000
def a07 : Chg := { zChg with id := ⟨2, 1⟩, time := 3 }
def b07 : Chg := { zChg with id := ⟨0, 1⟩, time := 4 }
theorem an07 : cChg { id := { rep := 2, seq := 1 }, time := 3, kind := zChg.kind, a := zChg.a, b := zChg.b, n := zChg.n, ref := zChg.ref } = cChg a07 := rfl
theorem bn07 : cChg { id := { rep := zId.rep, seq := 1 }, time := 4, kind := zChg.kind, a := zChg.a, b := zChg.b, n := zChg.n, ref := zChg.ref } = cChg b07 := rfl
theorem take_Chg (x : Chg) (l : List AV) : List.take 9 (cChg x ++ l) = cChg x := rfl
theorem drop_Chg (x : Chg) (l : List AV) : List.drop 9 (cChg x ++ l) = l := rfl
theorem so07 : sortC [b07, a07] = [a07, b07] := by decide
theorem le07 : lessChg a07 b07 = true := by decide
theorem pl07 : placeC [a07, b07] b07.id = 1 := by decide
theorem la07 : lastG [a07, b07] 0 = 4 := by decide
theorem wi07 : withoutL [a07, b07] 0 = [b07] := by decide
structure alive07X where
 u : Unit
noncomputable def alive07S : HSpec := mkH (ι := alive07X) (fun ⟨_⟩ => ([], [])) fun ⟨_⟩ => ⟨.bool true, [], []⟩
theorem alive07S_atG : alive07S [] [] = some (⟨.bool true, [], []⟩) :=
 mA_ (ι := alive07X) (fun i j h => by obtain ⟨_⟩ := i; obtain ⟨_⟩ := j; rfl) ⟨()⟩
theorem alive07S_at : alive07S [] [] = some (⟨.bool true, [], []⟩) := alive07S_atG
theorem alive07_ok : HSound Try.prog 37 alive07S := by
 refine sE_ (fn := Try.f37) rfl rfl (by kernel_rfl) fun args bx hr hS => ?_
 obtain ⟨⟨_⟩, rfl, rfl, rfl⟩ := mO_ hS
 clear hS
 refine ⟨_, (eV_ (g := 38) (by kernel_rfl) lessChg_ok (eV_ (g := 48) (by kernel_rfl) sorted_ok (eV_ (g := 45) (by kernel_rfl) findC_ok (eV_ (g := 47) (by kernel_rfl) lastC_ok (eV_ (g := 42) (by kernel_rfl) withC_ok (eN_ _)))))), by simp [Try.f37], by simp [go_sem], fun w Mx pin => ?_⟩
 simp only [hB_at, lab_nil, lab_cons, hOf_nil, hOf_cons]
 refine aQ_ ?_
 iterate 1
  refine oC_ fun J hJ => ?_
  simp [go_sem]
  refine hJ _ _ _ ?_
 refine oN_ ?_
 refine aQ_ ?_
 iterate 8
  refine oC_ fun J hJ => ?_
  simp [go_sem, an07, bn07]
  refine hJ _ _ _ ?_
 refine oN_ ?_
 refine aQ_ ?_
 iterate 5
  refine oC_ fun J hJ => ?_
  simp [go_sem, take_Chg, drop_Chg, sortedS_at [b07, a07] (by simp), so07]
  refine hJ _ _ _ ?_
 refine oN_ ?_
 refine aU_ ?_
 iterate 36
  refine oC_ fun J hJ => ?_
  simp [go_sem, take_Chg, drop_Chg, lessChgS_at, le07, findCS_at [a07, b07] b07.id (by simp), pl07, lastCS_at [a07, b07] (by simp), la07, withCS_at [a07, b07] 0 (by simp), wi07]
  refine hJ _ _ _ ?_
 refine oN_ ?_
 refine ⟨rfl, ?_⟩
 refine aE_ ?_
 refine fQ_ [] ?_
 simp [go_sem, Try.f37]
end Go.Proofs.Ytebflegkdfhoaaa.AE
