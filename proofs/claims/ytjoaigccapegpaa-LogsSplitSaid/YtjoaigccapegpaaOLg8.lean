/-
 Law 19: few, step. Conditions: none; every contract names its own.
-/
import Derived.Test.YtjoaigccapegpaaOLg7
import Derived.Test.YtjoaigccapegpaaOLgs
import Derived.Test.YtjoaigccapegpaaPj
set_option linter.constructorNameAsVariable false
namespace Go.Proofs.Ytjoaigccapegpaa.AE
open Go Go.Proofs Go.RowKit
set_option linter.unusedVariables false
set_option linter.unusedSimpArgs false
set_option maxRecDepth 100000
set_option maxHeartbeats 4000000
theorem cOp_tail (x : Op) : List.take 9 (cOp x).tail = cChg x.c := rfl
@[go_sem] theorem take_oD (d : List Chg) : List.take d.length (oD d) = oD d := by rw [← oD_len d]; exact List.take_length
structure few19X where
 os : List Op
 os' : AV
 h_os : SlA 12 cOp os os'
noncomputable def few19S : HSpec := mkH (ι := few19X) (fun ⟨os, os', h_os⟩ => ([os'], [])) fun ⟨os, os', h_os⟩ => ⟨.sl 12 (rows cOp (os.take 60)), [], []⟩
theorem few19S_atG (os : List Op) (os' : AV) (h_os : SlA 12 cOp os os') : few19S [os'] [] = some (⟨.sl 12 (rows cOp (os.take 60)), [], []⟩) :=
 mA_ (ι := few19X) (fun i j h => by obtain ⟨os, os', h_os⟩ := i; obtain ⟨os2, os'2, h_os2⟩ := j; simp [and_assoc, qB_, qI_, qO_, qC_, qE_, qK_, qR_, qV_, qP_, qOc_] at h; obtain rfl := h; obtain rfl := SlA.inj (fun x y h => cOp_inj h) h_os h_os2; rfl) ⟨os, os', h_os⟩
theorem few19S_at (os : List Op) : few19S [(.sl 12 (rows cOp os))] [] = some (⟨.sl 12 (rows cOp (os.take 60)), [], []⟩) := few19S_atG os _ .sl
theorem few19_ok : HSound Try.prog 9 few19S := by
 refine sE_ (fn := Try.f9) rfl rfl (by kernel_rfl) fun args bx hr hS => ?_
 obtain ⟨⟨os, os', h_os⟩, rfl, rfl, rfl⟩ := mO_ hS
 clear hS
 refine ⟨_, (eN_ _), by simp [Try.f9], by simp [go_sem], fun w Mx pin => ?_⟩
 simp only [hB_at, lab_nil, lab_cons, hOf_nil, hOf_cons]
 refine aW_ (s' := ⟨ofL [(0, (.sl 12 (rows cOp os)))], hOf []⟩) ?_ ?_
 · cases h_os <;> exact wO_ [] (by simp [go_sem]) (by simp [go_sem]) (by simp [go_sem])
 clear h_os
 refine aQ_ ?_
 iterate 1
  refine oC_ fun J hJ => ?_
  simp [go_sem]
  refine hJ _ _ _ ?_
 refine oN_ ?_
 refine aS_ fun K2 hK2 => ?_
 refine aQ_ ?_
 iterate 3
  refine oC_ fun J hJ => ?_
  simp [go_sem]
  refine hJ _ _ _ ?_
 refine oN_ ?_
 refine aC_ (t := _) rfl (fun c4 => ?_) (fun c4 => ?_)
 ·
  simp [go_sem] at c4
  have h3 : 60 ≤ os.length := by omega
  refine aQ_ ?_
  iterate 3
   refine oC_ fun J hJ => ?_
   simp [go_sem, h3]
   refine hJ _ _ _ ?_
  refine oN_ ?_
  refine aE_ ?_
  refine fQ_ [] ?_
  simp [go_sem, Try.f9]
 ·
  simp [go_sem] at c4
  have h2 : List.take 60 os = os := List.take_of_length_le (by omega)
  refine aK_ ?_
  refine hK2 _ ?_
  refine aQ_ ?_
  iterate 2
   refine oC_ fun J hJ => ?_
   simp [go_sem]
   refine hJ _ _ _ ?_
  refine oN_ ?_
  refine aE_ ?_
  refine fQ_ [] ?_
  simp [go_sem, Try.f9, h2]
end Go.Proofs.Ytjoaigccapegpaa.AE
