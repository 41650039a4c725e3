/-
 Wants alike; few. Conditions: none; every contract names its own.
-/
import Derived.Test.YtiifcalgolkpiaaPj
import Derived.Test.YtiifcalgolkpiaaOFw
set_option linter.constructorNameAsVariable false
namespace Go.Proofs.Ytiifcalgolkpiaa.AE
open Go Go.Proofs Go.RowKit
set_option linter.unusedVariables false
set_option linter.unusedSimpArgs false
set_option maxRecDepth 100000
set_option maxHeartbeats 4000000
theorem effW {A : List (List Eff)} {x : List Eff} {n : Nat} (h : ∀ w ∈ A, w.length ≤ 9223372036854775807) (hx : A[n]? = some x) : x.length ≤ 9223372036854775807 := h x (List.mem_of_getElem? hx)
structure plWsX where
 L : List (List Eff)
 L' : AV
 M : List (List Eff)
 M' : AV
 h_L : SlA 1 cWs L L'
 h_M : SlA 1 cWs M M'
 hL : L.length ≤ 9223372036854775807 ∧ ∀ w ∈ L, w.length ≤ 9223372036854775807
noncomputable def plWsS : HSpec := mkH (ι := plWsX) (fun ⟨L, L', M, M', h_L, h_M, hL⟩ => ([L', M'], [])) fun ⟨L, L', M, M', h_L, h_M, hL⟩ => ⟨.bool (decide (L = M)), [], []⟩
theorem plWsS_atG (L : List (List Eff)) (L' : AV) (M : List (List Eff)) (M' : AV) (h_L : SlA 1 cWs L L') (h_M : SlA 1 cWs M M') (hL : L.length ≤ 9223372036854775807 ∧ ∀ w ∈ L, w.length ≤ 9223372036854775807) : plWsS [L', M'] [] = some (⟨.bool (decide (L = M)), [], []⟩) :=
 mA_ (ι := plWsX) (fun i j h => by obtain ⟨L, L', M, M', h_L, h_M, hL⟩ := i; obtain ⟨L2, L'2, M2, M'2, h_L2, h_M2, hL2⟩ := j; simp [and_assoc, qB_, qI_, qO_, qC_, qE_, qK_, qR_, qV_, qP_, qOc_] at h; obtain ⟨rfl, rfl⟩ := h; obtain rfl := SlA.inj (fun x y h => cWs_inj h) h_L h_L2; obtain rfl := SlA.inj (fun x y h => cWs_inj h) h_M h_M2; rfl) ⟨L, L', M, M', h_L, h_M, hL⟩
theorem plWsS_at (L : List (List Eff)) (M : List (List Eff)) (hL : L.length ≤ 9223372036854775807 ∧ ∀ w ∈ L, w.length ≤ 9223372036854775807) : plWsS [(.sl 1 (rows cWs L)), (.sl 1 (rows cWs M))] [] = some (⟨.bool (decide (L = M)), [], []⟩) := plWsS_atG L _ M _ .sl .sl hL
def plWsI (L M pre _post _q : List (List Eff)) : St := ⟨ofL [(0, .sl 1 (rows cWs L)), (1, .sl 1 (rows cWs M)), (5, .int .i64 pre.length)], hOf []⟩
theorem plWs_ok : HSound Try.prog 31 plWsS := by
 refine sE_ (fn := Try.f31) rfl rfl (by kernel_rfl) fun args bx hr hS => ?_
 obtain ⟨⟨L, L', M, M', h_L, h_M, hL⟩, rfl, rfl, rfl⟩ := mO_ hS
 clear hS
 refine ⟨_, (eV_ (g := 56) (by kernel_rfl) plEffB_ok (eN_ _)), by simp [Try.f31], by simp [go_sem], fun w Mx pin => ?_⟩
 simp only [hB_at, lab_nil, lab_cons, hOf_nil, hOf_cons]
 refine aW_ (s' := ⟨ofL [(0, (.sl 1 (rows cWs L))), (1, (.sl 1 (rows cWs M)))], hOf []⟩) ?_ ?_
 · cases h_L <;> cases h_M <;> exact wO_ [] (by simp [go_sem]) (by simp [go_sem]) (by simp [go_sem])
 clear h_L h_M
 refine aQ_ ?_
 iterate 1
  refine oC_ fun J hJ => ?_
  simp [go_sem]
  refine hJ _ _ _ ?_
  clear hJ J
 refine oN_ ?_
 refine aS_ fun K2 hK2 => ?_
 refine aQ_ ?_
 iterate 5
  refine oC_ fun J hJ => ?_
  simp [go_sem]
  refine hJ _ _ _ ?_
  clear hJ J
 refine oN_ ?_
 refine aC_ (t := _) rfl (fun c4 => ?_) (fun c4 => ?_)
 ·
  simp [go_sem] at c4
  have hne : L ≠ M := fun h => c4 (by rw [h])
  refine aQ_ ?_
  iterate 1
   refine oC_ fun J hJ => ?_
   simp [go_sem]
   refine hJ _ _ _ ?_
   clear hJ J
  refine oN_ ?_
  refine aE_ ?_
  refine fQ_ [] ?_
  simp [go_sem, Try.f31, hne]
 ·
  simp [go_sem] at c4
  refine aK_ ?_
  refine hK2 _ ?_
  clear hK2
  refine aS_ fun K6 hK6 => ?_
  refine aQ_ ?_
  iterate 1
   refine oC_ fun J hJ => ?_
   simp [go_sem]
   refine hJ _ _ _ ?_
   clear hJ J
  refine oN_ ?_
  refine aB_ ?_
  refine aL_ (ι := { q : List (List Eff) × List (List Eff) × List (List Eff) // q.1 ++ q.2.1 = L ∧ q.1 ++ q.2.2 = M }) (fun q => plWsI L M q.1.1 q.1.2.1 q.1.2.2) (fun q => q.1.2.1.length) ⟨([], L, M), rfl, rfl⟩ ?_ ?_
  · refine wO_ [] (by simp [go_sem]) ?_ ?_ <;> simp [go_sem]
  intro ⟨⟨pre, post, p2⟩, hl, hgo⟩
  simp only at hl hgo
  simp only [plWsI]
  refine aS_ fun K8 hK8 => ?_
  refine aQ_ ?_
  iterate 4
   refine oC_ fun J hJ => ?_
   simp [go_sem]
   refine hJ _ _ _ ?_
   clear hJ J
  refine oN_ ?_
  refine aC_ (t := _) rfl (fun c10 => ?_) (fun c10 => ?_)
  ·
   simp [go_sem] at c10
   obtain ⟨x, post, rfl, hx⟩ := mL_ hl c10
   obtain ⟨y, p2, rfl, hy⟩ := mL_ hgo (by omega)
   refine aK_ ?_
   refine hK8 _ ?_
   clear hK8
   refine aS_ fun K11 hK11 => ?_
   refine aB_ ?_
   refine aU_ ?_
   iterate 10
    refine oC_ fun J hJ => ?_
    simp [go_sem, hx, hy, plEffBS_at x y (effW hL.2 hx)]
    refine hJ _ _ _ ?_
    clear hJ J
   refine oN_ ?_
   refine ⟨rfl, ?_⟩
   refine aC_ (t := _) rfl (fun c13 => ?_) (fun c13 => ?_)
   ·
    refine aQ_ ?_
    iterate 1
     refine oC_ fun J hJ => ?_
     simp [go_sem]
     refine hJ _ _ _ ?_
     clear hJ J
    refine oN_ ?_
    refine aE_ ?_
    have hne : L ≠ M := by
     rintro rfl
     rw [hx] at hy
     cases hy
     simp at c13
    refine fQ_ [] ?_
    simp [go_sem, Try.f31, hne]
   ·
    refine aK_ ?_
    refine hK11 _ ?_
    clear hK11
    refine aR_ ?_
    iterate 3
     refine oC_ fun J hJ => ?_
     simp [go_sem]
     refine hJ _ _ _ ?_
     clear hJ J
    refine oN_ ?_
    obtain rfl : x = y := by simpa using c13
    refine ⟨⟨(pre ++ [x], post, p2), by simp [← hl], by rw [← hgo]; simp⟩, ?_, by simp⟩
    refine wO_ [] (by simp [go_sem]) ?_ ?_ <;> simp [go_sem, wrap_big hx hL.1]
  ·
   simp [go_sem] at c10
   obtain ⟨rfl, rfl⟩ := mN_ hl c10
   obtain rfl : p2 = [] := by have := congrArg List.length hgo; simp at this; exact List.eq_nil_of_length_eq_zero (by omega)
   simp at hgo
   refine aX_ ?_
   simp only [go_sem]
   refine hK6 _ ?_
   clear hK6
   refine aQ_ ?_
   iterate 1
    refine oC_ fun J hJ => ?_
    simp [go_sem]
    refine hJ _ _ _ ?_
    clear hJ J
   refine oN_ ?_
   refine aE_ ?_
   refine fQ_ [] ?_
   simp [go_sem, Try.f31, hgo]
structure few17X where
 b : Bk
 os : List Ord
 os' : AV
 L : List Chg
 L' : AV
 h_os : SlA 7 cOrd os os'
 h_L : SlA 9 cChg L L'
noncomputable def few17S : HSpec := mkH (ι := few17X) (fun ⟨b, os, os', L, L', h_os, h_L⟩ => ([.agg (cBk b os'), L'], [])) fun ⟨b, os, os', L, L', h_os, h_L⟩ => ⟨.tup [.agg (cBk b (.sl 7 (rows cOrd (os.take 30)))), .sl 9 (rows cChg (L.take 50))], [], []⟩
theorem few17S_atG (b : Bk) (os : List Ord) (os' : AV) (L : List Chg) (L' : AV) (h_os : SlA 7 cOrd os os') (h_L : SlA 9 cChg L L') : few17S [.agg (cBk b os'), L'] [] = some (⟨.tup [.agg (cBk b (.sl 7 (rows cOrd (os.take 30)))), .sl 9 (rows cChg (L.take 50))], [], []⟩) :=
 mA_ (ι := few17X) (fun i j h => by obtain ⟨b, os, os', L, L', h_os, h_L⟩ := i; obtain ⟨b2, os2, os'2, L2, L'2, h_os2, h_L2⟩ := j; simp [and_assoc, qB_, qI_, qO_, qC_, qE_, qK_, qR_, qV_, qP_, qOc_] at h; obtain ⟨rfl, rfl, rfl⟩ := h; obtain rfl := SlA.inj (fun x y h => cOrd_inj h) h_os h_os2; obtain rfl := SlA.inj (fun x y h => cChg_inj h) h_L h_L2; rfl) ⟨b, os, os', L, L', h_os, h_L⟩
theorem few17S_at (b : Bk) (os : List Ord) (L : List Chg) : few17S [.agg (cBk b (.sl 7 (rows cOrd os))), (.sl 9 (rows cChg L))] [] = some (⟨.tup [.agg (cBk b (.sl 7 (rows cOrd (os.take 30)))), .sl 9 (rows cChg (L.take 50))], [], []⟩) := few17S_atG b os _ L _ .sl .sl
theorem few17_ok : HSound Try.prog 26 few17S := by
 refine sE_ (fn := Try.f26) rfl rfl (by kernel_rfl) fun args bx hr hS => ?_
 obtain ⟨⟨b, os, os', L, L', h_os, h_L⟩, rfl, rfl, rfl⟩ := mO_ hS
 clear hS
 refine ⟨_, (eN_ _), by simp [Try.f26], by simp [go_sem], fun w Mx pin => ?_⟩
 simp only [hB_at, lab_nil, lab_cons, hOf_nil, hOf_cons]
 refine aW_ (s' := ⟨ofL [(0, .agg (cBk b (.sl 7 (rows cOrd os)))), (1, (.sl 9 (rows cChg L)))], hOf []⟩) ?_ ?_
 · cases h_os <;> cases h_L <;> exact wO_ [] (by simp [go_sem]) (by simp [go_sem]) (by simp [go_sem])
 clear h_os h_L
 refine aQ_ ?_
 iterate 3
  refine oC_ fun J hJ => ?_
  simp [go_sem]
  refine hJ _ _ _ ?_
  clear hJ J
 refine oN_ ?_
 refine aS_ fun K2 hK2 => ?_
 refine aQ_ ?_
 iterate 4
  refine oC_ fun J hJ => ?_
  simp [go_sem]
  refine hJ _ _ _ ?_
  clear hJ J
 refine oN_ ?_
 refine aC_ (t := _) rfl (fun c4 => ?_) (fun c4 => ?_)
 ·
  simp [go_sem] at c4
  have e1 : (os.take 30) = os.take 30 := rfl
  refine aR_ ?_
  iterate 5
   refine oC_ fun J hJ => ?_
   simp [go_sem, show 30 ≤ os.length by omega]
   refine hJ _ _ _ ?_
   clear hJ J
  refine oN_ ?_
  refine hK2 _ ?_
  clear hK2
  refine aS_ fun K5 hK5 => ?_
  refine aQ_ ?_
  iterate 3
   refine oC_ fun J hJ => ?_
   simp [go_sem]
   refine hJ _ _ _ ?_
   clear hJ J
  refine oN_ ?_
  refine aC_ (t := _) rfl (fun c7 => ?_) (fun c7 => ?_)
  ·
   simp [go_sem] at c7
   refine aR_ ?_
   iterate 3
    refine oC_ fun J hJ => ?_
    simp [go_sem, show 50 ≤ L.length by omega]
    refine hJ _ _ _ ?_
    clear hJ J
   refine oN_ ?_
   refine hK5 _ ?_
   clear hK5
   refine aQ_ ?_
   iterate 4
    refine oC_ fun J hJ => ?_
    simp [go_sem]
    refine hJ _ _ _ ?_
    clear hJ J
   refine oN_ ?_
   refine aE_ ?_
   refine fQ_ [] ?_
   first | (simp [go_sem, Try.f26]; done) | (simp [go_sem, Try.f26, e1]; done) | (simp [go_sem, Try.f26, e2]; done) | (simp [go_sem, Try.f26, e1, e2]; done)
  ·
   simp [go_sem] at c7
   have e2 : L.take 50 = L := List.take_of_length_le (by omega)
   refine aK_ ?_
   refine hK5 _ ?_
   clear hK5
   refine aQ_ ?_
   iterate 4
    refine oC_ fun J hJ => ?_
    simp [go_sem]
    refine hJ _ _ _ ?_
    clear hJ J
   refine oN_ ?_
   refine aE_ ?_
   refine fQ_ [] ?_
   first | (simp [go_sem, Try.f26]; done) | (simp [go_sem, Try.f26, e1]; done) | (simp [go_sem, Try.f26, e2]; done) | (simp [go_sem, Try.f26, e1, e2]; done)
 ·
  simp [go_sem] at c4
  have e1 : os.take 30 = os := List.take_of_length_le (by omega)
  refine aK_ ?_
  refine hK2 _ ?_
  clear hK2
  refine aS_ fun K5 hK5 => ?_
  refine aQ_ ?_
  iterate 3
   refine oC_ fun J hJ => ?_
   simp [go_sem]
   refine hJ _ _ _ ?_
   clear hJ J
  refine oN_ ?_
  refine aC_ (t := _) rfl (fun c7 => ?_) (fun c7 => ?_)
  ·
   simp [go_sem] at c7
   refine aR_ ?_
   iterate 3
    refine oC_ fun J hJ => ?_
    simp [go_sem, show 50 ≤ L.length by omega]
    refine hJ _ _ _ ?_
    clear hJ J
   refine oN_ ?_
   refine hK5 _ ?_
   clear hK5
   refine aQ_ ?_
   iterate 4
    refine oC_ fun J hJ => ?_
    simp [go_sem]
    refine hJ _ _ _ ?_
    clear hJ J
   refine oN_ ?_
   refine aE_ ?_
   refine fQ_ [] ?_
   first | (simp [go_sem, Try.f26]; done) | (simp [go_sem, Try.f26, e1]; done) | (simp [go_sem, Try.f26, e2]; done) | (simp [go_sem, Try.f26, e1, e2]; done)
  ·
   simp [go_sem] at c7
   have e2 : L.take 50 = L := List.take_of_length_le (by omega)
   refine aK_ ?_
   refine hK5 _ ?_
   clear hK5
   refine aQ_ ?_
   iterate 4
    refine oC_ fun J hJ => ?_
    simp [go_sem]
    refine hJ _ _ _ ?_
    clear hJ J
   refine oN_ ?_
   refine aE_ ?_
   refine fQ_ [] ?_
   first | (simp [go_sem, Try.f26]; done) | (simp [go_sem, Try.f26, e1]; done) | (simp [go_sem, Try.f26, e2]; done) | (simp [go_sem, Try.f26, e1, e2]; done)
end Go.Proofs.Ytiifcalgolkpiaa.AE
