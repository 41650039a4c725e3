/-
 ModelExpects. Conditions: none; every contract names its own.
-/
import Derived.Test.YtjoaigccapegpaaOAl34
import Derived.Test.YtjoaigccapegpaaOOp
set_option linter.constructorNameAsVariable false
namespace Go.Proofs.Ytjoaigccapegpaa.AE
open Go Go.Proofs Go.RowKit
set_option linter.unusedVariables false
set_option linter.unusedSimpArgs false
set_option maxRecDepth 100000
set_option maxHeartbeats 4000000
theorem sameB_t (b : Bk) (os : List Ord) : sameB b os b os = true := by simp [sameB]
structure modelExpectsX where
 a : List Req
 a' : AV
 L : List Chg
 L' : AV
 h_a : SlA 9 cReq a a'
 h_L : SlA 9 cChg L L'
noncomputable def modelExpectsS : HSpec := mkH (ι := modelExpectsX) (fun ⟨a, a', L, L', h_a, h_L⟩ => ([a', L'], [])) fun ⟨a, a', L, L', h_a, h_L⟩ => ⟨.bool true, [], []⟩
theorem modelExpectsS_atG (a : List Req) (a' : AV) (L : List Chg) (L' : AV) (h_a : SlA 9 cReq a a') (h_L : SlA 9 cChg L L') : modelExpectsS [a', L'] [] = some (⟨.bool true, [], []⟩) :=
 mA_ (ι := modelExpectsX) (fun i j h => by obtain ⟨a, a', L, L', h_a, h_L⟩ := i; obtain ⟨a2, a'2, L2, L'2, h_a2, h_L2⟩ := j; simp [and_assoc, qB_, qI_, qO_, qC_, qE_, qK_, qR_, qV_, qP_, qOc_] at h; obtain ⟨rfl, rfl⟩ := h; obtain rfl := SlA.inj (fun x y h => cReq_inj h) h_a h_a2; obtain rfl := SlA.inj (fun x y h => cChg_inj h) h_L h_L2; rfl) ⟨a, a', L, L', h_a, h_L⟩
theorem modelExpectsS_at (a : List Req) (L : List Chg) : modelExpectsS [(.sl 9 (rows cReq a)), (.sl 9 (rows cChg L))] [] = some (⟨.bool true, [], []⟩) := modelExpectsS_atG a _ L _ .sl .sl
theorem modelExpects_ok : HSound Try.prog 4 modelExpectsS := by
 refine sE_ (fn := Try.f4) rfl rfl (by kernel_rfl) fun args bx hr hS => ?_
 obtain ⟨⟨a, a', L, L', h_a, h_L⟩, rfl, rfl, rfl⟩ := mO_ hS
 clear hS
 refine ⟨_, (eV_ (g := 16) (by kernel_rfl) alive34_ok (eV_ (g := 17) (by kernel_rfl) few34_ok (eV_ (g := 18) (by kernel_rfl) runR_ok (eV_ (g := 20) (by kernel_rfl) expM_ok (eV_ (g := 21) (by kernel_rfl) expR_ok (eV_ (g := 19) (by kernel_rfl) plReq_ok (eV_ (g := 22) (by kernel_rfl) netM_ok (eV_ (g := 23) (by kernel_rfl) netR_ok (eV_ (g := 25) (by kernel_rfl) bookM_ok (eV_ (g := 24) (by kernel_rfl) plBook_ok (eN_ _))))))))))), by simp [Try.f4], by simp [go_sem], fun w Mx pin => ?_⟩
 simp only [hB_at, lab_nil, lab_cons, hOf_nil, hOf_cons]
 refine aW_ (s' := ⟨ofL [(0, (.sl 9 (rows cReq a))), (1, (.sl 9 (rows cChg L)))], hOf []⟩) ?_ ?_
 · cases h_a <;> cases h_L <;> exact wO_ [] (by simp [go_sem]) (by simp [go_sem]) (by simp [go_sem])
 clear h_a h_L
 obtain ⟨A, hA⟩ : ∃ A, A = a.take 60 := ⟨_, rfl⟩
 have hAl : A.length ≤ 60 := by rw [hA]; simp; omega
 obtain ⟨M, hM⟩ : ∃ M, M = L.take 50 := ⟨_, rfl⟩
 have hMl : M.length ≤ 50 := by rw [hM]; simp; omega
 have hW := expL_len M
 have hN := netR_len A []
 have hN2 : (netL A).length ≤ A.length := by simpa [netL] using hN
 have hw1 := ordL_len (p := ordReq) (expL M)
 have hw2 := ordL_len (p := ordReq) (netL A)
 have ht1 : List.take (expL M).length (ordL ordReq (expL M)) = ordL ordReq (expL M) := List.take_of_length_le (by omega)
 have ht2 : List.take (netL A).length (ordL ordReq (netL A)) = ordL ordReq (netL A) := List.take_of_length_le (by omega)
 have hbk := (bkL_fair (p := (zBk, [])) fairZ M).2
 simp only [List.length_nil, Nat.zero_add] at hbk
 refine aQ_ ?_
 iterate 1
  refine oC_ fun J hJ => ?_
  simp [go_sem]
  refine hJ _ _ _ ?_
 refine oN_ ?_
 refine aS_ fun K2 hK2 => ?_
 refine aQ_ ?_
 iterate 2
  refine oC_ fun J hJ => ?_
  simp [go_sem, alive34S_at]
  refine hJ _ _ _ ?_
 refine oN_ ?_
 refine aF_ rfl ?_
 refine aK_ ?_
 refine hK2 _ ?_
 refine aQ_ ?_
 iterate 8
  refine oC_ fun J hJ => ?_
  simp [go_sem, few34S_at a L, ← hA, ← hM]
  refine hJ _ _ _ ?_
 refine oN_ ?_
 refine aQ_ ?_
 iterate 9
  refine oC_ fun J hJ => ?_
  simp [go_sem, ↓runZR_at M (by omega)]
  refine hJ _ _ _ ?_
 refine oN_ ?_
 refine aU_ ?_
 iterate 19
  refine oC_ fun J hJ => ?_
  simp [go_sem, expMS_at M (by omega), expRS_at M (by omega), ht1, ht2, plReqS_at (ordL ordReq (expL M)) (ordL ordReq (expL M)) (by omega), netMS_at A (by omega), netRS_at A (by omega), plReqS_at (ordL ordReq (netL A)) (ordL ordReq (netL A)) (by omega), bookMS_at M (by omega), plBookS_at (bkL (zBk, []) M).1 (bkL (zBk, []) M).2 (bkL (zBk, []) M).1 (bkL (zBk, []) M).2 (by omega), sameB_t]
  refine hJ _ _ _ ?_
 refine oN_ ?_
 refine ⟨rfl, ?_⟩
 refine aE_ ?_
 refine fQ_ [] ?_
 simp [go_sem, Try.f4]
theorem ModelExpects_walk (w : World) (v0 : Value) (x0 : List Req) (r0 : Rep w (fun _ => False) noLay noH (.sl 9 (rows cReq x0)) v0) (a1 : Option Addr) (c1 : Nat) (L1 : List (List Int)) (h1 : L1.length ≤ c1) (m1 : c1 ≤ maxLen) (s1 : SlK w.heap.size 9 w a1 L1) :
  Calls Try.prog 4 #[v0, .slice a1 L1.length c1] w fun e w' => e = .returned (.bool true) ∧ Below w.heap.size w w' := by
 obtain ⟨os1, e1, r1⟩ := slk_rows ex_Chg s1 h1 m1
 refine true_walk modelExpects_ok (modelExpectsS_at x0 os1) w rfl fun i v hi => ?_
 match i, hi with
 | 0, hi => cases hi; exact r0
 | 1, hi => cases hi; exact r1
end Go.Proofs.Ytjoaigccapegpaa.AE
