/-
 FoldWants. Conditions: none; every contract names its own.
-/
import Derived.Test.YtiifcalgolkpiaaOAl17
import Derived.Test.YtiifcalgolkpiaaOOp
set_option linter.constructorNameAsVariable false
namespace Go.Proofs.Ytiifcalgolkpiaa.AE
open Go Go.Proofs Go.RowKit
set_option linter.unusedVariables false
set_option linter.unusedSimpArgs false
set_option maxRecDepth 100000
set_option maxHeartbeats 4000000
theorem outs_big {w : World} {M : Nat → Prop} {μ : Lay} {H : Heap} {L : List Outc} {v : Value} (h : Rep w M μ H (.sl 2 (rows cOc L)) v) : L.length ≤ 9223372036854775807 ∧ effsBig L := by
 have key : ∀ {k : Nat} {X : List (List AV)} {u : Value} {H : Heap}, Rep w M μ H (.sl k X) u → X.length ≤ 9223372036854775807 := by
  intro k X u H hr
  cases hr with
  | sl _ _ _ a c f hc hm _ _ _ =>
   simp only [maxLen] at hm
   omega
 refine ⟨by have := key h; simpa [rows] using this, fun x hx => ?_⟩
 obtain ⟨i, hi⟩ := List.getElem?_of_mem hx
 cases h with
 | sl _ _ _ a c f hc hm hk hv hr =>
  have := hr i 1 (cOc x) (.sl 5 (rows cEff x.effs)) (by simp [rows, hi]) rfl
  have := key this
  simpa [rows] using this
theorem few17z (L : List Chg) : few17S [.agg (cBk zBk .nils), .sl 9 (rows cChg L)] [] = some ⟨.tup [.agg (cBk zBk (.sl 7 [])), .sl 9 (rows cChg (L.take 50))], [], []⟩ := few17S_atG zBk [] .nils L _ .nil .sl
theorem runRZ_at (L : List Chg) (h : L.length ≤ 20000) : runRS [.agg (cBk zBk .nils), .sl 9 (rows cChg L)] [] = some ⟨.tup [.agg (cBk (bkL (zBk, []) L).1 (.sl 7 (rows cOrd (bkL (zBk, []) L).2))), .own (2, 0) L.length], [], [.row 36 2 (rows cOc (ouL (zBk, []) L)) false]⟩ := runRS_atG zBk [] .nils L _ .nil .sl ⟨fairZ.1, fairZ.2, by simp; omega⟩
theorem wantsL_take (L : List Chg) (good : Int) : (wantsL L good).take L.length = wantsL L good := by
 have := wantsG_take good (ouL (zBk, []) L) 0
 rw [ouL_len] at this
 exact this
theorem wantsG_big (good : Int) : ∀ (l : List Outc) (i : Nat), (∀ x ∈ l, x.effs.length ≤ 4) → ∀ w ∈ wantsG good l i, w.length ≤ 9223372036854775807
 | [], i, _, w, hw => by cases hw
 | o :: r, i, h, w, hw => by
  rcases List.mem_cons.1 hw with rfl | hw
  ·
   have h1 := wantE_len o (decide ((i : Int) < good))
   have h2 := h o (by simp)
   omega
  · exact wantsG_big good r (i + 1) (fun x hx => h x (by simp [hx])) w hw
theorem wantsL_big (L : List Chg) (good : Int) (h : L.length ≤ 20000) : (wantsL L good).length ≤ 9223372036854775807 ∧ ∀ w ∈ wantsL L good, w.length ≤ 9223372036854775807 := by
 refine ⟨?_, wantsG_big good _ 0 fun x hx => ouL_effs fairZ L x hx⟩
 rw [wantsL, wantsG_len, ouL_len]
 omega
def foldWI (ms : List Chg) (good : Int) (A B pre _post : List Outc) : St := ⟨ofL [(0, .sl 9 (rows cChg ms)), (1, .int .i64 good), (2, .sl 2 (rows cOc A)), (3, .sl 2 (rows cOc B)), (10, .own (0, 998) ms.length), (11, .own (0, 999) pre.length), (12, .int .i64 pre.length)], hOf [((0, 998), .row 36 2 (rows cOc (ouL (zBk, []) ms)) false), ((0, 999), .row 34 1 (rows cWs (wantsG good pre 0)) false)]⟩
structure foldWantsX where
 L : List Chg
 L' : AV
 good : Int
 A : List Outc
 A' : AV
 B : List Outc
 B' : AV
 h_L : SlA 9 cChg L L'
 h_A : SlA 2 cOc A A'
 h_B : SlA 2 cOc B B'
 hL : A.length ≤ 9223372036854775807 ∧ effsBig A
noncomputable def foldWantsS : HSpec := mkH (ι := foldWantsX) (fun ⟨L, L', good, A, A', B, B', h_L, h_A, h_B, hL⟩ => ([L', .int .i64 good, A', B'], [])) fun ⟨L, L', good, A, A', B, B', h_L, h_A, h_B, hL⟩ => ⟨.bool true, [], []⟩
theorem foldWantsS_atG (L : List Chg) (L' : AV) (good : Int) (A : List Outc) (A' : AV) (B : List Outc) (B' : AV) (h_L : SlA 9 cChg L L') (h_A : SlA 2 cOc A A') (h_B : SlA 2 cOc B B') (hL : A.length ≤ 9223372036854775807 ∧ effsBig A) : foldWantsS [L', .int .i64 good, A', B'] [] = some (⟨.bool true, [], []⟩) :=
 mA_ (ι := foldWantsX) (fun i j h => by obtain ⟨L, L', good, A, A', B, B', h_L, h_A, h_B, hL⟩ := i; obtain ⟨L2, L'2, good2, A2, A'2, B2, B'2, h_L2, h_A2, h_B2, hL2⟩ := j; simp [and_assoc, qB_, qI_, qO_, qC_, qE_, qK_, qR_, qV_, qP_, qOc_] at h; obtain ⟨rfl, rfl, rfl, rfl⟩ := h; obtain rfl := SlA.inj (fun x y h => cChg_inj h) h_L h_L2; obtain rfl := SlA.inj (fun x y h => cOc_inj h) h_A h_A2; obtain rfl := SlA.inj (fun x y h => cOc_inj h) h_B h_B2; rfl) ⟨L, L', good, A, A', B, B', h_L, h_A, h_B, hL⟩
theorem foldWantsS_at (L : List Chg) (good : Int) (A : List Outc) (B : List Outc) (hL : A.length ≤ 9223372036854775807 ∧ effsBig A) : foldWantsS [(.sl 9 (rows cChg L)), .int .i64 good, (.sl 2 (rows cOc A)), (.sl 2 (rows cOc B))] [] = some (⟨.bool true, [], []⟩) := foldWantsS_atG L _ good A _ B _ .sl .sl .sl hL
theorem foldWants_ok : HSound Try.prog 8 foldWantsS := by
 refine sE_ (fn := Try.f8) rfl rfl (by kernel_rfl) fun args bx hr hS => ?_
 obtain ⟨⟨L, L', good, A, A', B, B', h_L, h_A, h_B, hL⟩, rfl, rfl, rfl⟩ := mO_ hS
 clear hS
 refine ⟨_, (eH_ (g := 25) (by kernel_rfl) alive17_ok (eV_ (g := 26) (by kernel_rfl) few17_ok (eH_ (g := 29) (by kernel_rfl) runR_ok (eH_ (g := 30) (by kernel_rfl) wantR_ok (eV_ (g := 32) (by kernel_rfl) wantsF_ok (eV_ (g := 31) (by kernel_rfl) plWs_ok (eV_ (g := 33) (by kernel_rfl) sameF_ok (eV_ (g := 28) (by kernel_rfl) plOcsB_ok (eN_ _))))))))), by simp [Try.f8], by simp [go_sem], fun w Mx pin => ?_⟩
 simp only [hB_at, lab_nil, lab_cons, hOf_nil, hOf_cons]
 refine aW_ (s' := ⟨ofL [(0, (.sl 9 (rows cChg L))), (1, .int .i64 good), (2, (.sl 2 (rows cOc A))), (3, (.sl 2 (rows cOc B)))], hOf []⟩) ?_ ?_
 · cases h_L <;> cases h_A <;> cases h_B <;> exact wO_ [] (by simp [go_sem]) (by simp [go_sem]) (by simp [go_sem])
 clear h_L h_A h_B
 obtain ⟨ms, hms⟩ : ∃ ms, ms = L.take 50 := ⟨_, rfl⟩
 have hml : ms.length ≤ 50 := by rw [hms]; simp; omega
 have hou : (ouL (zBk, []) ms).length ≤ 100000 := by rw [ouL_len]; omega
 refine aS_ fun K1 hK1 => ?_
 refine aR_ ?_
 iterate 1
  refine oC_ fun J hJ => ?_
  simp [go_sem]
  refine hJ _ _ _ ?_
  clear hJ J
 refine oN_ ?_
 refine hK1 _ ?_
 clear hK1
 refine aS_ fun K2 hK2 => ?_
 refine aS_ fun K3 hK3 => ?_
 refine aR_ ?_
 iterate 2
  refine oC_ fun J hJ => ?_
  simp [go_sem, alive17S_at]
  refine hJ _ _ _ ?_
  clear hJ J
 refine oN_ ?_
 refine hK3 _ ?_
 clear hK3
 refine aF_ rfl ?_
 refine aK_ ?_
 refine hK2 _ ?_
 clear hK2
 refine aS_ fun K6 hK6 => ?_
 refine aR_ ?_
 iterate 7
  refine oC_ fun J hJ => ?_
  simp [go_sem, ↓few17z L, ← hms]
  refine hJ _ _ _ ?_
  clear hJ J
 refine oN_ ?_
 refine hK6 _ ?_
 clear hK6
 refine aS_ fun K7 hK7 => ?_
 refine aR_ ?_
 iterate 9
  refine oC_ fun J hJ => ?_
  simp [go_sem, ↓runRZ_at ms (by omega)]
  refine hJ _ _ _ ?_
  clear hJ J
 refine oN_ ?_
 refine hK7 _ ?_
 clear hK7
 refine aS_ fun K8 hK8 => ?_
 refine aR_ ?_
 iterate 1
  refine oC_ fun J hJ => ?_
  simp [go_sem]
  refine hJ _ _ _ ?_
  clear hJ J
 refine oN_ ?_
 refine hK8 _ ?_
 clear hK8
 refine aS_ fun K9 hK9 => ?_
 refine aS_ fun K10 hK10 => ?_
 refine aR_ ?_
 iterate 1
  refine oC_ fun J hJ => ?_
  simp [go_sem]
  refine hJ _ _ _ ?_
  clear hJ J
 refine oN_ ?_
 refine hK10 _ ?_
 clear hK10
 refine aB_ ?_
 refine aL_ (ι := { q : List Outc × List Outc // q.1 ++ q.2 = (ouL (zBk, []) ms) ∧ True }) (fun q => foldWI ms good A B q.1.1 q.1.2) (fun q => q.1.2.length) ⟨([], (ouL (zBk, []) ms)), rfl, trivial⟩ ?_ ?_
 · refine wO_ [((0, 998), some (0, 384)), ((0, 999), none)] (by simp [go_sem]) ?_ ?_ <;> simp [go_sem, dropped]
 intro ⟨⟨pre, post⟩, hl, hgo⟩
 simp only at hl hgo
 have hpl := lS_ hl hou
 simp only [foldWI]
 refine aS_ fun K11 hK11 => ?_
 refine aS_ fun K12 hK12 => ?_
 refine aR_ ?_
 iterate 4
  refine oC_ fun J hJ => ?_
  simp [go_sem]
  refine hJ _ _ _ ?_
  clear hJ J
 refine oN_ ?_
 refine hK12 _ ?_
 clear hK12
 refine aC_ (t := _) rfl (fun c13 => ?_) (fun c13 => ?_)
 ·
  simp [go_sem] at c13
  have hxl : pre.length < (ouL (zBk, []) ms).length := by rw [ouL_len]; omega
  obtain ⟨x, post, rfl, hx⟩ := mL_ hl hxl
  rw [ouL_len] at hxl
  have hpm : pre.length < ms.length := hxl
  refine aK_ ?_
  refine hK11 _ ?_
  clear hK11
  refine aS_ fun K14 hK14 => ?_
  refine aB_ ?_
  refine aR_ ?_
  iterate 12
   refine oC_ fun J hJ => ?_
   simp [go_sem, hpm, ↓hx, wantRS_at x (decide ((pre.length : Int) < good)) (effs_of hx), cWs_at, show (pre.length + 1) * 24 ≤ 140737488355328 by omega, show pre.length + 1 ≤ maxLen by (simp only [maxLen]; omega)]
   refine hJ _ _ _ ?_
   clear hJ J
  refine oN_ ?_
  refine hK14 _ ?_
  clear hK14
  refine aR_ ?_
  iterate 3
   refine oC_ fun J hJ => ?_
   simp [go_sem]
   refine hJ _ _ _ ?_
   clear hJ J
  refine oN_ ?_
  refine ⟨⟨(pre ++ [x], post), by simp [← hl], by exact trivial⟩, ?_, by simp⟩
  refine wO_ [((0, 998), some (0, 998)), ((0, 999), some (0, 688))] (by simp [go_sem]) ?_ ?_ <;> simp [go_sem, wN_ hpl, wantsG_snoc, rows_append, cWs_at]
 ·
  simp [go_sem] at c13
  obtain ⟨rfl, hpe⟩ := mN_ hl (by rw [ouL_len]; omega)
  have hpl2 : pre.length = ms.length := by rw [← hpe, ouL_len]
  have hw : wantsG good pre 0 = wantsL ms good := by rw [← hpe]; rfl
  refine aX_ ?_
  simp only [go_sem]
  refine hK9 _ ?_
  clear hK9
  refine aS_ fun K15 hK15 => ?_
  refine aR_ ?_
  iterate 20
   refine oC_ fun J hJ => ?_
   simp [go_sem, wantsFS_at ms good (by omega), wantsL_take, hw, hpl2, ↓plWsS_at (wantsL ms good) (wantsL ms good) (wantsL_big ms good (by omega)), sameFS_at A B hL, sameFS_at A A hL, plOcsBS_at A B hL]
   refine hJ _ _ _ ?_
   clear hJ J
  refine oN_ ?_
  refine hK15 _ ?_
  clear hK15
  refine aE_ ?_
  refine fQ_ [] ?_
  simp [go_sem, Try.f8]
theorem FoldWants_walk (w : World) (a0 : Option Addr) (c0 : Nat) (L0 : List (List Int)) (h0 : L0.length ≤ c0) (m0 : c0 ≤ maxLen) (s0 : SlK w.heap.size 9 w a0 L0) (i1 : Int) (_ : I64 i1) (v2 : Value) (x2 : List Outc) (r2 : Rep w (fun _ => False) noLay noH (.sl 2 (rows cOc x2)) v2) (v3 : Value) (x3 : List Outc) (r3 : Rep w (fun _ => False) noLay noH (.sl 2 (rows cOc x3)) v3) :
  Calls Try.prog 8 #[.slice a0 L0.length c0, .int .i64 i1, v2, v3] w fun e w' => e = .returned (.bool true) ∧ Below w.heap.size w w' := by
 obtain ⟨os0, e0, r0⟩ := slk_rows ex_Chg s0 h0 m0
 refine true_walk foldWants_ok (foldWantsS_at os0 i1 x2 x3 (outs_big r2)) w rfl fun i v hi => ?_
 match i, hi with
 | 0, hi => cases hi; exact r0
 | 1, hi => cases hi; exact (.int _ _ _)
 | 2, hi => cases hi; exact r2
 | 3, hi => cases hi; exact r3
end Go.Proofs.Ytiifcalgolkpiaa.AE
