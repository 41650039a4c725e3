/-
 LogsRuns. Conditions: none; every contract names its own.
-/
import Derived.Test.YtjoaigccapegpaaGreatOAl19
import Derived.Test.YtjoaigccapegpaaGreatPg
set_option linter.constructorNameAsVariable false
namespace Go.Proofs.YtjoaigccapegpaaGreat.AE
open Go Go.Proofs Go.RowKit
set_option linter.unusedVariables false
set_option linter.unusedSimpArgs false
set_option maxRecDepth 100000
set_option maxHeartbeats 4000000
theorem sameB_s (b : Bk) (os : List Ord) : sameB b os b os = true := by simp [sameB]
theorem zS_d : rows cChg zS.d = [] := rfl
theorem zS_r : rows cChg zS.r = [] := rfl
def runsI (L pre _post : List Op) (s : LS) : St := ⟨ofL [(0, .sl 12 (rows cOp L)), (3, .ref (0, 128) 0), (4, .ref (0, 160) 0), (5, .int .i64 pre.length)], hOf [((0, 128), .obj (cLg (.own (0, 129) s.d.length) (.own (0, 130) s.d.length) (bD s.d).1 (.sl 7 (rows cOrd (bD s.d).2)) (.bool true) (.ref (0, 131) 0) s.v s.u)), ((0, 129), .row 35 9 (rows cChg s.d) false), ((0, 130), .row 50 2 (rows cOc (oD s.d)) false), ((0, 131), .obj [.sl 9 (rows cChg s.r)]), ((0, 160), .obj [.sl 9 (rows cChg (s.d)), .sl 9 (rows cChg (s.r))])]⟩
structure logsRunsX where
 os : List Op
 os' : AV
 h_os : SlA 12 cOp os os'
noncomputable def logsRunsS : HSpec := mkH (ι := logsRunsX) (fun ⟨os, os', h_os⟩ => ([os'], [])) fun ⟨os, os', h_os⟩ => ⟨.bool true, [], []⟩
theorem logsRunsS_atG (os : List Op) (os' : AV) (h_os : SlA 12 cOp os os') : logsRunsS [os'] [] = some (⟨.bool true, [], []⟩) :=
 mA_ (ι := logsRunsX) (fun i j h => by obtain ⟨os, os', h_os⟩ := i; obtain ⟨os2, os'2, h_os2⟩ := j; simp [and_assoc, qB_, qI_, qO_, qC_, qE_, qK_, qR_, qV_, qP_, qOc_] at h; obtain rfl := h; obtain rfl := SlA.inj (fun x y h => cOp_inj h) h_os h_os2; rfl) ⟨os, os', h_os⟩
theorem logsRunsS_at (os : List Op) : logsRunsS [(.sl 12 (rows cOp os))] [] = some (⟨.bool true, [], []⟩) := logsRunsS_atG os _ .sl
theorem logsRuns_ok : HSound Tryz.prog 4 logsRunsS := by
 refine sE_ (fn := Tryz.f4) rfl rfl (by kernel_rfl) fun args bx hr hS => ?_
 obtain ⟨⟨os, os', h_os⟩, rfl, rfl, rfl⟩ := mO_ hS
 clear hS
 refine ⟨_, (eV_ (g := 6) (by kernel_rfl) alive19_ok (eH_ (g := 7) (by kernel_rfl) lNew_ok (eV_ (g := 8) (by kernel_rfl) few19_ok (eH_ (g := 9) (by kernel_rfl) step_ok (eV_ (g := 17) (by kernel_rfl) told_ok (eH_ (g := 16) (by kernel_rfl) lBase_ok (eH_ (g := 18) (by kernel_rfl) rBase_ok (eH_ (g := 19) (by kernel_rfl) lSeen_ok (eH_ (g := 20) (by kernel_rfl) rSeen_ok (eV_ (g := 15) (by kernel_rfl) plBook_ok (eN_ _))))))))))), by simp [Tryz.f4], by simp [go_sem], fun w Mx pin => ?_⟩
 simp only [hB_at, lab_nil, lab_cons, hOf_nil, hOf_cons]
 refine aW_ (s' := ⟨ofL [(0, (.sl 12 (rows cOp os)))], hOf []⟩) ?_ ?_
 · cases h_os <;> exact wO_ [] (by simp [go_sem]) (by simp [go_sem]) (by simp [go_sem])
 clear h_os
 obtain ⟨L, hL⟩ : ∃ L, L = os.take 60 := ⟨_, rfl⟩
 have e6 : L.length ≤ 100000 := by rw [hL]; simp; omega
 refine aQ_ ?_
 iterate 1
  refine oC_ fun J hJ => ?_
  simp [go_sem]
  refine hJ _ _ _ ?_
 refine oN_ ?_
 refine aS_ fun K2 hK2 => ?_
 refine aQ_ ?_
 iterate 2
  refine oC_ fun J hJ => ?_
  simp [go_sem, alive19S_at]
  refine hJ _ _ _ ?_
 refine oN_ ?_
 refine aF_ rfl ?_
 refine aK_ ?_
 refine hK2 _ ?_
 refine aQ_ ?_
 iterate 5
  refine oC_ fun J hJ => ?_
  simp [go_sem, ↓lNew_S]
  refine hJ _ _ _ ?_
 refine oN_ ?_
 refine aQ_ ?_
 iterate 3
  refine oC_ fun J hJ => ?_
  simp [go_sem, few19S_at os, ← hL]
  refine hJ _ _ _ ?_
 refine oN_ ?_
 refine aS_ fun K8 hK8 => ?_
 refine aQ_ ?_
 iterate 1
  refine oC_ fun J hJ => ?_
  simp [go_sem]
  refine hJ _ _ _ ?_
 refine oN_ ?_
 refine aB_ ?_
 refine aL_ (ι := { q : List Op × List Op × LS // q.1 ++ q.2.1 = L ∧ okS q.2.2 }) (fun q => runsI L q.1.1 q.1.2.1 q.1.2.2) (fun q => q.1.2.1.length) ⟨([], L, zS), rfl, okS_z⟩ ?_ ?_
 · refine wO_ [((0, 128), some (0, 128)), ((0, 129), some (0, 129)), ((0, 130), some (0, 130)), ((0, 131), some (0, 131)), ((0, 160), some (0, 160))] (by simp [go_sem]) ?_ ?_ <;> simp [go_sem, zS_d, zS_r]
 intro ⟨⟨pre, post, s⟩, hl, hgo⟩
 simp only at hl hgo
 have hpl := lS_ hl e6
 simp only [runsI]
 refine aS_ fun K10 hK10 => ?_
 refine aQ_ ?_
 iterate 4
  refine oC_ fun J hJ => ?_
  simp [go_sem]
  refine hJ _ _ _ ?_
 refine oN_ ?_
 refine aC_ (t := _) rfl (fun c12 => ?_) (fun c12 => ?_)
 ·
  simp [go_sem] at c12
  obtain ⟨x, post, rfl, hx⟩ := mL_ hl c12
  obtain ⟨s1, hs1⟩ : ∃ s1, s1 = stS s x := ⟨_, rfl⟩
  have hst := stepS_at s x hgo
  rw [← hs1] at hst
  have ht1 : okS s1 := by rw [hs1]; exact okS_st hgo x
  refine aK_ ?_
  refine hK10 _ ?_
  refine aS_ fun K13 hK13 => ?_
  refine aB_ ?_
  refine aQ_ ?_
  iterate 14
   refine oC_ fun J hJ => ?_
   simp [go_sem, hx, ↓hst, toldS_at s1.d s1.r s1.v s1.u ht1]
   refine hJ _ _ _ ?_
  refine oN_ ?_
  refine aF_ rfl ?_
  refine aK_ ?_
  refine hK13 _ ?_
  refine aR_ ?_
  iterate 3
   refine oC_ fun J hJ => ?_
   simp [go_sem]
   refine hJ _ _ _ ?_
  refine oN_ ?_
  refine ⟨⟨(pre ++ [x], post, stS s x), by simp [← hl], by exact okS_st hgo x⟩, ?_, by simp⟩
  refine wO_ [((0, 128), some (0, 128)), ((0, 129), some (0, 400)), ((0, 130), some (0, 401)), ((0, 131), some (0, 131)), ((0, 160), some (0, 160))] (by simp [go_sem]) ?_ ?_ <;> simp [go_sem, wN_ hpl, ← hs1]
 ·
  simp [go_sem] at c12
  obtain ⟨rfl, rfl⟩ := mN_ hl c12
  have hs := okS_len hgo
  have hb1 := (bD_fair s.d).2.2
  have hb2 := (bD_fair (s.d ++ s.r)).2.2
  rw [List.length_append] at hb2
  refine aX_ ?_
  simp only [go_sem]
  refine hK8 _ ?_
  refine aQ_ ?_
  iterate 18
   refine oC_ fun J hJ => ?_
   simp [go_sem, toldS_at s.d s.r s.v s.u hgo, lBaseS_at s.d s.r s.v s.u (by omega), rBaseS_at s.d s.r (by omega), lSeenS_at s.d s.r s.v s.u (by omega), rSeenS_at s.d s.r (by omega), plBookS_at (bD s.d).1 (bD s.d).2 (bD s.d).1 (bD s.d).2 (by omega), plBookS_at (bD (s.d ++ s.r)).1 (bD (s.d ++ s.r)).2 (bD (s.d ++ s.r)).1 (bD (s.d ++ s.r)).2 (by omega), sameB_s]
   refine hJ _ _ _ ?_
  refine oN_ ?_
  refine aE_ ?_
  refine fQ_ [] ?_
  simp [go_sem, Tryz.f4]
theorem LogsRuns_walk (w : World) (a0 : Option Addr) (c0 : Nat) (L0 : List (List Int)) (h0 : L0.length ≤ c0) (m0 : c0 ≤ maxLen) (s0 : SlK w.heap.size 12 w a0 L0) :
  Calls Tryz.prog 4 #[.slice a0 L0.length c0] w fun e w' => e = .returned (.bool true) ∧ Below w.heap.size w w' := by
 obtain ⟨os0, e0, r0⟩ := slk_rows ex_Op s0 h0 m0
 refine true_walk logsRuns_ok (logsRunsS_at os0) w rfl fun i v hi => ?_
 match i, hi with
 | 0, hi => cases hi; exact r0
end Go.Proofs.YtjoaigccapegpaaGreat.AE
