/-
 LogsStay. Conditions: none; every contract names its own.
-/
import Derived.Test.YtjoaigccapegpaaGreatOLw19r
set_option linter.constructorNameAsVariable false
namespace Go.Proofs.YtjoaigccapegpaaGreat.AE
open Go Go.Proofs Go.RowKit
set_option linter.unusedVariables false
set_option linter.unusedSimpArgs false
set_option maxRecDepth 100000
set_option maxHeartbeats 4000000
def stayI (A B pre _post : List Op) (s : LS) : St := ⟨ofL [(0, .sl 12 (rows cOp A)), (1, .sl 12 (rows cOp B)), (5, .ref (0, 336) 0), (6, .ref (0, 368) 0), (7, .int .i64 pre.length)], hOf [((0, 336), .obj (cLg (.own (0, 337) s.d.length) (.own (0, 338) s.d.length) (bD s.d).1 (.sl 7 (rows cOrd (bD s.d).2)) (.bool true) (.ref (0, 339) 0) s.v s.u)), ((0, 337), .row 35 9 (rows cChg s.d) false), ((0, 338), .row 50 2 (rows cOc (oD s.d)) false), ((0, 339), .obj [.sl 9 (rows cChg s.r)]), ((0, 368), .obj [.sl 9 (rows cChg (s.d)), .sl 9 (rows cChg (s.r))])]⟩
def stayJ (D : List Chg) (B pre _post : List Op) (s : LS) : St := ⟨ofL [(1, .sl 12 (rows cOp B)), (5, .ref (0, 336) 0), (6, .ref (0, 368) 0), (8, .sl 9 (rows cChg D)), (10, .sl 2 (rows cOc (oD D))), (11, .int .i64 pre.length)], hOf [((0, 336), .obj (cLg (.own (0, 337) s.d.length) (.own (0, 338) s.d.length) (bD s.d).1 (.sl 7 (rows cOrd (bD s.d).2)) (.bool true) (.ref (0, 339) 0) s.v s.u)), ((0, 337), .row 35 9 (rows cChg s.d) false), ((0, 338), .row 50 2 (rows cOc (oD s.d)) false), ((0, 339), .obj [.sl 9 (rows cChg s.r)]), ((0, 368), .obj [.sl 9 (rows cChg (s.d)), .sl 9 (rows cChg (s.r))])]⟩
def stayK (s : LS) (D pre _post : List Chg) : St := ⟨ofL [(5, .ref (0, 336) 0), (8, .sl 9 (rows cChg D)), (10, .sl 2 (rows cOc (oD D))), (12, .sl 9 (rows cChg s.d)), (13, .int .i64 pre.length)], hOf [((0, 336), .obj (cLg (.own (0, 337) s.d.length) (.own (0, 338) s.d.length) (bD s.d).1 (.sl 7 (rows cOrd (bD s.d).2)) (.bool true) (.ref (0, 339) 0) s.v s.u)), ((0, 337), .row 35 9 (rows cChg s.d) false), ((0, 338), .row 50 2 (rows cOc (oD s.d)) false), ((0, 339), .obj [.sl 9 (rows cChg s.r)])]⟩
structure logsStayX where
 os : List Op
 os' : AV
 qs : List Op
 qs' : AV
 h_os : SlA 12 cOp os os'
 h_qs : SlA 12 cOp qs qs'
noncomputable def logsStayS : HSpec := mkH (ι := logsStayX) (fun ⟨os, os', qs, qs', h_os, h_qs⟩ => ([os', qs'], [])) fun ⟨os, os', qs, qs', h_os, h_qs⟩ => ⟨.bool true, [], []⟩
theorem logsStayS_atG (os : List Op) (os' : AV) (qs : List Op) (qs' : AV) (h_os : SlA 12 cOp os os') (h_qs : SlA 12 cOp qs qs') : logsStayS [os', qs'] [] = some (⟨.bool true, [], []⟩) :=
 mA_ (ι := logsStayX) (fun i j h => by obtain ⟨os, os', qs, qs', h_os, h_qs⟩ := i; obtain ⟨os2, os'2, qs2, qs'2, h_os2, h_qs2⟩ := j; simp [and_assoc, qB_, qI_, qO_, qC_, qE_, qK_, qR_, qV_, qP_, qOc_] at h; obtain ⟨rfl, rfl⟩ := h; obtain rfl := SlA.inj (fun x y h => cOp_inj h) h_os h_os2; obtain rfl := SlA.inj (fun x y h => cOp_inj h) h_qs h_qs2; rfl) ⟨os, os', qs, qs', h_os, h_qs⟩
theorem logsStayS_at (os : List Op) (qs : List Op) : logsStayS [(.sl 12 (rows cOp os)), (.sl 12 (rows cOp qs))] [] = some (⟨.bool true, [], []⟩) := logsStayS_atG os _ qs _ .sl .sl
theorem logsStay_ok : HSound Tryz.prog 3 logsStayS := by
 refine sE_ (fn := Tryz.f3) rfl rfl (by kernel_rfl) fun args bx hr hS => ?_
 obtain ⟨⟨os, os', qs, qs', h_os, h_qs⟩, rfl, rfl, rfl⟩ := mO_ hS
 clear hS
 refine ⟨_, (eV_ (g := 6) (by kernel_rfl) alive19_ok (eH_ (g := 7) (by kernel_rfl) lNew_ok (eV_ (g := 8) (by kernel_rfl) few19_ok (eH_ (g := 9) (by kernel_rfl) step_ok (eV_ (g := 10) (by kernel_rfl) lComm_ok (eV_ (g := 11) (by kernel_rfl) runR_ok (eV_ (g := 12) (by kernel_rfl) plChg_ok (eH_ (g := 13) (by kernel_rfl) lOut_ok (eV_ (g := 14) (by kernel_rfl) plOcB_ok (eH_ (g := 16) (by kernel_rfl) lBase_ok (eV_ (g := 15) (by kernel_rfl) plBook_ok (eN_ _)))))))))))), by simp [Tryz.f3], by simp [go_sem], fun w Mx pin => ?_⟩
 simp only [hB_at, lab_nil, lab_cons, hOf_nil, hOf_cons]
 refine aW_ (s' := ⟨ofL [(0, (.sl 12 (rows cOp os))), (1, (.sl 12 (rows cOp qs)))], hOf []⟩) ?_ ?_
 · cases h_os <;> cases h_qs <;> exact wO_ [] (by simp [go_sem]) (by simp [go_sem]) (by simp [go_sem])
 clear h_os h_qs
 obtain ⟨A, hA⟩ : ∃ L, L = os.take 60 := ⟨_, rfl⟩
 obtain ⟨B, hB⟩ : ∃ L, L = qs.take 60 := ⟨_, rfl⟩
 have e6 : A.length ≤ 100000 := by rw [hA]; simp; omega
 have e7 : B.length ≤ 100000 := by rw [hB]; simp; omega
 obtain ⟨s1, hs1⟩ : ∃ s1, s1 = runS zS A := ⟨_, rfl⟩
 refine aQ_ ?_
 iterate 1
  refine oC_ fun J hJ => ?_
  simp [go_sem]
  refine hJ _ _ _ ?_
 refine oN_ ?_
 refine aS_ fun K2 hK2 => ?_
 refine aQ_ ?_
 iterate 2
  refine oC_ fun J hJ => ?_
  simp [go_sem, alive19S_at]
  refine hJ _ _ _ ?_
 refine oN_ ?_
 refine aF_ rfl ?_
 refine aK_ ?_
 refine hK2 _ ?_
 refine aQ_ ?_
 iterate 5
  refine oC_ fun J hJ => ?_
  simp [go_sem, ↓lNew_S]
  refine hJ _ _ _ ?_
 refine oN_ ?_
 refine aQ_ ?_
 iterate 6
  refine oC_ fun J hJ => ?_
  simp [go_sem, few19S_at os, few19S_at qs, ← hA, ← hB]
  refine hJ _ _ _ ?_
 refine oN_ ?_
 refine aS_ fun K8 hK8 => ?_
 refine aQ_ ?_
 iterate 1
  refine oC_ fun J hJ => ?_
  simp [go_sem]
  refine hJ _ _ _ ?_
 refine oN_ ?_
 refine aB_ ?_
 refine aL_ (ι := { q : List Op × List Op × LS // q.1 ++ q.2.1 = A ∧ (okS q.2.2 ∧ runS q.2.2 q.2.1 = s1) }) (fun q => stayI A B q.1.1 q.1.2.1 q.1.2.2) (fun q => q.1.2.1.length) ⟨([], A, zS), rfl, ⟨okS_z, hs1.symm⟩⟩ ?_ ?_
 · refine wO_ [((0, 336), some (0, 336)), ((0, 337), some (0, 337)), ((0, 338), some (0, 338)), ((0, 339), some (0, 339)), ((0, 368), some (0, 368))] (by simp [go_sem]) ?_ ?_ <;> simp [go_sem, zS_d, zS_r]
 intro ⟨⟨pre, post, s⟩, hl, hgo⟩
 simp only at hl hgo
 have hpl := lS_ hl e6
 simp only [stayI]
 refine aS_ fun K10 hK10 => ?_
 refine aQ_ ?_
 iterate 4
  refine oC_ fun J hJ => ?_
  simp [go_sem]
  refine hJ _ _ _ ?_
 refine oN_ ?_
 refine aC_ (t := _) rfl (fun c12 => ?_) (fun c12 => ?_)
 ·
  simp [go_sem] at c12
  obtain ⟨x, post, rfl, hx⟩ := mL_ hl c12
  obtain ⟨s2, hs2⟩ : ∃ s2, s2 = stS s x := ⟨_, rfl⟩
  have hst := stepS_at s x hgo.1
  rw [← hs2] at hst
  refine aK_ ?_
  refine hK10 _ ?_
  refine aS_ fun K13 hK13 => ?_
  refine aB_ ?_
  refine aQ_ ?_
  iterate 8
   refine oC_ fun J hJ => ?_
   simp [go_sem, hx, ↓hst]
   refine hJ _ _ _ ?_
  refine oN_ ?_
  refine aF_ rfl ?_
  refine aK_ ?_
  refine hK13 _ ?_
  refine aR_ ?_
  iterate 3
   refine oC_ fun J hJ => ?_
   simp [go_sem]
   refine hJ _ _ _ ?_
  refine oN_ ?_
  refine ⟨⟨(pre ++ [x], post, stS s x), by simp [← hl], by exact ⟨okS_st hgo.1 x, hgo.2⟩⟩, ?_, by simp⟩
  refine wO_ [((0, 336), some (0, 336)), ((0, 337), some (0, 640)), ((0, 338), some (0, 641)), ((0, 339), some (0, 339)), ((0, 368), some (0, 368))] (by simp [go_sem]) ?_ ?_ <;> simp [go_sem, wN_ hpl, ← hs2]
 ·
  simp [go_sem] at c12
  obtain ⟨rfl, rfl⟩ := mN_ hl c12
  obtain ⟨hok, -⟩ := hgo
  have hs := okS_len hok
  have htD : List.take s.d.length (oD s.d) = oD s.d := by rw [← oD_len s.d]; exact List.take_length
  refine aX_ ?_
  simp only [go_sem]
  refine hK8 _ ?_
  refine aQ_ ?_
  iterate 3
   refine oC_ fun J hJ => ?_
   simp [go_sem, lCommS_at s.d s.r s.v s.u (by omega)]
   refine hJ _ _ _ ?_
  refine oN_ ?_
  refine aS_ fun K18 hK18 => ?_
  refine awp_regionW ?_
  refine opsW_cons fun J hJ => ?_
  simp [go_sem, ↓runRZ_bD s.d (by omega)]
  refine hJ _ _ _ ?_
  refine opsW_cons fun J hJ => ?_
  simp [go_sem, ↓runRZ_bD s.d (by omega)]
  refine hJ _ _ _ ?_
  refine opsW_frz (e := 35) (sz := 9) (L := rows cChg s.d) (z := false) (0, 688) (by simp [go_sem]) ?_
  refine opsW_cons fun J hJ => ?_
  simp [go_sem, ↓runRZ_bD s.d (by omega)]
  refine hJ _ _ _ ?_
  refine opsW_cons fun J hJ => ?_
  simp [go_sem, ↓runRZ_bD s.d (by omega)]
  refine hJ _ _ _ ?_
  refine opsW_cons fun J hJ => ?_
  simp [go_sem, ↓runRZ_bD s.d (by omega)]
  refine hJ _ _ _ ?_
  refine opsW_cons fun J hJ => ?_
  simp [go_sem, ↓runRZ_bD s.d (by omega)]
  refine hJ _ _ _ ?_
  refine opsW_cons fun J hJ => ?_
  simp [go_sem, ↓runRZ_bD s.d (by omega)]
  refine hJ _ _ _ ?_
  refine opsW_cons fun J hJ => ?_
  simp [go_sem, ↓runRZ_bD s.d (by omega)]
  refine hJ _ _ _ ?_
  refine opsW_cons fun J hJ => ?_
  simp [go_sem, ↓runRZ_bD s.d (by omega)]
  refine hJ _ _ _ ?_
  refine opsW_nil ?_
  refine hK18 _ ?_
  refine aS_ fun K19 hK19 => ?_
  refine aQ_ ?_
  iterate 1
   refine oC_ fun J hJ => ?_
   simp [go_sem]
   refine hJ _ _ _ ?_
  refine oN_ ?_
  refine aB_ ?_
  refine aL_ (ι := { q : List Op × List Op × LS // q.1 ++ q.2.1 = B ∧ (okS q.2.2 ∧ ∃ e, q.2.2.d = s.d ++ e) }) (fun q => stayJ s.d B q.1.1 q.1.2.1 q.1.2.2) (fun q => q.1.2.1.length) ⟨([], B, s), rfl, ⟨hok, [], by simp⟩⟩ ?_ ?_
  · refine wO_ [((0, 336), some (0, 336)), ((0, 337), some (0, 337)), ((0, 338), some (0, 338)), ((0, 339), some (0, 339)), ((0, 368), some (0, 368))] (by simp [go_sem]) ?_ ?_ <;> simp [go_sem, htD]
  intro ⟨⟨pre, post, t⟩, hl, hgo⟩
  simp only at hl hgo
  have hpl := lS_ hl e7
  simp only [stayJ]
  refine aS_ fun K21 hK21 => ?_
  refine aQ_ ?_
  iterate 4
   refine oC_ fun J hJ => ?_
   simp [go_sem]
   refine hJ _ _ _ ?_
  refine oN_ ?_
  refine aC_ (t := _) rfl (fun c23 => ?_) (fun c23 => ?_)
  ·
   simp [go_sem] at c23
   obtain ⟨x, post, rfl, hx⟩ := mL_ hl c23
   obtain ⟨s2, hs2⟩ : ∃ s2, s2 = stS t x := ⟨_, rfl⟩
   have hst := stepS_at t x hgo.1
   rw [← hs2] at hst
   refine aK_ ?_
   refine hK21 _ ?_
   refine aS_ fun K24 hK24 => ?_
   refine aB_ ?_
   refine aQ_ ?_
   iterate 8
    refine oC_ fun J hJ => ?_
    simp [go_sem, hx, ↓hst]
    refine hJ _ _ _ ?_
   refine oN_ ?_
   refine aF_ rfl ?_
   refine aK_ ?_
   refine hK24 _ ?_
   refine aR_ ?_
   iterate 3
    refine oC_ fun J hJ => ?_
    simp [go_sem]
    refine hJ _ _ _ ?_
   refine oN_ ?_
   refine ⟨⟨(pre ++ [x], post, stS t x), by simp [← hl], by exact ⟨okS_st hgo.1 x, by obtain ⟨e, he⟩ := hgo.2; obtain ⟨f, hf⟩ := stS_pre t x; exact ⟨e ++ f, by rw [hf, he, List.append_assoc]⟩⟩⟩, ?_, by simp⟩
   refine wO_ [((0, 336), some (0, 336)), ((0, 337), some (0, 992)), ((0, 338), some (0, 993)), ((0, 339), some (0, 339)), ((0, 368), some (0, 368))] (by simp [go_sem]) ?_ ?_ <;> simp [go_sem, wN_ hpl, ← hs2]
  ·
   simp [go_sem] at c23
   obtain ⟨rfl, rfl⟩ := mN_ hl c23
   obtain ⟨hot, e, he⟩ := hgo
   have hts := okS_len hot
   obtain ⟨D, hD⟩ : ∃ D, D = s.d := ⟨_, rfl⟩
   rw [← hD] at he hs htD
   simp only [← hD]
   have hdl : t.d.length = D.length + e.length := by rw [he]; simp
   have htk : List.take D.length t.d = D := by rw [he]; exact List.take_left
   have hnl : ¬ t.d.length < D.length := by omega
   have hle : D.length ≤ t.d.length := by omega
   have eD : D.length ≤ 100000 := by omega
   refine aX_ ?_
   simp only [go_sem]
   refine hK19 _ ?_
   refine aQ_ ?_
   iterate 3
    refine oC_ fun J hJ => ?_
    simp [go_sem, lCommS_at t.d t.r t.v t.u (by omega)]
    refine hJ _ _ _ ?_
   refine oN_ ?_
   refine aS_ fun K29 hK29 => ?_
   refine aQ_ ?_
   iterate 14
    refine oC_ fun J hJ => ?_
    simp [go_sem, hnl, hle, htk, plChgS_at D D (by omega)]
    refine hJ _ _ _ ?_
   refine oN_ ?_
   refine aF_ rfl ?_
   refine aK_ ?_
   refine hK29 _ ?_
   refine aS_ fun K33 hK33 => ?_
   refine aQ_ ?_
   iterate 1
    refine oC_ fun J hJ => ?_
    simp [go_sem]
    refine hJ _ _ _ ?_
   refine oN_ ?_
   refine aB_ ?_
   refine aL_ (ι := { q : List Chg × List Chg // q.1 ++ q.2 = D ∧ True }) (fun q => stayK t D q.1.1 q.1.2) (fun q => q.1.2.length) ⟨([], D), rfl, trivial⟩ ?_ ?_
   · refine wO_ [((0, 336), some (0, 336)), ((0, 337), some (0, 337)), ((0, 338), some (0, 338)), ((0, 339), some (0, 339))] (by simp [go_sem]) ?_ ?_ <;> simp [go_sem]
   intro ⟨⟨pre, post⟩, hl, hgo⟩
   simp only at hl hgo
   have hpl := lS_ hl eD
   simp only [stayK]
   refine aS_ fun K35 hK35 => ?_
   refine aQ_ ?_
   iterate 4
    refine oC_ fun J hJ => ?_
    simp [go_sem]
    refine hJ _ _ _ ?_
   refine oN_ ?_
   refine aC_ (t := _) rfl (fun c37 => ?_) (fun c37 => ?_)
   ·
    simp [go_sem] at c37
    obtain ⟨x, post, rfl, hx⟩ := mL_ hl c37
    have hkd : pre.length < D.length := (List.getElem?_eq_some_iff.1 hx).1
    have hxt : t.d[pre.length]? = some x := by rw [he, List.getElem?_append_left hkd]; exact hx
    obtain ⟨q1, q2, q3⟩ := out_at hot (by omega) hxt
    have hk2 : pre.length < (oD D).length := by rw [oD_len]; exact hkd
    obtain ⟨oc, hoc⟩ : ∃ oc, (oD D)[pre.length]? = some oc := ⟨_, List.getElem?_eq_getElem hk2⟩
    rw [he, oD_left hkd, hoc, Option.getD_some, ← he] at q1
    have ho := lOutS_at t.d t.r t.v t.u x.id (by omega)
    rw [q1, q2, q3] at ho
    have hob := outG_big t.d t.r x.id
    rw [q1] at hob
    refine aK_ ?_
    refine hK35 _ ?_
    refine aS_ fun K38 hK38 => ?_
    refine aB_ ?_
    refine aQ_ ?_
    iterate 15
     refine oC_ fun J hJ => ?_
     simp [go_sem, ↓hx, hx, ↓ho]
     refine hJ _ _ _ ?_
    refine oN_ ?_
    refine aU_ ?_
    iterate 15
     refine oC_ fun J hJ => ?_
     simp [go_sem, hkd, ↓hoc, hoc, hk2, plOcBS_at oc oc hob]
     refine hJ _ _ _ ?_
    refine oN_ ?_
    refine ⟨rfl, ?_⟩
    refine aF_ rfl ?_
    refine aK_ ?_
    refine hK38 _ ?_
    refine aR_ ?_
    iterate 3
     refine oC_ fun J hJ => ?_
     simp [go_sem]
     refine hJ _ _ _ ?_
    refine oN_ ?_
    refine ⟨⟨(pre ++ [x], post), by simp [← hl], by exact trivial⟩, ?_, by simp⟩
    refine wO_ [((0, 336), some (0, 336)), ((0, 337), some (0, 337)), ((0, 338), some (0, 338)), ((0, 339), some (0, 339))] (by simp [go_sem]) ?_ ?_ <;> simp [go_sem, wN_ hpl]
   ·
    simp [go_sem] at c37
    obtain ⟨rfl, rfl⟩ := mN_ hl c37
    have hb1 := (bD_fair t.d).2.2
    refine aX_ ?_
    simp only [go_sem]
    refine hK33 _ ?_
    refine aQ_ ?_
    iterate 9
     refine oC_ fun J hJ => ?_
     simp [go_sem, ↓runRZ_bD t.d (by omega)]
     refine hJ _ _ _ ?_
    refine oN_ ?_
    refine aU_ ?_
    iterate 5
     refine oC_ fun J hJ => ?_
     simp [go_sem, lBaseS_at t.d t.r t.v t.u (by omega), plBookS_at (bD t.d).1 (bD t.d).2 (bD t.d).1 (bD t.d).2 (by omega), sameB_s]
     refine hJ _ _ _ ?_
    refine oN_ ?_
    refine ⟨rfl, ?_⟩
    refine aE_ ?_
    refine fQ_ [] ?_
    simp [go_sem, Tryz.f3]
theorem LogsStay_walk (w : World) (a0 : Option Addr) (c0 : Nat) (L0 : List (List Int)) (h0 : L0.length ≤ c0) (m0 : c0 ≤ maxLen) (s0 : SlK w.heap.size 12 w a0 L0) (a1 : Option Addr) (c1 : Nat) (L1 : List (List Int)) (h1 : L1.length ≤ c1) (m1 : c1 ≤ maxLen) (s1 : SlK w.heap.size 12 w a1 L1) :
  Calls Tryz.prog 3 #[.slice a0 L0.length c0, .slice a1 L1.length c1] w fun e w' => e = .returned (.bool true) ∧ Below w.heap.size w w' := by
 obtain ⟨os0, e0, r0⟩ := slk_rows ex_Op s0 h0 m0
 obtain ⟨os1, e1, r1⟩ := slk_rows ex_Op s1 h1 m1
 refine true_walk logsStay_ok (logsStayS_at os0 os1) w rfl fun i v hi => ?_
 match i, hi with
 | 0, hi => cases hi; exact r0
 | 1, hi => cases hi; exact r1
end Go.Proofs.YtjoaigccapegpaaGreat.AE
