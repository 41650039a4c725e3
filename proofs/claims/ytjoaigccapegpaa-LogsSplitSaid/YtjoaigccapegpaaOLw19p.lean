/-
 LogsSplit. Conditions: none; every contract names its own.
-/
import Derived.Test.YtjoaigccapegpaaOLw19r
set_option linter.constructorNameAsVariable false
namespace Go.Proofs.Ytjoaigccapegpaa.AE
open Go Go.Proofs Go.RowKit
set_option linter.unusedVariables false
set_option linter.unusedSimpArgs false
set_option maxRecDepth 100000
set_option maxHeartbeats 4000000
def spS (s : LS) (x : Op) : LS := if x.kind = 1 then addS s x.c else if x.kind = 2 then comS s x.id else comS s (headC s.r).id
theorem okS_sp {s : LS} (h : okS s) (x : Op) : okS (spS s x) := by
 unfold spS
 split
 · exact okS_add h _
 · split <;> exact okS_com h _
theorem split_seq {d r : List Chg} {v u : Vn 4} (h : LgI d r v u) {pre post : List Chg} {x : Chg} (hl : pre ++ x :: post = d ++ r) : x.id.seq = (ofRep x.id.rep pre).length + 1 := by
 have hr := h.rep x (by rw [← hl]; simp)
 obtain ⟨h1, _⟩ := h.sq x.id.rep hr.1 hr.2
 rw [← hl, ofRep_append, ofRep_cons_eq post rfl] at h1
 have := (seqs_append.1 h1).2.1
 omega
theorem split_next {pre : List Chg} {x : Chg} {v : Vn 4} (h : ∀ k : Nat, k < 4 → v.at k = ((ofRep (k : Int) pre).length : Int)) (h0 : 0 ≤ x.id.rep) (h4 : x.id.rep < 4) : ∀ k : Nat, k < 4 → (v.put x.id.rep.toNat (v.at x.id.rep.toNat + 1)).at k = ((ofRep (k : Int) (pre ++ [x])).length : Int) := by
 intro k hk
 rw [vput_at _ _ _ _ (by omega), ofRep_append]
 by_cases hr : x.id.rep = (k : Int)
 ·
  rw [if_pos (by omega), h _ (by omega), ofRep_cons_eq [] hr, List.length_append, List.length_cons, show ofRep (k : Int) [] = [] from rfl, hr]
  simp
 ·
  rw [if_neg (by omega), h k hk, ofRep_cons_ne [] hr]
  simp [ofRep]
theorem split_end {d r : List Chg} {v u q : Vn 4} (h : LgI d r v u) (hq : ∀ k : Nat, k < 4 → q.at k = ((ofRep (k : Int) (d ++ r)).length : Int)) : q = v := by
 apply Vn.ext_at
 intro i hi
 obtain ⟨_, h2⟩ := h.sq (i : Int) (by omega) (by omega)
 rw [hq i hi]
 simp only [Int.toNat_natCast] at h2
 exact h2.symm
def splitI (L pre _post : List Op) (s : LS) : St := ⟨ofL [(0, .sl 12 (rows cOp L)), (3, .ref (0, 208) 0), (4, .int .i64 pre.length)], hOf [((0, 208), .obj (cLg (.own (0, 209) s.d.length) (.own (0, 210) s.d.length) (bD s.d).1 (.sl 7 (rows cOrd (bD s.d).2)) (.bool true) (.ref (0, 211) 0) s.v s.u)), ((0, 209), .row 30 9 (rows cChg s.d) false), ((0, 210), .row 71 2 (rows cOc (oD s.d)) false), ((0, 211), .obj [.sl 9 (rows cChg s.r)])]⟩
def splitJ (s : LS) (M pre _post : List Chg) (v : Vn 4) : St := ⟨ofL [(3, .ref (0, 208) 0), (7, .ref (0, 112) 0), (8, .sl 9 (rows cChg M)), (9, .int .i64 pre.length)], hOf [((0, 112), .obj (cV v)), ((0, 208), .obj (cLg (.own (0, 209) s.d.length) (.own (0, 210) s.d.length) (bD s.d).1 (.sl 7 (rows cOrd (bD s.d).2)) (.bool true) (.ref (0, 211) 0) s.v s.u)), ((0, 209), .row 30 9 (rows cChg s.d) false), ((0, 210), .row 71 2 (rows cOc (oD s.d)) false), ((0, 211), .obj [.sl 9 (rows cChg s.r)])]⟩
structure logsSplitX where
 os : List Op
 os' : AV
 h_os : SlA 12 cOp os os'
noncomputable def logsSplitS : HSpec := mkH (ι := logsSplitX) (fun ⟨os, os', h_os⟩ => ([os'], [])) fun ⟨os, os', h_os⟩ => ⟨.bool true, [], []⟩
theorem logsSplitS_atG (os : List Op) (os' : AV) (h_os : SlA 12 cOp os os') : logsSplitS [os'] [] = some (⟨.bool true, [], []⟩) :=
 mA_ (ι := logsSplitX) (fun i j h => by obtain ⟨os, os', h_os⟩ := i; obtain ⟨os2, os'2, h_os2⟩ := j; simp [and_assoc, qB_, qI_, qO_, qC_, qE_, qK_, qR_, qV_, qP_, qOc_] at h; obtain rfl := h; obtain rfl := SlA.inj (fun x y h => cOp_inj h) h_os h_os2; rfl) ⟨os, os', h_os⟩
theorem logsSplitS_at (os : List Op) : logsSplitS [(.sl 12 (rows cOp os))] [] = some (⟨.bool true, [], []⟩) := logsSplitS_atG os _ .sl
theorem logsSplit_ok : HSound Try.prog 3 logsSplitS := by
  refine sE_ (fn := Try.f3) rfl rfl (by kernel_rfl) fun args bx hr hS => ?_
  obtain ⟨⟨os, os', h_os⟩, rfl, rfl, rfl⟩ := mO_ hS
  clear hS
  refine ⟨_, (eV_ (g := 7) (by kernel_rfl) alive19_ok (eH_ (g := 8) (by kernel_rfl) lNew_ok (eV_ (g := 9) (by kernel_rfl) few19_ok (eH_ (g := 10) (by kernel_rfl) lAdd_ok (eH_ (g := 11) (by kernel_rfl) lCom_ok (eV_ (g := 12) (by kernel_rfl) lFirst_ok (eV_ (g := 13) (by kernel_rfl) lComm_ok (eV_ (g := 14) (by kernel_rfl) lTent_ok (eV_ (g := 15) (by kernel_rfl) lKnown_ok (eN_ _)))))))))), by simp [Try.f3], by simp [go_sem], fun w Mx pin => ?_⟩
  simp only [hB_at, lab_nil, lab_cons, hOf_nil, hOf_cons]
  refine aW_ (s' := ⟨ofL [(0, (.sl 12 (rows cOp os)))], hOf []⟩) ?_ ?_
  · cases h_os <;> exact wO_ [] (by simp [go_sem]) (by simp [go_sem]) (by simp [go_sem])
  clear h_os
  obtain ⟨L, hL⟩ : ∃ L, L = os.take 60 := ⟨_, rfl⟩
  have e6 : L.length ≤ 100000 := by rw [hL]; simp; omega
  refine aQ_ ?_
  iterate 1
    refine oC_ fun J hJ => ?_
    simp [go_sem]
    refine hJ _ _ _ ?_
  refine oN_ ?_
  refine aS_ fun K2 hK2 => ?_
  refine aQ_ ?_
  iterate 2
    refine oC_ fun J hJ => ?_
    simp [go_sem, alive19S_at]
    refine hJ _ _ _ ?_
  refine oN_ ?_
  refine aF_ rfl ?_
  refine aK_ ?_
  refine hK2 _ ?_
  refine aQ_ ?_
  iterate 2
    refine oC_ fun J hJ => ?_
    simp [go_sem, ↓lNew_S]
    refine hJ _ _ _ ?_
  refine oN_ ?_
  refine aQ_ ?_
  iterate 3
    refine oC_ fun J hJ => ?_
    simp [go_sem, few19S_at os, ← hL]
    refine hJ _ _ _ ?_
  refine oN_ ?_
  refine aS_ fun K8 hK8 => ?_
  refine aQ_ ?_
  iterate 1
    refine oC_ fun J hJ => ?_
    simp [go_sem]
    refine hJ _ _ _ ?_
  refine oN_ ?_
  refine aB_ ?_
  refine aL_ (ι := { q : List Op × List Op × LS // q.1 ++ q.2.1 = L ∧ okS q.2.2 }) (fun q => splitI L q.1.1 q.1.2.1 q.1.2.2) (fun q => q.1.2.1.length) ⟨([], L, zS), rfl, okS_z⟩ ?_ ?_
  · refine wO_ [((0, 208), some (0, 208)), ((0, 209), some (0, 209)), ((0, 210), some (0, 210)), ((0, 211), some (0, 211))] (by simp [go_sem]) ?_ ?_ <;> simp [go_sem, zS_d, zS_r]
  intro ⟨⟨pre, post, s⟩, hl, hgo⟩
  simp only at hl hgo
  have hpl := lS_ hl e6
  simp only [splitI]
  refine aS_ fun K10 hK10 => ?_
  refine aQ_ ?_
  iterate 4
    refine oC_ fun J hJ => ?_
    simp [go_sem]
    refine hJ _ _ _ ?_
  refine oN_ ?_
  refine aC_ (t := _) rfl (fun c12 => ?_) (fun c12 => ?_)
  · simp [go_sem] at c12
    obtain ⟨x, post, rfl, hx⟩ := mL_ hl c12
    obtain ⟨s1, hs1⟩ : ∃ s1, s1 = spS s x := ⟨_, rfl⟩
    have hs := okS_len hgo
    refine aK_ ?_
    refine hK10 _ ?_
    refine aS_ fun K13 hK13 => ?_
    refine aB_ ?_
    refine aQ_ ?_
    iterate 6
      refine oC_ fun J hJ => ?_
      simp [go_sem, hx]
      refine hJ _ _ _ ?_
    refine oN_ ?_
    refine aC_ (t := _) rfl (fun c15 => ?_) (fun c15 => ?_)
    · simp [go_sem] at c15
      have hqq : True := trivial
      have hc := lAdd_S (s := s) (s1 := s1) (c := x.c) (by rw [hs1]; exact if_pos c15) (by omega)
      refine aR_ ?_
      iterate 7
        refine oC_ fun J hJ => ?_
        simp [go_sem, hx, cOp_tail, ↓hc]
        refine hJ _ _ _ ?_
      refine oN_ ?_
      refine hK13 _ ?_
      refine aR_ ?_
      iterate 3
        refine oC_ fun J hJ => ?_
        simp [go_sem]
        refine hJ _ _ _ ?_
      refine oN_ ?_
      first
        | (refine ⟨⟨(pre ++ [x], post, spS s x), by simp [← hl], by exact okS_sp hgo x⟩, ?_, by simp⟩
           refine wO_ [((0, 208), some (0, 208)), ((0, 209), some (0, 209)), ((0, 210), some (0, 210)), ((0, 211), some (0, 211))] (by simp [go_sem]) ?_ ?_ <;> simp [go_sem, wN_ hpl, ← hs1, hqq]; done)
        | (refine ⟨⟨(pre ++ [x], post, spS s x), by simp [← hl], by exact okS_sp hgo x⟩, ?_, by simp⟩
           refine wO_ [((0, 208), some (0, 208)), ((0, 209), some (0, 752)), ((0, 210), some (0, 753)), ((0, 211), some (0, 211))] (by simp [go_sem]) ?_ ?_ <;> simp [go_sem, wN_ hpl, ← hs1, hqq]; done)
        | (refine ⟨⟨(pre ++ [x], post, spS s x), by simp [← hl], by exact okS_sp hgo x⟩, ?_, by simp⟩
           refine wO_ [((0, 208), some (0, 208)), ((0, 209), some (0, 880)), ((0, 210), some (0, 881)), ((0, 211), some (0, 211))] (by simp [go_sem]) ?_ ?_ <;> simp [go_sem, wN_ hpl, ← hs1, hqq]; done)
    · simp [go_sem] at c15
      refine aQ_ ?_
      iterate 6
        refine oC_ fun J hJ => ?_
        simp [go_sem, hx]
        refine hJ _ _ _ ?_
      refine oN_ ?_
      refine aC_ (t := _) rfl (fun c17 => ?_) (fun c17 => ?_)
      · simp [go_sem] at c17
        have e0 : spS s x = comS s x.id := by rw [spS, if_neg c15, if_pos c17]
        cases hf : freeC s.r x.id
        · skip
          have hqq : s1 = s := by rw [hs1, e0]; exact comS_no hf
          have hc := lCom_N (s := s) (a := x.id) hf (by omega)
          refine aR_ ?_
          iterate 7
            refine oC_ fun J hJ => ?_
            simp [go_sem, hx, ↓hc]
            refine hJ _ _ _ ?_
          refine oN_ ?_
          refine hK13 _ ?_
          refine aR_ ?_
          iterate 3
            refine oC_ fun J hJ => ?_
            simp [go_sem]
            refine hJ _ _ _ ?_
          refine oN_ ?_
          first
            | (refine ⟨⟨(pre ++ [x], post, spS s x), by simp [← hl], by exact okS_sp hgo x⟩, ?_, by simp⟩
               refine wO_ [((0, 208), some (0, 208)), ((0, 209), some (0, 209)), ((0, 210), some (0, 210)), ((0, 211), some (0, 211))] (by simp [go_sem]) ?_ ?_ <;> simp [go_sem, wN_ hpl, ← hs1, hqq]; done)
            | (refine ⟨⟨(pre ++ [x], post, spS s x), by simp [← hl], by exact okS_sp hgo x⟩, ?_, by simp⟩
               refine wO_ [((0, 208), some (0, 208)), ((0, 209), some (0, 752)), ((0, 210), some (0, 753)), ((0, 211), some (0, 211))] (by simp [go_sem]) ?_ ?_ <;> simp [go_sem, wN_ hpl, ← hs1, hqq]; done)
            | (refine ⟨⟨(pre ++ [x], post, spS s x), by simp [← hl], by exact okS_sp hgo x⟩, ?_, by simp⟩
               refine wO_ [((0, 208), some (0, 208)), ((0, 209), some (0, 880)), ((0, 210), some (0, 881)), ((0, 211), some (0, 211))] (by simp [go_sem]) ?_ ?_ <;> simp [go_sem, wN_ hpl, ← hs1, hqq]; done)
        · skip
          have hqq : True := trivial
          have hc := lCom_S (s := s) (s1 := s1) (a := x.id) (by rw [hs1, e0]) hf (by omega)
          refine aR_ ?_
          iterate 7
            refine oC_ fun J hJ => ?_
            simp [go_sem, hx, ↓hc]
            refine hJ _ _ _ ?_
          refine oN_ ?_
          refine hK13 _ ?_
          refine aR_ ?_
          iterate 3
            refine oC_ fun J hJ => ?_
            simp [go_sem]
            refine hJ _ _ _ ?_
          refine oN_ ?_
          first
            | (refine ⟨⟨(pre ++ [x], post, spS s x), by simp [← hl], by exact okS_sp hgo x⟩, ?_, by simp⟩
               refine wO_ [((0, 208), some (0, 208)), ((0, 209), some (0, 209)), ((0, 210), some (0, 210)), ((0, 211), some (0, 211))] (by simp [go_sem]) ?_ ?_ <;> simp [go_sem, wN_ hpl, ← hs1, hqq]; done)
            | (refine ⟨⟨(pre ++ [x], post, spS s x), by simp [← hl], by exact okS_sp hgo x⟩, ?_, by simp⟩
               refine wO_ [((0, 208), some (0, 208)), ((0, 209), some (0, 752)), ((0, 210), some (0, 753)), ((0, 211), some (0, 211))] (by simp [go_sem]) ?_ ?_ <;> simp [go_sem, wN_ hpl, ← hs1, hqq]; done)
            | (refine ⟨⟨(pre ++ [x], post, spS s x), by simp [← hl], by exact okS_sp hgo x⟩, ?_, by simp⟩
               refine wO_ [((0, 208), some (0, 208)), ((0, 209), some (0, 880)), ((0, 210), some (0, 881)), ((0, 211), some (0, 211))] (by simp [go_sem]) ?_ ?_ <;> simp [go_sem, wN_ hpl, ← hs1, hqq]; done)
      · simp [go_sem] at c17
        have e0 : spS s x = comS s (headC s.r).id := by rw [spS, if_neg c15, if_neg c17]
        refine aQ_ ?_
        iterate 8
          refine oC_ fun J hJ => ?_
          simp [go_sem, lFirstS_at s.d s.r s.v s.u]
          refine hJ _ _ _ ?_
        refine oN_ ?_
        cases hf : freeC s.r (headC s.r).id
        · skip
          have hqq : s1 = s := by rw [hs1, e0]; exact comS_no hf
          have hc := lCom_N (s := s) (a := (headC s.r).id) hf (by omega)
          refine aR_ ?_
          iterate 3
            refine oC_ fun J hJ => ?_
            simp [go_sem, hx, ↓hc]
            refine hJ _ _ _ ?_
          refine oN_ ?_
          refine hK13 _ ?_
          refine aR_ ?_
          iterate 3
            refine oC_ fun J hJ => ?_
            simp [go_sem]
            refine hJ _ _ _ ?_
          refine oN_ ?_
          first
            | (refine ⟨⟨(pre ++ [x], post, spS s x), by simp [← hl], by exact okS_sp hgo x⟩, ?_, by simp⟩
               refine wO_ [((0, 208), some (0, 208)), ((0, 209), some (0, 209)), ((0, 210), some (0, 210)), ((0, 211), some (0, 211))] (by simp [go_sem]) ?_ ?_ <;> simp [go_sem, wN_ hpl, ← hs1, hqq]; done)
            | (refine ⟨⟨(pre ++ [x], post, spS s x), by simp [← hl], by exact okS_sp hgo x⟩, ?_, by simp⟩
               refine wO_ [((0, 208), some (0, 208)), ((0, 209), some (0, 752)), ((0, 210), some (0, 753)), ((0, 211), some (0, 211))] (by simp [go_sem]) ?_ ?_ <;> simp [go_sem, wN_ hpl, ← hs1, hqq]; done)
            | (refine ⟨⟨(pre ++ [x], post, spS s x), by simp [← hl], by exact okS_sp hgo x⟩, ?_, by simp⟩
               refine wO_ [((0, 208), some (0, 208)), ((0, 209), some (0, 880)), ((0, 210), some (0, 881)), ((0, 211), some (0, 211))] (by simp [go_sem]) ?_ ?_ <;> simp [go_sem, wN_ hpl, ← hs1, hqq]; done)
        · skip
          have hqq : True := trivial
          have hc := lCom_S (s := s) (s1 := s1) (a := (headC s.r).id) (by rw [hs1, e0]) hf (by omega)
          refine aR_ ?_
          iterate 3
            refine oC_ fun J hJ => ?_
            simp [go_sem, hx, ↓hc]
            refine hJ _ _ _ ?_
          refine oN_ ?_
          refine hK13 _ ?_
          refine aR_ ?_
          iterate 3
            refine oC_ fun J hJ => ?_
            simp [go_sem]
            refine hJ _ _ _ ?_
          refine oN_ ?_
          first
            | (refine ⟨⟨(pre ++ [x], post, spS s x), by simp [← hl], by exact okS_sp hgo x⟩, ?_, by simp⟩
               refine wO_ [((0, 208), some (0, 208)), ((0, 209), some (0, 209)), ((0, 210), some (0, 210)), ((0, 211), some (0, 211))] (by simp [go_sem]) ?_ ?_ <;> simp [go_sem, wN_ hpl, ← hs1, hqq]; done)
            | (refine ⟨⟨(pre ++ [x], post, spS s x), by simp [← hl], by exact okS_sp hgo x⟩, ?_, by simp⟩
               refine wO_ [((0, 208), some (0, 208)), ((0, 209), some (0, 752)), ((0, 210), some (0, 753)), ((0, 211), some (0, 211))] (by simp [go_sem]) ?_ ?_ <;> simp [go_sem, wN_ hpl, ← hs1, hqq]; done)
            | (refine ⟨⟨(pre ++ [x], post, spS s x), by simp [← hl], by exact okS_sp hgo x⟩, ?_, by simp⟩
               refine wO_ [((0, 208), some (0, 208)), ((0, 209), some (0, 880)), ((0, 210), some (0, 881)), ((0, 211), some (0, 211))] (by simp [go_sem]) ?_ ?_ <;> simp [go_sem, wN_ hpl, ← hs1, hqq]; done)
  · simp [go_sem] at c12
    obtain ⟨rfl, rfl⟩ := mN_ hl c12
    have hs := okS_len hgo
    have hok : LgI s.d s.r s.v s.u := hgo
    obtain ⟨M, hM⟩ : ∃ M, M = s.d ++ s.r := ⟨_, rfl⟩
    have hml : M.length = s.d.length + s.r.length := by rw [hM]; simp
    have e7 : M.length ≤ 100000 := by omega
    have hkn := lKnownS_at s.d s.r s.v s.u (by omega)
    rw [LgI.known hgo] at hkn
    have htM : List.take (s.d.length + s.r.length) M = M := by rw [← hml]; exact List.take_length
    refine aX_ ?_
    simp only [go_sem]
    refine hK8 _ ?_
    refine aQ_ ?_
    iterate 1
      refine oC_ fun J hJ => ?_
      simp [go_sem]
      refine hJ _ _ _ ?_
    refine oN_ ?_
    refine aQ_ ?_
    iterate 1
      refine oC_ fun J hJ => ?_
      simp [go_sem]
      refine hJ _ _ _ ?_
    refine oN_ ?_
    refine aQ_ ?_
    iterate 5
      refine oC_ fun J hJ => ?_
      simp [go_sem, lCommS_at s.d s.r s.v s.u (by omega), show (s.d.length) * 72 ≤ 140737488355328 by omega, show s.d.length ≤ maxLen by (simp only [maxLen]; omega)]
      refine hJ _ _ _ ?_
    refine oN_ ?_
    refine aQ_ ?_
    iterate 5
      refine oC_ fun J hJ => ?_
      simp [go_sem, lTentS_at s.d s.r s.v s.u (by omega), ← hM, show (s.d.length + s.r.length) * 72 ≤ 140737488355328 by omega, show s.d.length + s.r.length ≤ maxLen by (simp only [maxLen]; omega)]
      refine hJ _ _ _ ?_
    refine oN_ ?_
    refine aS_ fun K23 hK23 => ?_
    refine aQ_ ?_
    iterate 1
      refine oC_ fun J hJ => ?_
      simp [go_sem]
      refine hJ _ _ _ ?_
    refine oN_ ?_
    refine aB_ ?_
    refine aL_ (ι := { q : List Chg × List Chg × Vn 4 // q.1 ++ q.2.1 = M ∧ (∀ k : Nat, k < 4 → q.2.2.at k = ((ofRep (k : Int) q.1).length : Int)) }) (fun q => splitJ s M q.1.1 q.1.2.1 q.1.2.2) (fun q => q.1.2.1.length) ⟨([], M, zV 4), rfl, fun k _ => at_zV k⟩ ?_ ?_
    · refine wO_ [((0, 112), some (0, 112)), ((0, 208), some (0, 208)), ((0, 209), some (0, 209)), ((0, 210), some (0, 210)), ((0, 211), some (0, 211))] (by simp [go_sem]) ?_ ?_ <;> simp [go_sem, htM]
    intro ⟨⟨pre, post, v⟩, hl, hgo⟩
    simp only at hl hgo
    have hpl := lS_ hl e7
    simp only [splitJ]
    refine aS_ fun K25 hK25 => ?_
    refine aQ_ ?_
    iterate 4
      refine oC_ fun J hJ => ?_
      simp [go_sem]
      refine hJ _ _ _ ?_
    refine oN_ ?_
    refine aC_ (t := _) rfl (fun c27 => ?_) (fun c27 => ?_)
    · simp [go_sem] at c27
      obtain ⟨x, post, rfl, hx⟩ := mL_ hl c27
      have hr := hok.rep x (by rw [← hM, ← hl]; simp)
      obtain ⟨h0, h4⟩ := hr
      have h5 : x.id.rep.toNat < 4 := by omega
      have h6 : x.id.rep ≤ 3 := by omega
      have hn0 : ¬ x.id.rep < 0 := by omega
      have hn3 : ¬ 3 < x.id.rep := by omega
      have hv := hgo x.id.rep.toNat h5
      rw [show ((x.id.rep.toNat : Nat) : Int) = x.id.rep by omega] at hv
      have hsq := split_seq hok (hl.trans hM)
      rw [← hv] at hsq
      have hofl : (ofRep x.id.rep pre).length ≤ pre.length := List.length_filter_le _ _
      have hw : IntKind.i64.wrap (v.at x.id.rep.toNat + 1) = v.at x.id.rep.toNat + 1 := wA_ (by omega)
      refine aK_ ?_
      refine hK25 _ ?_
      refine aS_ fun K28 hK28 => ?_
      refine aB_ ?_
      refine aQ_ ?_
      iterate 7
        refine oC_ fun J hJ => ?_
        simp [go_sem, hx]
        refine hJ _ _ _ ?_
      refine oN_ ?_
      refine aS_ fun K30 hK30 => ?_
      refine aU_ ?_
      iterate 19
        refine oC_ fun J hJ => ?_
        simp [go_sem, hx, hn0, hn3, h0, h4, h5, h6, hw, hsq]
        refine hJ _ _ _ ?_
      refine oN_ ?_
      refine ⟨rfl, ?_⟩
      refine aF_ rfl ?_
      refine aK_ ?_
      refine hK30 _ ?_
      refine aR_ ?_
      iterate 7
        refine oC_ fun J hJ => ?_
        simp [go_sem, h0, h4, h5, h6, hw, cV_over]
        refine hJ _ _ _ ?_
      refine oN_ ?_
      refine hK28 _ ?_
      refine aR_ ?_
      iterate 3
        refine oC_ fun J hJ => ?_
        simp [go_sem]
        refine hJ _ _ _ ?_
      refine oN_ ?_
      refine ⟨⟨(pre ++ [x], post, v.put x.id.rep.toNat (v.at x.id.rep.toNat + 1)), by simp [← hl], by exact split_next hgo h0 h4⟩, ?_, by simp⟩
      refine wO_ [((0, 112), some (0, 112)), ((0, 208), some (0, 208)), ((0, 209), some (0, 209)), ((0, 210), some (0, 210)), ((0, 211), some (0, 211))] (by simp [go_sem]) ?_ ?_ <;> simp [go_sem, wN_ hpl]
    · simp [go_sem] at c27
      obtain ⟨rfl, rfl⟩ := mN_ hl c27
      obtain rfl : v = s.v := split_end hok (by rw [← hM]; exact hgo)
      have hm48 : (M.length : Int) ≤ 48 := by omega
      refine aX_ ?_
      simp only [go_sem]
      refine hK23 _ ?_
      refine aU_ ?_
      iterate 10
        refine oC_ fun J hJ => ?_
        simp [go_sem, ↓hkn, cV_eqvs, hm48]
        refine hJ _ _ _ ?_
      refine oN_ ?_
      refine ⟨rfl, ?_⟩
      refine aE_ ?_
      refine fQ_ [] ?_
      simp [go_sem, Try.f3]
theorem LogsSplit_walk (w : World) (a0 : Option Addr) (c0 : Nat) (L0 : List (List Int)) (h0 : L0.length ≤ c0) (m0 : c0 ≤ maxLen) (s0 : SlK w.heap.size 12 w a0 L0) :
  Calls Try.prog 3 #[.slice a0 L0.length c0] w fun e w' => e = .returned (.bool true) ∧ Below w.heap.size w w' := by
 obtain ⟨os0, e0, r0⟩ := slk_rows ex_Op s0 h0 m0
 refine true_walk logsSplit_ok (logsSplitS_at os0) w rfl fun i v hi => ?_
 match i, hi with
 | 0, hi => cases hi; exact r0
end Go.Proofs.Ytjoaigccapegpaa.AE
