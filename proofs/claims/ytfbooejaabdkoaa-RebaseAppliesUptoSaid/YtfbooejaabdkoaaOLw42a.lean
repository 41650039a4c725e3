/-
 RebaseApplies. Conditions: none; every contract names its own.
-/
import Derived.Test.YtfbooejaabdkoaaORb4
import Derived.Test.YtfbooejaabdkoaaOOp
set_option linter.constructorNameAsVariable false
namespace Go.Proofs.Ytfbooejaabdkoaa.AE
open Go Go.Proofs Go.RowKit
set_option linter.unusedVariables false
set_option linter.unusedSimpArgs false
set_option maxRecDepth 100000
set_option maxHeartbeats 4000000
theorem cc4 (a b : List Eff) (n : Nat) (hn : n ≤ commonL a b) (hst : n = commonL a b ↔ ¬ (n < a.length ∧ n < b.length ∧ a[n]? = b[n]?)) : (∃ x, n < a.length ∧ n < b.length ∧ a[n]? = some x ∧ b[n]? = some x ∧ n + 1 ≤ commonL a b) ∨ (∃ x y, n < a.length ∧ n < b.length ∧ a[n]? = some x ∧ b[n]? = some y ∧ x ≠ y ∧ commonL a b = n) ∨ (n < a.length ∧ ¬ n < b.length ∧ commonL a b = n) ∨ (¬ n < a.length ∧ commonL a b = n) := by
 rcases common_cases a b n hn hst with h | h | ⟨h, hc⟩
 · exact .inl h
 · exact .inr (.inl h)
 ·
  by_cases h1 : n < a.length
  · exact .inr (.inr (.inl ⟨h1, fun h2 => h ⟨h1, h2⟩, hc⟩))
  · exact .inr (.inr (.inr ⟨h1, hc⟩))
theorem undo_at (s : Shf) {i : Nat} (h : i < (undoL s).length) : (undoL s).length = (wantE s.old false).length - sidesN s ∧ (wantE s.old false).length - 1 - i < (wantE s.old false).length ∧ (undoL s)[i]? = (wantE s.old false)[(wantE s.old false).length - 1 - i]? := by
 have hl : (undoL s).length = (wantE s.old false).length - sidesN s := by simp [undoL]
 refine ⟨hl, by omega, ?_⟩
 unfold undoL
 rw [List.getElem?_reverse (by simp; omega), List.getElem?_drop]
 congr 1
 simp
 omega
theorem eC (l : List Eff) (s : Shf) : (∃ k : Nat, l.length = k + (undoL s).length ∧ l.drop k = (wantE s.old false).drop (sidesN s) ∧ endsB l s = true) ∨ (∃ k : Nat, l.length = k + (undoL s).length ∧ l.drop k ≠ (wantE s.old false).drop (sidesN s) ∧ endsB l s = false) ∨ (l.length < (undoL s).length ∧ endsB l s = false) := by
 have hl : (undoL s).length = ((wantE s.old false).drop (sidesN s)).length := by simp [undoL]
 unfold endsB
 by_cases h : ((wantE s.old false).drop (sidesN s)).length ≤ l.length
 ·
  by_cases h2 : l.drop (l.length - ((wantE s.old false).drop (sidesN s)).length) = (wantE s.old false).drop (sidesN s)
  · exact .inl ⟨_, by omega, h2, by simp only [h, h2, decide_true, Bool.and_self]⟩
  · exact .inr (.inl ⟨_, by omega, h2, by simp only [h, h2, decide_true, decide_false, Bool.and_false]⟩)
 · exact .inr (.inr ⟨by omega, by simp only [h, decide_false, Bool.false_and]⟩)
def raI (u v0 : List Eff) (s : Shf) (n : Nat) : St := ⟨ofL [(1, .sl 5 (rows cEff u)), (2, .sl 5 (rows cEff v0)), (3, .ref (0, 48) 0), (7, .own (0, 998) (wantE s.old false).length), (8, .own (0, 999) (wantE s.new false).length), (9, .int .i64 n)], hOf [((0, 48), .obj (cShf s)), ((0, 998), .row 50 5 (rows cEff (wantE s.old false)) false), ((0, 999), .row 50 5 (rows cEff (wantE s.new false)) false)]⟩
def raJ (u v0 : List Eff) (s : Shf) (i : Nat) : St := ⟨ofL [(1, .sl 5 (rows cEff u)), (2, .sl 5 (rows cEff v0)), (3, .ref (0, 48) 0), (7, .sl 5 (rows cEff (wantE s.old false))), (8, .sl 5 (rows cEff (wantE s.new false))), (9, .int .i64 (sidesN s)), (10, .sl 5 (rows cEff (undoL s))), (12, .int .i64 i)], hOf [((0, 48), .obj (cShf s))]⟩
@[go_sem] theorem cEff_nil_flat : (rows cEff ([] : List Eff)) = [] := rfl
structure rebaseAppliesX where
 s : Shf
 u : List Eff
 u' : AV
 v0 : List Eff
 v0' : AV
 hu0 : SlA 5 cEff u u'
 hv0 : SlA 5 cEff v0 v0'
 hL : s.old.effs.length ≤ 1100000 ∧ s.new.effs.length ≤ 1100000 ∧ u.length ≤ 1100000 ∧ v0.length ≤ 1100000
noncomputable def rebaseAppliesS : HSpec := mkH (ι := rebaseAppliesX) (fun ⟨s, u, u', v0, v0', hu0, hv0, hL⟩ => ([.agg (cShf s), u', v0'], [])) fun ⟨s, u, u', v0, v0', hu0, hv0, hL⟩ => ⟨.bool true, [], []⟩
theorem rebaseAppliesS_atG (s : Shf) (u : List Eff) (u' : AV) (v0 : List Eff) (v0' : AV) (hu0 : SlA 5 cEff u u') (hv0 : SlA 5 cEff v0 v0') (hL : s.old.effs.length ≤ 1100000 ∧ s.new.effs.length ≤ 1100000 ∧ u.length ≤ 1100000 ∧ v0.length ≤ 1100000) : rebaseAppliesS [.agg (cShf s), u', v0'] [] = some (⟨.bool true, [], []⟩) :=
 mA_ (ι := rebaseAppliesX) (fun i j h => by obtain ⟨s, u, u', v0, v0', hu0, hv0, hL⟩ := i; obtain ⟨s2, below2, u'2, other2, v0'2, h_below2, h_other2, hL2⟩ := j; simp [and_assoc, qB_, qI_, qO_, qC_, qE_, qK_, qR_, qV_, qP_, qOc_, cShf_eq_iff] at h; obtain ⟨rfl, rfl, rfl⟩ := h; obtain rfl := SlA.inj (fun x y h => cEff_inj h) hu0 h_below2; obtain rfl := SlA.inj (fun x y h => cEff_inj h) hv0 h_other2; rfl) ⟨s, u, u', v0, v0', hu0, hv0, hL⟩
theorem rebaseAppliesS_at (s : Shf) (u : List Eff) (v0 : List Eff) (hL : s.old.effs.length ≤ 1100000 ∧ s.new.effs.length ≤ 1100000 ∧ u.length ≤ 1100000 ∧ v0.length ≤ 1100000) : rebaseAppliesS [.agg (cShf s), (.sl 5 (rows cEff u)), (.sl 5 (rows cEff v0))] [] = some (⟨.bool true, [], []⟩) := rebaseAppliesS_atG s u _ v0 _ .sl .sl hL
theorem rebaseApplies_ok : HSound Try.prog 4 rebaseAppliesS := by
 refine sE_ (fn := Try.f4) rfl rfl (by kernel_rfl) fun args bx hr hS => ?_
 obtain ⟨⟨s, u, u', v0, v0', hu0, hv0, hL⟩, rfl, rfl, rfl⟩ := mO_ hS
 clear hS
 refine ⟨_, (eH_ (g := 9) (by kernel_rfl) alive42_ok (eH_ (g := 16) (by kernel_rfl) wantR_ok (eV_ (g := 17) (by kernel_rfl) undo_ok (eV_ (g := 18) (by kernel_rfl) redo_ok (eV_ (g := 19) (by kernel_rfl) plEffB_ok (eV_ (g := 20) (by kernel_rfl) apply_ok (eN_ _))))))), by simp [Try.f4], by simp [go_sem], fun w Mx pin => ?_⟩
 simp only [hB_at, lab_nil, lab_cons, hOf_nil, hOf_cons]
 refine aW_ (s' := ⟨ofL [(0, .agg (cShf s)), (1, (.sl 5 (rows cEff u))), (2, (.sl 5 (rows cEff v0)))], hOf []⟩) ?_ ?_
 · cases hu0 <;> cases hv0 <;> exact wO_ [] (by simp [go_sem]) (by simp [go_sem]) (by simp [go_sem])
 clear hu0 hv0
 obtain ⟨ho1, ho2, hbl, hot⟩ := hL
 have hs : s.old.effs.length ≤ 1100000 ∧ s.new.effs.length ≤ 1100000 := ⟨ho1, ho2⟩
 have hwa := wantF_len s.old
 have hwb := wantF_len s.new
 have hsa := (sidesN_le s).1
 have hsb := (sidesN_le s).2
 have hul : (undoL s).length = (wantE s.old false).length - sidesN s := by simp [undoL]
 have hrl := redo_len s
 have hw8 : IntKind.i64.wrap (((wantE s.old false).length : Int) - (sidesN s : Int)) = ((undoL s).length : Int) := by rw [show ((wantE s.old false).length : Int) - (sidesN s : Int) = ((undoL s).length : Int) by omega]; exact wA_ (by omega)
 have hrd : List.drop (sidesN s) (wantE s.new false) = redoL s := rfl
 obtain ⟨D, hD⟩ : ∃ D, D = List.drop (sidesN s) (wantE s.old false) := ⟨_, rfl⟩
 have hap := apply_below u s
 have hsm := applyS_at (u ++ wantE s.old false) s ⟨by simp; omega, ho1, ho2⟩
 rw [hap] at hsm
 obtain ⟨ha2, ha1⟩ := apply_ends v0 s
 have hsl0 : (u ++ wantE s.old false).length = u.length + (wantE s.old false).length := by simp
 have hsl1 : (u ++ wantE s.new false).length = u.length + (wantE s.new false).length := by simp
 refine aQ_ ?_
 iterate 2
  refine oC_ fun J hJ => ?_
  simp [go_sem]
  refine hJ _ _ _ ?_
 refine oN_ ?_
 refine aS_ fun K2 hK2 => ?_
 refine aQ_ ?_
 iterate 2
  refine oC_ fun J hJ => ?_
  simp [go_sem, alive42S_at]
  refine hJ _ _ _ ?_
 refine oN_ ?_
 refine aF_ rfl ?_
 refine aK_ ?_
 refine hK2 _ ?_
 refine aU_ ?_
 iterate 8
  refine oC_ fun J hJ => ?_
  simp [go_sem, wantRS_at s.old false ho1, wantRS_at s.new false ho2]
  refine hJ _ _ _ ?_
 refine oN_ ?_
 refine ⟨rfl, ?_⟩
 refine aQ_ ?_
 iterate 1
  refine oC_ fun J hJ => ?_
  simp [go_sem]
  refine hJ _ _ _ ?_
 refine oN_ ?_
 refine aS_ fun K8 hK8 => ?_
 have jK8 : ∀ s2 : St, Weak ⟨Try.prog, w, Mx, Try.f4.ntmps, pin, [], true⟩ ⟨ofL [(1, .sl 5 (rows cEff u)), (2, .sl 5 (rows cEff v0)), (3, .ref (0, 48) 0), (7, .sl 5 (rows cEff (wantE s.old false))), (8, .sl 5 (rows cEff (wantE s.new false))), (9, .int .i64 (sidesN s))], hOf [((0, 48), .obj (cShf s))]⟩ s2 → K8 s2 := by
  intro s2 hw
  refine hK8 s2 (aW_ hw ?_)
  refine aU_ ?_
  iterate 6
   refine oC_ fun J hJ => ?_
   simp [go_sem, undoS_at s hs, redoS_at s hs]
   refine hJ _ _ _ ?_
  refine oN_ ?_
  refine ⟨rfl, ?_⟩
  refine aS_ fun K13 hK13 => ?_
  refine aQ_ ?_
  iterate 15
   refine oC_ fun J hJ => ?_
   simp [go_sem, hw8, hsb, hrd, plEffBS_at (redoL s) (redoL s) (by omega)]
   refine hJ _ _ _ ?_
  refine oN_ ?_
  refine aF_ rfl ?_
  refine aK_ ?_
  refine hK13 _ ?_
  refine aS_ fun K17 hK17 => ?_
  refine aQ_ ?_
  iterate 1
   refine oC_ fun J hJ => ?_
   simp [go_sem]
   refine hJ _ _ _ ?_
  refine oN_ ?_
  refine aB_ ?_
  refine aL_ (ι := { i : Nat // i ≤ (undoL s).length }) (fun q => raJ u v0 s q.1) (fun q => (undoL s).length - q.1) ⟨0, Nat.zero_le _⟩ ?_ ?_
  · refine wO_ [((0, 48), some (0, 48))] (by simp [go_sem]) ?_ ?_ <;> simp [go_sem]
  intro ⟨i, hi⟩
  try simp only at hi
  simp only [raJ]
  refine aS_ fun K19 hK19 => ?_
  refine aQ_ ?_
  iterate 4
   refine oC_ fun J hJ => ?_
   simp [go_sem]
   refine hJ _ _ _ ?_
  refine oN_ ?_
  refine aC_ (t := _) rfl (fun c21 => ?_) (fun c21 => ?_)
  ·
   simp [go_sem] at c21
   obtain ⟨hu1, hu2, hu3⟩ := undo_at s (i := i) c21
   obtain ⟨x, hx⟩ : ∃ x, (undoL s)[i]? = some x := ⟨_, List.getElem?_eq_getElem c21⟩
   have hy : (wantE s.old false)[(wantE s.old false).length - 1 - i]? = some x := by rw [← hu3]; exact hx
   obtain ⟨j, hj⟩ : ∃ j, j = (wantE s.old false).length - 1 - i := ⟨_, rfl⟩
   rw [← hj] at hy hu2
   have hlt2 : j < (wantE s.old false).length := hu2
   have hlt3 : i < (undoL s).length := c21
   have wi := wrap_mid (n := i) (by omega)
   have hA0 : IntKind.i64.wrap (((wantE s.old false).length : Int) - 1) = ((wantE s.old false).length : Int) - 1 := wA_ (by omega)
   have hA1 : IntKind.i64.wrap (IntKind.i64.wrap (((wantE s.old false).length : Int) - 1) - (i : Int)) = (j : Int) := by rw [hA0, show ((wantE s.old false).length : Int) - 1 - (i : Int) = (j : Int) by omega]; exact wA_ (by omega)
   refine aK_ ?_
   refine hK19 _ ?_
   refine aS_ fun K22 hK22 => ?_
   refine aB_ ?_
   refine aU_ ?_
   iterate 13
    refine oC_ fun J hJ => ?_
    simp [go_sem, hA1, ↓hx, hx, ↓hy, hy, hlt2, hlt3]
    refine hJ _ _ _ ?_
   refine oN_ ?_
   refine ⟨rfl, ?_⟩
   refine aF_ rfl ?_
   refine aK_ ?_
   refine hK22 _ ?_
   refine aR_ ?_
   iterate 3
    refine oC_ fun J hJ => ?_
    simp [go_sem, wi]
    refine hJ _ _ _ ?_
   refine oN_ ?_
   refine ⟨⟨i + 1, by omega⟩, ?_, by simp; omega⟩
   refine wO_ [((0, 48), some (0, 48))] (by simp [go_sem]) ?_ ?_ <;> simp [go_sem, wi]
  ·
   simp [go_sem] at c21
   refine aX_ ?_
   simp only [go_sem]
   refine hK17 _ ?_
   refine aQ_ ?_
   iterate 6
    refine oC_ fun J hJ => ?_
    simp [go_sem, show (u.length) * 40 ≤ 140737488355328 by omega, show u.length ≤ maxLen by (simp only [maxLen]; omega), show (u.length + (wantE s.old false).length) * 40 ≤ 140737488355328 by omega, show u.length + (wantE s.old false).length ≤ maxLen by (simp only [maxLen]; omega)]
    refine hJ _ _ _ ?_
   refine oN_ ?_
   refine aS_ fun K27 hK27 => ?_
   refine awp_regionW ?_
   refine opsW_cons fun J hJ => ?_
   simp [go_sem, take_two, ↓hsm]
   refine hJ _ _ _ ?_
   refine opsW_cons fun J hJ => ?_
   simp [go_sem, take_two, ↓hsm]
   refine hJ _ _ _ ?_
   refine opsW_frz (e := 50) (sz := 5) (L := rows cEff (u ++ wantE s.old false)) (z := false) (0, 1504) (by simp [go_sem]) ?_
   refine opsW_cons fun J hJ => ?_
   simp [go_sem, take_two, ↓hsm]
   refine hJ _ _ _ ?_
   refine opsW_cons fun J hJ => ?_
   simp [go_sem, take_two, ↓hsm]
   refine hJ _ _ _ ?_
   refine opsW_cons fun J hJ => ?_
   simp [go_sem, take_two, ↓hsm]
   refine hJ _ _ _ ?_
   refine opsW_cons fun J hJ => ?_
   simp [go_sem, take_two, ↓hsm]
   refine hJ _ _ _ ?_
   refine opsW_cons fun J hJ => ?_
   simp [go_sem, take_two, ↓hsm]
   refine hJ _ _ _ ?_
   refine opsW_cons fun J hJ => ?_
   simp [go_sem, take_two, ↓hsm]
   refine hJ _ _ _ ?_
   refine opsW_nil ?_
   refine hK27 _ ?_
   refine aQ_ ?_
   iterate 6
    refine oC_ fun J hJ => ?_
    simp [go_sem, show (u.length) * 40 ≤ 140737488355328 by omega, show u.length ≤ maxLen by (simp only [maxLen]; omega), show (u.length + (wantE s.new false).length) * 40 ≤ 140737488355328 by omega, show u.length + (wantE s.new false).length ≤ maxLen by (simp only [maxLen]; omega)]
    refine hJ _ _ _ ?_
   refine oN_ ?_
   refine aS_ fun K29 hK29 => ?_
   refine aQ_ ?_
   iterate 8
    refine oC_ fun J hJ => ?_
    simp [go_sem, hsl1, take_two, ↓plEffBS_at (u ++ wantE s.new false) (u ++ wantE s.new false) (by simp; omega)]
    refine hJ _ _ _ ?_
   refine oN_ ?_
   refine aF_ rfl ?_
   refine aK_ ?_
   refine hK29 _ ?_
   refine aQ_ ?_
   iterate 8
    refine oC_ fun J hJ => ?_
    simp [go_sem, applyS_at v0 s ⟨by omega, ho1, ho2⟩]
    refine hJ _ _ _ ?_
   refine oN_ ?_
   refine aS_ fun K34 hK34 => ?_
   rcases eC v0 s with ⟨k, hk, hdr, hes⟩ | ⟨k, hk, hdr, hes⟩ | ⟨hk, hes⟩
   ·
    have wk : IntKind.i64.wrap ((v0.length : Int) - ((undoL s).length : Int)) = (k : Int) := by rw [show (v0.length : Int) - ((undoL s).length : Int) = (k : Int) by omega]; exact wA_ (by omega)
    have hko : k ≤ v0.length := by omega
    have hDl : (List.drop (sidesN s) (wantE s.old false)).length ≤ 9223372036854775807 := by simp; omega
    refine aR_ ?_
    iterate 6
     refine oC_ fun J hJ => ?_
     simp [go_sem, wk]
     refine hJ _ _ _ ?_
    refine oN_ ?_
    refine hK34 _ ?_
    refine aU_ ?_
    iterate 12
     refine oC_ fun J hJ => ?_
     simp [go_sem, wk, hko, hsa, hdr, plEffBS_at (List.drop (sidesN s) (wantE s.old false)) (List.drop (sidesN s) (wantE s.old false)) hDl]
     refine hJ _ _ _ ?_
    refine oN_ ?_
    refine ⟨rfl, ?_⟩
    refine aQ_ ?_
    iterate 12
     refine oC_ fun J hJ => ?_
     simp [go_sem, ha2, hes]
     refine hJ _ _ _ ?_
    refine oN_ ?_
    refine aE_ ?_
    refine fQ_ [] ?_
    simp [go_sem, Try.f4]
   ·
    have wk : IntKind.i64.wrap ((v0.length : Int) - ((undoL s).length : Int)) = (k : Int) := by rw [show (v0.length : Int) - ((undoL s).length : Int) = (k : Int) by omega]; exact wA_ (by omega)
    have hko : k ≤ v0.length := by omega
    have ha1 := ha1 hes
    refine aR_ ?_
    iterate 6
     refine oC_ fun J hJ => ?_
     simp [go_sem, wk]
     refine hJ _ _ _ ?_
    refine oN_ ?_
    refine hK34 _ ?_
    refine aU_ ?_
    iterate 12
     refine oC_ fun J hJ => ?_
     simp [go_sem, wk, hko, hsa, hdr, plEffBS_at (List.drop k v0) (List.drop (sidesN s) (wantE s.old false)) (by simp; omega)]
     refine hJ _ _ _ ?_
    refine oN_ ?_
    refine ⟨rfl, ?_⟩
    refine aQ_ ?_
    iterate 12
     refine oC_ fun J hJ => ?_
     simp [go_sem, ha2, hes, ha1, plEffBS_at (v0) (v0) (by omega)]
     refine hJ _ _ _ ?_
    refine oN_ ?_
    refine aE_ ?_
    refine fQ_ [] ?_
    simp [go_sem, Try.f4]
   ·
    have wk : IntKind.i64.wrap ((v0.length : Int) - ((undoL s).length : Int)) = (v0.length : Int) - ((undoL s).length : Int) := wA_ (by omega)
    have hkn : ¬ (undoL s).length ≤ v0.length := by omega
    have ha1 := ha1 hes
    refine aR_ ?_
    iterate 6
     refine oC_ fun J hJ => ?_
     simp [go_sem, wk]
     refine hJ _ _ _ ?_
    refine oN_ ?_
    refine hK34 _ ?_
    refine aU_ ?_
    iterate 12
     refine oC_ fun J hJ => ?_
     simp [go_sem, wk, hkn]
     refine hJ _ _ _ ?_
    refine oN_ ?_
    refine ⟨rfl, ?_⟩
    refine aQ_ ?_
    iterate 12
     refine oC_ fun J hJ => ?_
     simp [go_sem, ha2, hes, ha1, plEffBS_at (v0) (v0) (by omega)]
     refine hJ _ _ _ ?_
    refine oN_ ?_
    refine aE_ ?_
    refine fQ_ [] ?_
    simp [go_sem, Try.f4]
 refine aB_ ?_
 refine aL_ (ι := { n : Nat // n ≤ commonL (wantE s.old false) (wantE s.new false) }) (fun q => raI u v0 s q.1) (fun q => commonL (wantE s.old false) (wantE s.new false) - q.1) ⟨0, Nat.zero_le _⟩ ?_ ?_
 · refine wO_ [((0, 48), some (0, 48)), ((0, 998), some (0, 400)), ((0, 999), some (0, 448))] (by simp [go_sem]) ?_ ?_ <;> simp [go_sem]
 intro ⟨n, hn⟩
 try simp only at hn
 have hle := commonL_le (wantE s.old false) (wantE s.new false)
 have hst := commonL_stop (wantE s.old false) (wantE s.new false) n hn
 simp only [raI]
 refine aS_ fun K9 hK9 => ?_
 refine aS_ fun K10 hK10 => ?_
 rcases cc4 (wantE s.old false) (wantE s.new false) n hn hst with ⟨x, h1, h2, hx, hy, hn1⟩ | ⟨x, y, h1, h2, hx, hy, hxy, hc⟩ | ⟨h1, h2, hc⟩ | ⟨h1, hc⟩
 ·
  have wn : IntKind.i64.wrap ((n : Int) + 1) = ((n : Int) + 1) := wA_ (by omega)
  refine aD_ ?_
  iterate 21
   refine oC_ fun J hJ => ?_
   simp [go_sem, h1, h2, ↓hx, ↓hy, hx, hy]
   refine hJ _ _ _ ?_
  refine oN_ ?_
  refine ⟨rfl, ?_⟩
  refine hK10 _ ?_
  refine aT_ rfl ?_
  refine aK_ ?_
  refine hK9 _ ?_
  refine aB_ ?_
  refine aR_ ?_
  iterate 3
   refine oC_ fun J hJ => ?_
   simp [go_sem, wn]
   refine hJ _ _ _ ?_
  refine oN_ ?_
  refine ⟨⟨n + 1, hn1⟩, ?_, by simp; omega⟩
  refine wO_ [((0, 48), some (0, 48)), ((0, 998), some (0, 998)), ((0, 999), some (0, 999))] (by simp [go_sem]) ?_ ?_ <;> simp [go_sem, wn]
 ·
  have hc2 : n = sidesN s := hc.symm
  refine aD_ ?_
  iterate 21
   refine oC_ fun J hJ => ?_
   simp [go_sem, h1, h2, ↓hx, ↓hy, hx, hy, hxy]
   refine hJ _ _ _ ?_
  refine oN_ ?_
  refine ⟨rfl, ?_⟩
  refine hK10 _ ?_
  refine aF_ rfl ?_
  refine aX_ ?_
  simp only [go_sem]
  refine jK8 _ (wO_ [((0, 48), some (0, 48))] (by simp [go_sem]) ?_ ?_) <;> simp [go_sem, hc2]
 ·
  have hc2 : n = sidesN s := hc.symm
  refine aD_ ?_
  iterate 21
   refine oC_ fun J hJ => ?_
   simp [go_sem, h1, h2]
   refine hJ _ _ _ ?_
  refine oN_ ?_
  refine ⟨rfl, ?_⟩
  refine hK10 _ ?_
  refine aF_ rfl ?_
  refine aX_ ?_
  simp only [go_sem]
  refine jK8 _ (wO_ [((0, 48), some (0, 48))] (by simp [go_sem]) ?_ ?_) <;> simp [go_sem, hc2]
 ·
  have hc2 : n = sidesN s := hc.symm
  refine aD_ ?_
  iterate 21
   refine oC_ fun J hJ => ?_
   simp [go_sem, h1]
   refine hJ _ _ _ ?_
  refine oN_ ?_
  refine ⟨rfl, ?_⟩
  refine hK10 _ ?_
  refine aF_ rfl ?_
  refine aX_ ?_
  simp only [go_sem]
  refine jK8 _ (wO_ [((0, 48), some (0, 48))] (by simp [go_sem]) ?_ ?_) <;> simp [go_sem, hc2]
theorem RebaseApplies_walk (w : World) (v0 : Value) (x0 : Shf) (r0 : Rep w (fun _ => False) noLay noH (.agg (cShf x0)) v0) (a1 : Option Addr) (c1 : Nat) (L1 : List (List Int)) (h1 : L1.length ≤ c1) (m1 : c1 ≤ maxLen) (s1 : SlK w.heap.size 5 w a1 L1) (a2 : Option Addr) (c2 : Nat) (L2 : List (List Int)) (h2 : L2.length ≤ c2) (m2 : c2 ≤ maxLen) (s2 : SlK w.heap.size 5 w a2 L2) (hb : x0.old.effs.length ≤ 1100000 ∧ x0.new.effs.length ≤ 1100000 ∧ L1.length ≤ 1100000 ∧ L2.length ≤ 1100000) :
  Calls Try.prog 4 #[v0, .slice a1 L1.length c1, .slice a2 L2.length c2] w fun e w' => e = .returned (.bool true) ∧ Below w.heap.size w w' := by
 obtain ⟨os1, e1, r1⟩ := slk_rows ex_Eff s1 h1 m1
 obtain ⟨os2, e2, r2⟩ := slk_rows ex_Eff s2 h2 m2
 refine true_walk rebaseApplies_ok (rebaseAppliesS_at x0 os1 os2 (⟨hb.1, hb.2.1, by omega, by omega⟩)) w rfl fun i v hi => ?_
 match i, hi with
 | 0, hi => cases hi; exact r0
 | 1, hi => cases hi; exact r1
 | 2, hi => cases hi; exact r2
end Go.Proofs.Ytfbooejaabdkoaa.AE
