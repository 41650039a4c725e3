/-
 Package rebase: like, sides, Undo, Redo, Apply. Conditions: none; every contract names its own.
-/
import Derived.Test.YtfbooejaabdkoaaOEf
import Derived.Test.YtfbooejaabdkoaaPc
set_option linter.constructorNameAsVariable false
namespace Go.Proofs.Ytfbooejaabdkoaa.AE
open Go Go.Proofs Go.RowKit
set_option linter.unusedVariables false
set_option linter.unusedSimpArgs false
set_option maxRecDepth 100000
set_option maxHeartbeats 4000000
theorem same_one (a b : Outc) (h : a.effs.length ≤ 9223372036854775807) : sameFS [.sl 2 (rows cOc [a]), .sl 2 (rows cOc [b])] [] = some ⟨.bool (decide (a = b)), [], []⟩ := by
 have := sameFS_at [a] [b] ⟨by simp, fun x hx => by rw [List.mem_singleton.1 hx]; exact h⟩
 simpa using this
theorem wantF_len (o : Outc) : (wantE o false).length ≤ o.effs.length := by
 unfold wantE
 split
 · rw [accW_F]; exact filt_len _ _
 · simp
theorem sidesN_le (s : Shf) : sidesN s ≤ (wantE s.old false).length ∧ sidesN s ≤ (wantE s.new false).length := commonL_le _ _
theorem undo_row (s : Shf) : List.take ((wantE s.old false).length - sidesN s) (List.drop (sidesN s) (List.take (sidesN s) (wantE s.old false) ++ undoL s)) = undoL s := by
 have h := (sidesN_le s).1
 have h1 : (List.take (sidesN s) (wantE s.old false)).length = sidesN s := by simp; omega
 rw [List.drop_append_of_le_length (by omega), List.drop_eq_nil_of_le (by omega), List.nil_append, List.take_of_length_le]
 simp [undoL]
theorem redo_row (s : Shf) : List.take ((wantE s.new false).length - sidesN s) (List.drop (sidesN s) (wantE s.new false)) = redoL s := by
 rw [List.take_of_length_le (by simp)]
 rfl
theorem revE_undo (s : Shf) (h : s.old.effs.length ≤ 1100000) : revES [.ows (1, 0) (sidesN s) ((wantE s.old false).length - sidesN s)] [.row 50 5 (rows cEff (wantE s.old false)) false] = some ⟨.tup [], [.row 50 5 (rows cEff (List.take (sidesN s) (wantE s.old false) ++ undoL s)) false], []⟩ := by
 have h1 := (sidesN_le s).1
 have h2 := wantF_len s.old
 have := revES_at (List.take (sidesN s) (wantE s.old false)) (List.drop (sidesN s) (wantE s.old false)) (sidesN s) ((wantE s.old false).length - sidesN s) (by simp; omega) (by simp) (by omega)
 rw [List.take_append_drop] at this
 exact this
structure likeX where
 a : Outc
 b : Outc
 hL : a.effs.length ≤ 9223372036854775807
noncomputable def likeS : HSpec := mkH (ι := likeX) (fun ⟨a, b, hL⟩ => ([.agg (cOc a), .agg (cOc b)], [])) fun ⟨a, b, hL⟩ => ⟨.bool (decide (a = b)), [], []⟩
theorem likeS_atG (a : Outc) (b : Outc) (hL : a.effs.length ≤ 9223372036854775807) : likeS [.agg (cOc a), .agg (cOc b)] [] = some (⟨.bool (decide (a = b)), [], []⟩) :=
 mA_ (ι := likeX) (fun i j h => by obtain ⟨a, b, hL⟩ := i; obtain ⟨a2, b2, hL2⟩ := j; simp [and_assoc, qB_, qI_, qO_, qC_, qE_, qK_, qR_, qV_, qP_, qOc_] at h; obtain ⟨rfl, rfl⟩ := h; rfl) ⟨a, b, hL⟩
theorem likeS_at (a : Outc) (b : Outc) (hL : a.effs.length ≤ 9223372036854775807) : likeS [.agg (cOc a), .agg (cOc b)] [] = some (⟨.bool (decide (a = b)), [], []⟩) := likeS_atG a b hL
theorem like_ok : HSound Try.prog 41 likeS := by
 refine sE_ (fn := Try.f41) rfl rfl (by kernel_rfl) fun args bx hr hS => ?_
 obtain ⟨⟨a, b, hL⟩, rfl, rfl, rfl⟩ := mO_ hS
 clear hS
 refine ⟨_, (eV_ (g := 68) (by kernel_rfl) sameF_ok (eN_ _)), by simp [Try.f41], by simp [go_sem], fun w Mx pin => ?_⟩
 simp only [hB_at, lab_nil, lab_cons, hOf_nil, hOf_cons]
 refine aQ_ ?_
 iterate 3
  refine oC_ fun J hJ => ?_
  simp [go_sem]
  refine hJ _ _ _ ?_
 refine oN_ ?_
 refine aQ_ ?_
 iterate 6
  refine oC_ fun J hJ => ?_
  simp [go_sem, ↓same_one a b hL]
  refine hJ _ _ _ ?_
 refine oN_ ?_
 refine aE_ ?_
 refine fQ_ [] ?_
 simp [go_sem, Try.f41]
structure sidesX where
 s : Shf
 hL : s.old.effs.length ≤ 1100000 ∧ s.new.effs.length ≤ 1100000
noncomputable def sidesS : HSpec := mkH (ι := sidesX) (fun ⟨s, hL⟩ => ([.agg (cShf s)], [])) fun ⟨s, hL⟩ => ⟨.tup [.own (2, 0) (wantE s.old false).length, .own (2, 1) (wantE s.new false).length, .int .i64 (sidesN s : Nat)], [], [.row 50 5 (rows cEff (wantE s.old false)) false, .row 50 5 (rows cEff (wantE s.new false)) false]⟩
theorem sidesS_atG (s : Shf) (hL : s.old.effs.length ≤ 1100000 ∧ s.new.effs.length ≤ 1100000) : sidesS [.agg (cShf s)] [] = some (⟨.tup [.own (2, 0) (wantE s.old false).length, .own (2, 1) (wantE s.new false).length, .int .i64 (sidesN s : Nat)], [], [.row 50 5 (rows cEff (wantE s.old false)) false, .row 50 5 (rows cEff (wantE s.new false)) false]⟩) :=
 mA_ (ι := sidesX) (fun i j h => by obtain ⟨s, hL⟩ := i; obtain ⟨s2, hL2⟩ := j; simp [and_assoc, qB_, qI_, qO_, qC_, qE_, qK_, qR_, qV_, qP_, qOc_, cShf_eq_iff] at h; obtain rfl := h; rfl) ⟨s, hL⟩
theorem sidesS_at (s : Shf) (hL : s.old.effs.length ≤ 1100000 ∧ s.new.effs.length ≤ 1100000) : sidesS [.agg (cShf s)] [] = some (⟨.tup [.own (2, 0) (wantE s.old false).length, .own (2, 1) (wantE s.new false).length, .int .i64 (sidesN s : Nat)], [], [.row 50 5 (rows cEff (wantE s.old false)) false, .row 50 5 (rows cEff (wantE s.new false)) false]⟩) := sidesS_atG s hL
theorem sides_ok : HSound Try.prog 44 sidesS := by
 refine sE_ (fn := Try.f44) rfl rfl (by kernel_rfl) fun args bx hr hS => ?_
 obtain ⟨⟨s, hL⟩, rfl, rfl, rfl⟩ := mO_ hS
 clear hS
 refine ⟨_, (eH_ (g := 72) (by kernel_rfl) wantF_ok (eV_ (g := 73) (by kernel_rfl) common_ok (eN_ _))), by simp [Try.f44], by simp [go_sem], fun w Mx pin => ?_⟩
 simp only [hB_at, lab_nil, lab_cons, hOf_nil, hOf_cons]
 have hw := wantF_len s.old
 refine aQ_ ?_
 iterate 4
  refine oC_ fun J hJ => ?_
  simp [go_sem]
  refine hJ _ _ _ ?_
 refine oN_ ?_
 refine aU_ ?_
 iterate 8
  refine oC_ fun J hJ => ?_
  simp [go_sem, wantFS_at s.old false hL.1, wantFS_at s.new false hL.2]
  refine hJ _ _ _ ?_
 refine oN_ ?_
 refine ⟨rfl, ?_⟩
 refine aQ_ ?_
 iterate 8
  refine oC_ fun J hJ => ?_
  simp [go_sem, commonS_at (wantE s.old false) (wantE s.new false) (by omega)]
  refine hJ _ _ _ ?_
 refine oN_ ?_
 refine aE_ ?_
 refine fQ_ [((2, 0), some (0, 144)), ((2, 1), some (0, 192))] ?_
 simp [go_sem, Try.f44, sidesN]
structure undoX where
 s : Shf
 hL : s.old.effs.length ≤ 1100000 ∧ s.new.effs.length ≤ 1100000
noncomputable def undoS : HSpec := mkH (ι := undoX) (fun ⟨s, hL⟩ => ([.agg (cShf s)], [])) fun ⟨s, hL⟩ => ⟨.sl 5 (rows cEff (undoL s)), [], []⟩
theorem undoS_atG (s : Shf) (hL : s.old.effs.length ≤ 1100000 ∧ s.new.effs.length ≤ 1100000) : undoS [.agg (cShf s)] [] = some (⟨.sl 5 (rows cEff (undoL s)), [], []⟩) :=
 mA_ (ι := undoX) (fun i j h => by obtain ⟨s, hL⟩ := i; obtain ⟨s2, hL2⟩ := j; simp [and_assoc, qB_, qI_, qO_, qC_, qE_, qK_, qR_, qV_, qP_, qOc_, cShf_eq_iff] at h; obtain rfl := h; rfl) ⟨s, hL⟩
theorem undoS_at (s : Shf) (hL : s.old.effs.length ≤ 1100000 ∧ s.new.effs.length ≤ 1100000) : undoS [.agg (cShf s)] [] = some (⟨.sl 5 (rows cEff (undoL s)), [], []⟩) := undoS_atG s hL
theorem undo_ok : HSound Try.prog 17 undoS := by
 refine sE_ (fn := Try.f17) rfl rfl (by kernel_rfl) fun args bx hr hS => ?_
 obtain ⟨⟨s, hL⟩, rfl, rfl, rfl⟩ := mO_ hS
 clear hS
 refine ⟨_, (eH_ (g := 44) (by kernel_rfl) sides_ok (eH_ (g := 45) (by kernel_rfl) revE_ok (eN_ _))), by simp [Try.f17], by simp [go_sem], fun w Mx pin => ?_⟩
 simp only [hB_at, lab_nil, lab_cons, hOf_nil, hOf_cons]
 have hk := (sidesN_le s).1
 refine aQ_ ?_
 iterate 2
  refine oC_ fun J hJ => ?_
  simp [go_sem]
  refine hJ _ _ _ ?_
 refine oN_ ?_
 refine aQ_ ?_
 iterate 9
  refine oC_ fun J hJ => ?_
  simp [go_sem, sidesS_at s hL]
  refine hJ _ _ _ ?_
 refine oN_ ?_
 refine aS_ fun K3 hK3 => ?_
 refine awp_regionW ?_
 refine opsW_cons fun J hJ => ?_
 simp [go_sem]
 refine hJ _ _ _ ?_
 refine opsW_cons fun J hJ => ?_
 simp [go_sem]
 refine hJ _ _ _ ?_
 refine opsW_part (b := (0, 144)) (n := (wantE s.old false).length) (k := sidesN s) (hh := (wantE s.old false).length) (e := 50) (sz := 5) (L := rows cEff (wantE s.old false)) (z := false) rfl rfl (by simp [go_sem]) (by simp [go_sem]) ti42 rfl rfl (by simp [go_sem, bnd]) (by simp [go_sem, bnd]) hk (Nat.le_refl _) ?_
 simp only [tput_some]
 refine opsW_cons fun J hJ => ?_
 simp [go_sem]
 refine hJ _ _ _ ?_
 refine opsW_nil ?_
 refine hK3 _ ?_
 refine aQ_ ?_
 iterate 2
  refine oC_ fun J hJ => ?_
  simp [go_sem, revE_undo s hL.1]
  refine hJ _ _ _ ?_
 refine oN_ ?_
 refine aQ_ ?_
 iterate 2
  refine oC_ fun J hJ => ?_
  simp [go_sem]
  refine hJ _ _ _ ?_
 refine oN_ ?_
 refine aE_ ?_
 refine fQ_ [] ?_
 simp [go_sem, Try.f17, ↓undo_row]
structure redoX where
 s : Shf
 hL : s.old.effs.length ≤ 1100000 ∧ s.new.effs.length ≤ 1100000
noncomputable def redoS : HSpec := mkH (ι := redoX) (fun ⟨s, hL⟩ => ([.agg (cShf s)], [])) fun ⟨s, hL⟩ => ⟨.sl 5 (rows cEff (redoL s)), [], []⟩
theorem redoS_atG (s : Shf) (hL : s.old.effs.length ≤ 1100000 ∧ s.new.effs.length ≤ 1100000) : redoS [.agg (cShf s)] [] = some (⟨.sl 5 (rows cEff (redoL s)), [], []⟩) :=
 mA_ (ι := redoX) (fun i j h => by obtain ⟨s, hL⟩ := i; obtain ⟨s2, hL2⟩ := j; simp [and_assoc, qB_, qI_, qO_, qC_, qE_, qK_, qR_, qV_, qP_, qOc_, cShf_eq_iff] at h; obtain rfl := h; rfl) ⟨s, hL⟩
theorem redoS_at (s : Shf) (hL : s.old.effs.length ≤ 1100000 ∧ s.new.effs.length ≤ 1100000) : redoS [.agg (cShf s)] [] = some (⟨.sl 5 (rows cEff (redoL s)), [], []⟩) := redoS_atG s hL
theorem redo_ok : HSound Try.prog 18 redoS := by
 refine sE_ (fn := Try.f18) rfl rfl (by kernel_rfl) fun args bx hr hS => ?_
 obtain ⟨⟨s, hL⟩, rfl, rfl, rfl⟩ := mO_ hS
 clear hS
 refine ⟨_, (eH_ (g := 44) (by kernel_rfl) sides_ok (eN_ _)), by simp [Try.f18], by simp [go_sem], fun w Mx pin => ?_⟩
 simp only [hB_at, lab_nil, lab_cons, hOf_nil, hOf_cons]
 have hk := (sidesN_le s).2
 refine aQ_ ?_
 iterate 2
  refine oC_ fun J hJ => ?_
  simp [go_sem]
  refine hJ _ _ _ ?_
 refine oN_ ?_
 refine aQ_ ?_
 iterate 9
  refine oC_ fun J hJ => ?_
  simp [go_sem, sidesS_at s hL]
  refine hJ _ _ _ ?_
 refine oN_ ?_
 refine aS_ fun K3 hK3 => ?_
 refine awp_regionW ?_
 refine opsW_cons fun J hJ => ?_
 simp [go_sem]
 refine hJ _ _ _ ?_
 refine opsW_cons fun J hJ => ?_
 simp [go_sem]
 refine hJ _ _ _ ?_
 refine opsW_part (b := (0, 129)) (n := (wantE s.new false).length) (k := sidesN s) (hh := (wantE s.new false).length) (e := 50) (sz := 5) (L := rows cEff (wantE s.new false)) (z := false) rfl rfl (by simp [go_sem]) (by simp [go_sem]) ti42 rfl rfl (by simp [go_sem, bnd]) (by simp [go_sem, bnd]) hk (Nat.le_refl _) ?_
 simp only [tput_some]
 refine opsW_cons fun J hJ => ?_
 simp [go_sem]
 refine hJ _ _ _ ?_
 refine opsW_nil ?_
 refine hK3 _ ?_
 refine aE_ ?_
 refine fQ_ [] ?_
 simp [go_sem, Try.f18, ↓redo_row]
theorem undo_len (s : Shf) : (undoL s).length ≤ s.old.effs.length := by
 have := wantF_len s.old
 simp [undoL]; omega
theorem redo_len (s : Shf) : (redoL s).length ≤ s.new.effs.length := by
 have := wantF_len s.new
 simp [redoL]; omega
theorem pop_zero (l : List Eff) (x : Eff) (r : List Eff) : popL (l.take 0) (x :: r) = none := by simp [popL]
theorem pop_next {l : List Eff} {k : Nat} {x : Eff} {r : List Eff} (h : l[k]? = some x) : popL (l.take (k + 1)) (x :: r) = popL (l.take k) r := by
 have h1 : l.take (k + 1) = l.take k ++ [x] := by rw [List.take_add_one, h]; rfl
 rw [h1, popL, if_pos (by simp)]
 simp
theorem pop_stop {l : List Eff} {k : Nat} {x y : Eff} {r : List Eff} (h : l[k]? = some y) (hy : y ≠ x) : popL (l.take (k + 1)) (x :: r) = none := by
 have h1 : l.take (k + 1) = l.take k ++ [y] := by rw [List.take_add_one, h]; rfl
 rw [h1, popL, if_neg (by simpa using hy)]
def applyI (l : List Eff) (s : Shf) (pre _post : List Eff) (m : Nat) : St := ⟨ofL [(0, .sl 5 (rows cEff l)), (3, .ref (0, 48) 0), (6, .own (0, 160) m), (12, .sl 5 (rows cEff (undoL s))), (13, .int .i64 (undoL s).length), (14, .int .i64 pre.length)], hOf [((0, 48), .obj (cShf s)), ((0, 160), .row 50 5 (rows cEff l) false)]⟩
theorem apply_cases (l : List Eff) (m : Nat) (x : Eff) (hm : m ≤ l.length) : m = 0 ∨ (∃ k y, m = k + 1 ∧ k < l.length ∧ l[k]? = some y ∧ y ≠ x) ∨ ∃ k, m = k + 1 ∧ k < l.length ∧ l[k]? = some x := by
 cases m with
 | zero => exact .inl rfl
 | succ k =>
  have hk : k < l.length := by omega
  by_cases h : l[k] = x
  · exact .inr (.inr ⟨k, rfl, hk, by rw [List.getElem?_eq_getElem hk, h]⟩)
  · exact .inr (.inl ⟨k, l[k], rfl, hk, List.getElem?_eq_getElem hk, h⟩)
structure applyX where
 l : List Eff
 l' : AV
 s : Shf
 h_l : SlA 5 cEff l l'
 hL : l.length ≤ 3000000 ∧ s.old.effs.length ≤ 1100000 ∧ s.new.effs.length ≤ 1100000
noncomputable def applyS : HSpec := mkH (ι := applyX) (fun ⟨l, l', s, h_l, hL⟩ => ([l', .agg (cShf s)], [])) fun ⟨l, l', s, h_l, hL⟩ => ⟨.tup [.own (2, 0) (applyL l s).1.length, .bool (applyL l s).2], [], [.row 50 5 (rows cEff (applyL l s).1) false]⟩
theorem applyS_atG (l : List Eff) (l' : AV) (s : Shf) (h_l : SlA 5 cEff l l') (hL : l.length ≤ 3000000 ∧ s.old.effs.length ≤ 1100000 ∧ s.new.effs.length ≤ 1100000) : applyS [l', .agg (cShf s)] [] = some (⟨.tup [.own (2, 0) (applyL l s).1.length, .bool (applyL l s).2], [], [.row 50 5 (rows cEff (applyL l s).1) false]⟩) :=
 mA_ (ι := applyX) (fun i j h => by obtain ⟨l, l', s, h_l, hL⟩ := i; obtain ⟨l2, l'2, s2, h_l2, hL2⟩ := j; simp [and_assoc, qB_, qI_, qO_, qC_, qE_, qK_, qR_, qV_, qP_, qOc_, cShf_eq_iff] at h; obtain ⟨rfl, rfl⟩ := h; obtain rfl := SlA.inj (fun x y h => cEff_inj h) h_l h_l2; rfl) ⟨l, l', s, h_l, hL⟩
theorem applyS_at (l : List Eff) (s : Shf) (hL : l.length ≤ 3000000 ∧ s.old.effs.length ≤ 1100000 ∧ s.new.effs.length ≤ 1100000) : applyS [(.sl 5 (rows cEff l)), .agg (cShf s)] [] = some (⟨.tup [.own (2, 0) (applyL l s).1.length, .bool (applyL l s).2], [], [.row 50 5 (rows cEff (applyL l s).1) false]⟩) := applyS_atG l _ s .sl hL
theorem apply_ok : HSound Try.prog 20 applyS := by
 refine sE_ (fn := Try.f20) rfl rfl (by kernel_rfl) fun args bx hr hS => ?_
 obtain ⟨⟨l, l', s, h_l, hL⟩, rfl, rfl, rfl⟩ := mO_ hS
 clear hS
 refine ⟨_, (eV_ (g := 42) (by kernel_rfl) cloneEff_ok (eV_ (g := 17) (by kernel_rfl) undo_ok (eV_ (g := 18) (by kernel_rfl) redo_ok (eN_ _)))), by simp [Try.f20], by simp [go_sem], fun w Mx pin => ?_⟩
 simp only [hB_at, lab_nil, lab_cons, hOf_nil, hOf_cons]
 refine aW_ (s' := ⟨ofL [(0, (.sl 5 (rows cEff l))), (1, .agg (cShf s))], hOf []⟩) ?_ ?_
 · cases h_l <;> exact wO_ [] (by simp [go_sem]) (by simp [go_sem]) (by simp [go_sem])
 clear h_l
 obtain ⟨hl0, hs⟩ := hL
 have hu : (undoL s).length ≤ 1100000 := by have := undo_len s; omega
 have hr := redo_len s
 refine aQ_ ?_
 iterate 3
  refine oC_ fun J hJ => ?_
  simp [go_sem]
  refine hJ _ _ _ ?_
 refine oN_ ?_
 refine aQ_ ?_
 iterate 3
  refine oC_ fun J hJ => ?_
  simp [go_sem, cloneEffS_at l hl0]
  refine hJ _ _ _ ?_
 refine oN_ ?_
 refine aS_ fun K3 hK3 => ?_
 refine aQ_ ?_
 iterate 4
  refine oC_ fun J hJ => ?_
  simp [go_sem, undoS_at s hs]
  refine hJ _ _ _ ?_
 refine oN_ ?_
 refine aB_ ?_
 refine aL_ (ι := { q : List Eff × List Eff × Nat // q.1 ++ q.2.1 = (undoL s) ∧ (q.2.2 ≤ l.length ∧ popL (l.take q.2.2) q.2.1 = popL l (undoL s)) }) (fun q => applyI l s q.1.1 q.1.2.1 q.1.2.2) (fun q => q.1.2.1.length) ⟨([], (undoL s), l.length), rfl, ⟨Nat.le_refl _, by rw [List.take_length]⟩⟩ ?_ ?_
 · refine wO_ [((0, 48), some (0, 48)), ((0, 160), some (0, 160))] (by simp [go_sem]) ?_ ?_ <;> simp [go_sem]
 intro ⟨⟨pre, post, m⟩, hl, hgo⟩
 simp only at hl hgo
 have hpl := len_mid hl hu
 simp only [applyI]
 refine aQ_ ?_
 iterate 1
  refine oC_ fun J hJ => ?_
  simp [go_sem]
  refine hJ _ _ _ ?_
 refine oN_ ?_
 refine aS_ fun K6 hK6 => ?_
 refine aC_ (t := _) rfl (fun c7 => ?_) (fun c7 => ?_)
 ·
  simp [go_sem] at c7
  obtain ⟨x, post, rfl, hx⟩ := mL_ hl c7
  refine aK_ ?_
  refine hK6 _ ?_
  refine aS_ fun K8 hK8 => ?_
  refine aB_ ?_
  refine aQ_ ?_
  iterate 4
   refine oC_ fun J hJ => ?_
   simp [go_sem, hx]
   refine hJ _ _ _ ?_
  refine oN_ ?_
  refine aS_ fun K10 hK10 => ?_
  refine aS_ fun K11 hK11 => ?_
  rcases apply_cases l m x hgo.1 with rfl | ⟨k, y, rfl, hk, hy, hne⟩ | ⟨k, rfl, hk, hy⟩
  ·
   have hap : applyL l s = (l, false) := by unfold applyL; rw [← hgo.2, pop_zero]
   refine aD_ ?_
   iterate 13
    refine oC_ fun J hJ => ?_
    simp [go_sem]
    refine hJ _ _ _ ?_
   refine oN_ ?_
   refine ⟨rfl, ?_⟩
   refine hK11 _ ?_
   refine aT_ rfl ?_
   refine aQ_ ?_
   iterate 4
    refine oC_ fun J hJ => ?_
    simp [go_sem, cloneEffS_at l hl0]
    refine hJ _ _ _ ?_
   refine oN_ ?_
   refine aE_ ?_
   refine fQ_ [((2, 0), some (0, 512))] ?_
   simp [go_sem, Try.f20, hap]
  ·
   have hap : applyL l s = (l, false) := by unfold applyL; rw [← hgo.2, pop_stop hy hne]
   have wk : IntKind.i64.wrap (((k + 1 : Nat) : Int) - 1) = (k : Int) := by rw [show ((k + 1 : Nat) : Int) - 1 = (k : Int) by omega]; exact wA_ (by omega)
   have hk0 : ¬ ((k : Int) + 1 = 0) := by omega
   have wk2 : IntKind.i64.wrap ((k : Int) + 1 - 1) = (k : Int) := by rw [show (k : Int) + 1 - 1 = (k : Int) by omega]; exact wA_ (by omega)
   have hkm : min (k + 1) l.length = k + 1 := by omega
   have wk3 : IntKind.i64.wrap (k : Int) = (k : Int) := wA_ (by omega)
   have hkb : ((k : Int) + 1 == 0) = false := by simp; omega
   have hkk : (k : Int) < (k : Int) + 1 := by omega
   refine aD_ ?_
   iterate 13
    refine oC_ fun J hJ => ?_
    simp [go_sem, hkm, wk2, wk, wk3, hkb, hkk, hk0, hk, ↓hy, hy, hne]
    refine hJ _ _ _ ?_
   refine oN_ ?_
   refine ⟨rfl, ?_⟩
   refine hK11 _ ?_
   refine aT_ rfl ?_
   refine aQ_ ?_
   iterate 4
    refine oC_ fun J hJ => ?_
    simp [go_sem, cloneEffS_at l hl0]
    refine hJ _ _ _ ?_
   refine oN_ ?_
   refine aE_ ?_
   refine fQ_ [((2, 0), some (0, 512))] ?_
   simp [go_sem, Try.f20, hap]
  ·
   have hk0 : ¬ ((k : Int) + 1 = 0) := by omega
   have wk2 : IntKind.i64.wrap ((k : Int) + 1 - 1) = (k : Int) := by rw [show (k : Int) + 1 - 1 = (k : Int) by omega]; exact wA_ (by omega)
   have hkm : min (k + 1) l.length = k + 1 := by omega
   have wk3 : IntKind.i64.wrap (k : Int) = (k : Int) := wA_ (by omega)
   have hkb : ((k : Int) + 1 == 0) = false := by simp; omega
   have hkk : (k : Int) < (k : Int) + 1 := by omega
   refine aD_ ?_
   iterate 13
    refine oC_ fun J hJ => ?_
    simp [go_sem, hkm, wk2, wk3, hkb, hkk, hk0, hk, ↓hy, hy]
    refine hJ _ _ _ ?_
   refine oN_ ?_
   refine ⟨rfl, ?_⟩
   refine hK11 _ ?_
   refine aF_ rfl ?_
   refine aK_ ?_
   refine hK10 _ ?_
   refine aR_ ?_
   iterate 6
    refine oC_ fun J hJ => ?_
    simp [go_sem, hkm, wk2, wk3, hk]
    refine hJ _ _ _ ?_
   refine oN_ ?_
   refine hK8 _ ?_
   refine aR_ ?_
   iterate 2
    refine oC_ fun J hJ => ?_
    simp [go_sem]
    refine hJ _ _ _ ?_
   refine oN_ ?_
   refine ⟨⟨(pre ++ [x], post, k), by simp [← hl], by exact ⟨Nat.le_of_lt hk, by rw [← hgo.2, pop_next hy]⟩⟩, ?_, by simp⟩
   refine wO_ [((0, 48), some (0, 48)), ((0, 160), some (0, 160))] (by simp [go_sem]) ?_ ?_ <;> simp [go_sem, wrap_mid hpl]
 ·
  simp [go_sem] at c7
  obtain ⟨rfl, hpe⟩ := mN_ hl c7
  have hap : applyL l s = (l.take m ++ redoL s, true) := by unfold applyL; rw [← hgo.2]; rfl
  have hmin : min m l.length = m := Nat.min_eq_left hgo.1
  refine aX_ ?_
  simp only [go_sem]
  refine hK3 _ ?_
  refine aQ_ ?_
  iterate 6
   refine oC_ fun J hJ => ?_
   simp [go_sem, redoS_at s hs, hmin, show (m + (redoL s).length) * 40 ≤ 140737488355328 by omega, show m + (redoL s).length ≤ maxLen by (simp only [maxLen]; omega)]
   refine hJ _ _ _ ?_
  refine oN_ ?_
  refine aE_ ?_
  refine fQ_ [((2, 0), some (0, 672))] ?_
  simp [go_sem, Try.f20, hap, hmin, rows_append]
end Go.Proofs.Ytfbooejaabdkoaa.AE
