/-
 ClashSinks. Conditions: none; every contract names its own.
-/
import Derived.Test.YtiifcalgolkpiaaOLw17r
import Derived.Test.YtiifcalgolkpiaaOCl4
set_option linter.constructorNameAsVariable false
namespace Go.Proofs.Ytiifcalgolkpiaa.AE
open Go Go.Proofs Go.RowKit
set_option linter.unusedVariables false
set_option linter.unusedSimpArgs false
set_option maxRecDepth 100000
set_option maxHeartbeats 4000000
def sinksI (b : Bk) (qs : List Ord) (M ms pre _post : List Chg) : St := ⟨ofL [(1, .sl 9 (rows cChg ms)), (2, .ref (0, 32) 0), (5, .own (0, 997) M.length), (7, .own (0, 998) ms.length), (9, .own (0, 999) M.length), (10, .int .i64 pre.length)], hOf [((0, 32), .obj (cBk b (.sl 7 (rows cOrd qs)))), ((0, 997), .row 29 9 (rows cChg M) true), ((0, 998), .row 36 2 (rows cOc (ouL (b, qs) ms)) false), ((0, 999), .row 36 2 (rows cOc (ouL (b, qs) M)) false)]⟩
def sinksJ (b : Bk) (qs : List Ord) (M ms pre _post : List Chg) : St := ⟨ofL [(1, .sl 9 (rows cChg ms)), (2, .ref (0, 32) 0), (5, .own (0, 997) M.length), (7, .own (0, 998) ms.length), (9, .own (0, 999) M.length), (12, .int .i64 pre.length)], hOf [((0, 32), .obj (cBk b (.sl 7 (rows cOrd qs)))), ((0, 997), .row 29 9 (rows cChg M) true), ((0, 998), .row 36 2 (rows cOc (ouL (b, qs) ms)) false), ((0, 999), .row 36 2 (rows cOc (ouL (b, qs) M)) false)]⟩
def sinksK (b : Bk) (qs : List Ord) (M : List Chg) (i : Nat) : St := ⟨ofL [(2, .ref (0, 32) 0), (5, .own (0, 997) M.length), (13, .int .i64 i)], hOf [((0, 32), .obj (cBk b (.sl 7 (rows cOrd qs)))), ((0, 997), .row 29 9 (rows cChg M) true)]⟩
theorem snoc_all {ms pre : List Chg} {x : Chg} (h : ∀ (j : Nat) (y : Chg), pre[j]? = some y → placeC ms y.id = j) (hx : placeC ms x.id = (pre.length : Int)) : ∀ (j : Nat) (y : Chg), (pre ++ [x])[j]? = some y → placeC ms y.id = j := by
 intro j y hj
 rcases Nat.lt_or_ge j pre.length with hl | hl
 ·
  rw [List.getElem?_append_left hl] at hj
  exact h j y hj
 ·
  rw [List.getElem?_append_right hl] at hj
  cases hk : j - pre.length with
  | zero =>
   rw [hk] at hj
   simp only [List.getElem?_cons_zero, Option.some.injEq] at hj
   subst hj
   rw [hx]
   congr 1
   omega
  | succ k => rw [hk] at hj; simp at hj
structure clashSinksX where
 b : Bk
 os : List Ord
 os' : AV
 l : List Chg
 l' : AV
 h_os : SlA 7 cOrd os os'
 h_l : SlA 9 cChg l l'
noncomputable def clashSinksS : HSpec := mkH (ι := clashSinksX) (fun ⟨b, os, os', l, l', h_os, h_l⟩ => ([.agg (cBk b os'), l'], [])) fun ⟨b, os, os', l, l', h_os, h_l⟩ => ⟨.bool true, [], []⟩
theorem clashSinksS_atG (b : Bk) (os : List Ord) (os' : AV) (l : List Chg) (l' : AV) (h_os : SlA 7 cOrd os os') (h_l : SlA 9 cChg l l') : clashSinksS [.agg (cBk b os'), l'] [] = some (⟨.bool true, [], []⟩) :=
 mA_ (ι := clashSinksX) (fun i j h => by obtain ⟨b, os, os', l, l', h_os, h_l⟩ := i; obtain ⟨b2, os2, os'2, l2, l'2, h_os2, h_l2⟩ := j; simp [and_assoc, qB_, qI_, qO_, qC_, qE_, qK_, qR_, qV_, qP_, qOc_] at h; obtain ⟨rfl, rfl, rfl⟩ := h; obtain rfl := SlA.inj (fun x y h => cOrd_inj h) h_os h_os2; obtain rfl := SlA.inj (fun x y h => cChg_inj h) h_l h_l2; rfl) ⟨b, os, os', l, l', h_os, h_l⟩
theorem clashSinksS_at (b : Bk) (os : List Ord) (l : List Chg) : clashSinksS [.agg (cBk b (.sl 7 (rows cOrd os))), (.sl 9 (rows cChg l))] [] = some (⟨.bool true, [], []⟩) := clashSinksS_atG b os _ l _ .sl .sl
theorem clashSinks_ok : HSound Try.prog 11 clashSinksS := by
 refine sE_ (fn := Try.f11) rfl rfl (by kernel_rfl) fun args bx hr hS => ?_
 obtain ⟨⟨b, os, os', l, l', h_os, h_l⟩, rfl, rfl, rfl⟩ := mO_ hS
 clear hS
 refine ⟨_, (eH_ (g := 35) (by kernel_rfl) alive43_ok (eV_ (g := 36) (by kernel_rfl) few43_ok (eV_ (g := 15) (by kernel_rfl) fair16_ok (eV_ (g := 41) (by kernel_rfl) sink_ok (eV_ (g := 29) (by kernel_rfl) runR_ok (eV_ (g := 22) (by kernel_rfl) plBook_ok (eV_ (g := 42) (by kernel_rfl) findCR_ok (eV_ (g := 43) (by kernel_rfl) last43_ok (eV_ (g := 23) (by kernel_rfl) plOcB_ok (eV_ (g := 44) (by kernel_rfl) lessCR_ok (eV_ (g := 38) (by kernel_rfl) freeC_ok (eN_ _)))))))))))), by simp [Try.f11], by simp [go_sem], fun w Mx pin => ?_⟩
 simp only [hB_at, lab_nil, lab_cons, hOf_nil, hOf_cons]
 refine aW_ (s' := ⟨ofL [(0, .agg (cBk b (.sl 7 (rows cOrd os)))), (1, (.sl 9 (rows cChg l)))], hOf []⟩) ?_ ?_
 · cases h_os <;> cases h_l <;> exact wO_ [] (by simp [go_sem]) (by simp [go_sem]) (by simp [go_sem])
 clear h_os h_l
 obtain ⟨qs, hqs⟩ : ∃ qs, qs = os.take 20 := ⟨_, rfl⟩
 have hlen : qs.length ≤ 20 := by rw [hqs]; simp; omega
 obtain ⟨ms, hms⟩ : ∃ ms, ms = l.take 12 := ⟨_, rfl⟩
 have hml : ms.length ≤ 12 := by rw [hms]; simp; omega
 refine aQ_ ?_
 iterate 2
  refine oC_ fun J hJ => ?_
  simp [go_sem]
  refine hJ _ _ _ ?_
  clear hJ J
 refine oN_ ?_
 refine aS_ fun K2 hK2 => ?_
 refine aQ_ ?_
 iterate 2
  refine oC_ fun J hJ => ?_
  simp [go_sem, alive43S_at]
  refine hJ _ _ _ ?_
  clear hJ J
 refine oN_ ?_
 refine aF_ rfl ?_
 refine aK_ ?_
 refine hK2 _ ?_
 clear hK2
 refine aQ_ ?_
 iterate 8
  refine oC_ fun J hJ => ?_
  simp [go_sem, few43_12 b os l, ← hqs, ← hms]
  refine hJ _ _ _ ?_
  clear hJ J
 refine oN_ ?_
 refine aS_ fun K7 hK7 => ?_
 refine aS_ fun K8 hK8 => ?_
 cases hfr : fairR b qs
 ·
  refine aR_ ?_
  iterate 3
   refine oC_ fun J hJ => ?_
   simp [go_sem, fair16S_at b qs (show qs.length ≤ 100000 by omega), hfr]
   refine hJ _ _ _ ?_
   clear hJ J
  refine oN_ ?_
  refine hK8 _ ?_
  clear hK8
  refine aT_ rfl ?_
  refine aQ_ ?_
  iterate 1
   refine oC_ fun J hJ => ?_
   simp [go_sem]
   refine hJ _ _ _ ?_
   clear hJ J
  refine oN_ ?_
  refine aE_ ?_
  refine fQ_ [] ?_
  simp [go_sem, Try.f11]
 ·
  obtain ⟨hF, hO⟩ := fairR_of hfr
  have hm1 : ms.length ≤ 100000 := by omega
  have hp : FairP (b, qs) := ⟨hF, hO⟩
  obtain ⟨M, hM⟩ : ∃ M, M = sinkL (b, qs) ms := ⟨_, rfl⟩
  have hsk := sinkL_sunk (b, qs) ms
  have hend := sinkL_end (b, qs) ms
  rw [← hM] at hsk hend
  have hMl := hsk.len
  have hMm : M.length ≤ 100000 := by omega
  have rM := runRS_at b qs M ⟨hF, hO, by omega⟩
  rw [hsk.bk] at rM
  have hlS : (bkL (b, qs) ms).2.length ≤ 100000 := by have := (bkL_fair (p := (b, qs)) ⟨hF, hO⟩ ms).2; simp at this; omega
  refine aR_ ?_
  iterate 3
   refine oC_ fun J hJ => ?_
   simp [go_sem, fair16S_at b qs (show qs.length ≤ 100000 by omega), hfr]
   refine hJ _ _ _ ?_
   clear hJ J
  refine oN_ ?_
  refine hK8 _ ?_
  clear hK8
  refine aF_ rfl ?_
  refine aK_ ?_
  refine hK7 _ ?_
  clear hK7
  refine aQ_ ?_
  iterate 4
   refine oC_ fun J hJ => ?_
   simp [go_sem, sinkS_at b qs ms ⟨hF, hO, by omega⟩, ← hM]
   refine hJ _ _ _ ?_
   clear hJ J
  refine oN_ ?_
  refine aQ_ ?_
  iterate 9
   refine oC_ fun J hJ => ?_
   simp [go_sem, runRS_at b qs ms ⟨hF, hO, by omega⟩]
   refine hJ _ _ _ ?_
   clear hJ J
  refine oN_ ?_
  refine aS_ fun K13 hK13 => ?_
  refine awp_regionW ?_
  refine opsW_cons fun J hJ => ?_
  simp [go_sem, ↓rM]
  refine hJ _ _ _ ?_
  clear hJ J
  refine opsW_cons fun J hJ => ?_
  simp [go_sem, ↓rM]
  refine hJ _ _ _ ?_
  clear hJ J
  refine opsW_frz (e := 29) (sz := 9) (L := rows cChg M) (z := false) (0, 432) (by simp [go_sem]) ?_
  refine opsW_cons fun J hJ => ?_
  simp [go_sem, ↓rM]
  refine hJ _ _ _ ?_
  clear hJ J
  refine opsW_cons fun J hJ => ?_
  simp [go_sem, ↓rM]
  refine hJ _ _ _ ?_
  clear hJ J
  refine opsW_cons fun J hJ => ?_
  simp [go_sem, ↓rM]
  refine hJ _ _ _ ?_
  clear hJ J
  refine opsW_cons fun J hJ => ?_
  simp [go_sem, ↓rM]
  refine hJ _ _ _ ?_
  clear hJ J
  refine opsW_cons fun J hJ => ?_
  simp [go_sem, ↓rM]
  refine hJ _ _ _ ?_
  clear hJ J
  refine opsW_cons fun J hJ => ?_
  simp [go_sem, ↓rM]
  refine hJ _ _ _ ?_
  clear hJ J
  refine opsW_cons fun J hJ => ?_
  simp [go_sem, ↓rM]
  refine hJ _ _ _ ?_
  clear hJ J
  refine opsW_nil ?_
  refine hK13 _ ?_
  clear hK13
  refine aS_ fun K14 hK14 => ?_
  refine aQ_ ?_
  iterate 11
   refine oC_ fun J hJ => ?_
   simp [go_sem, hMl, plBookS_at (bkL (b, qs) ms).1 (bkL (b, qs) ms).2 (bkL (b, qs) ms).1 (bkL (b, qs) ms).2 hlS, sameB_r]
   refine hJ _ _ _ ?_
   clear hJ J
  refine oN_ ?_
  refine aF_ rfl ?_
  refine aK_ ?_
  refine hK14 _ ?_
  clear hK14
  refine aS_ fun K18 hK18 => ?_
  refine aQ_ ?_
  iterate 1
   refine oC_ fun J hJ => ?_
   simp [go_sem]
   refine hJ _ _ _ ?_
   clear hJ J
  refine oN_ ?_
  refine aB_ ?_
  refine aL_ (ι := { q : List Chg × List Chg // q.1 ++ q.2 = ms ∧ ∀ (j : Nat) (y : Chg), q.1[j]? = some y → placeC ms y.id = j }) (fun q => sinksI b qs M ms q.1.1 q.1.2) (fun q => q.1.2.length) ⟨([], ms), rfl, (fun j y h => by simp at h)⟩ ?_ ?_
  · refine wO_ [((0, 32), some (0, 32)), ((0, 997), some (0, 432)), ((0, 998), some (0, 496)), ((0, 999), some (0, 592))] (by simp [go_sem]) ?_ ?_ <;> simp [go_sem, hMl]
  intro ⟨⟨pre, post⟩, hl, hgo⟩
  simp only at hl hgo
  have hpl := lS_ hl hm1
  simp only [sinksI]
  refine aS_ fun K20 hK20 => ?_
  refine aQ_ ?_
  iterate 4
   refine oC_ fun J hJ => ?_
   simp [go_sem]
   refine hJ _ _ _ ?_
   clear hJ J
  refine oN_ ?_
  refine aC_ (t := _) rfl (fun c22 => ?_) (fun c22 => ?_)
  ·
   simp [go_sem] at c22
   obtain ⟨x, post, rfl, hx⟩ := mL_ hl c22
   obtain ⟨n, y, hpn, hnl, hy, hyid, hym⟩ := sunk_place hsk (List.mem_of_getElem? hx)
   refine aK_ ?_
   refine hK20 _ ?_
   clear hK20
   refine aS_ fun K23 hK23 => ?_
   refine aB_ ?_
   refine aQ_ ?_
   iterate 8
    refine oC_ fun J hJ => ?_
    simp [go_sem, ↓hx, hx, findCRS_at M x.id hMm, hpn]
    refine hJ _ _ _ ?_
    clear hJ J
   refine oN_ ?_
   refine aS_ fun K25 hK25 => ?_
   refine aQ_ ?_
   iterate 2
    refine oC_ fun J hJ => ?_
    simp [go_sem, show ¬ ((n : Int) < 0) by omega]
    refine hJ _ _ _ ?_
    clear hJ J
   refine oN_ ?_
   refine aF_ rfl ?_
   refine aK_ ?_
   refine hK25 _ ?_
   clear hK25
   refine aS_ fun K29 hK29 => ?_
   refine aS_ fun K30 hK30 => ?_
   by_cases hf : placeC ms x.id = (pre.length : Int)
   ·
    refine aR_ ?_
    iterate 9
     refine oC_ fun J hJ => ?_
     simp [go_sem, ↓hx, hx, findCRS_at ms x.id hm1, hf]
     refine hJ _ _ _ ?_
     clear hJ J
    refine oN_ ?_
    refine hK30 _ ?_
    clear hK30
    refine aF_ rfl ?_
    refine aK_ ?_
    refine hK29 _ ?_
    clear hK29
    refine aS_ fun K33 hK33 => ?_
    rcases (show y = x ∨ (y ≠ x ∧ lastL43 ms x.id ≠ (pre.length : Int)) by
      by_cases hyx : y = x
      · exact .inl hyx
      · exact .inr ⟨hyx, fun hla => hyx (only_of hx hf hla y hym hyid)⟩) with hyx | ⟨hyx, hla⟩
    ·
     have hxy := hyx.symm
     subst hxy
     refine aD_ ?_
     iterate 20
      refine oC_ fun J hJ => ?_
      simp [go_sem, hnl, ↓hy, ↓hx, hx, hy]
      refine hJ _ _ _ ?_
      clear hJ J
     refine oN_ ?_
     refine ⟨rfl, ?_⟩
     refine hK33 _ ?_
     clear hK33
     refine aF_ rfl ?_
     refine aK_ ?_
     refine hK23 _ ?_
     clear hK23
     refine aR_ ?_
     iterate 3
      refine oC_ fun J hJ => ?_
      simp [go_sem]
      refine hJ _ _ _ ?_
      clear hJ J
     refine oN_ ?_
     refine ⟨⟨(pre ++ [x], post), by simp [← hl], by exact snoc_all hgo hf⟩, ?_, by simp⟩
     refine wO_ [((0, 32), some (0, 32)), ((0, 997), some (0, 997)), ((0, 998), some (0, 998)), ((0, 999), some (0, 999))] (by simp [go_sem]) ?_ ?_ <;> simp [go_sem, wN_ hpl]
    ·
     have hla2 : (lastL43 ms x.id == (pre.length : Int)) = false := by simpa using hla
     refine aD_ ?_
     iterate 20
      refine oC_ fun J hJ => ?_
      simp [go_sem, hnl, ↓hy, ↓hx, hx, hy, hyx, last43S_at ms x.id hm1, hla2]
      refine hJ _ _ _ ?_
      clear hJ J
     refine oN_ ?_
     refine ⟨rfl, ?_⟩
     refine hK33 _ ?_
     clear hK33
     refine aF_ rfl ?_
     refine aK_ ?_
     refine hK23 _ ?_
     clear hK23
     refine aR_ ?_
     iterate 3
      refine oC_ fun J hJ => ?_
      simp [go_sem]
      refine hJ _ _ _ ?_
      clear hJ J
     refine oN_ ?_
     refine ⟨⟨(pre ++ [x], post), by simp [← hl], by exact snoc_all hgo hf⟩, ?_, by simp⟩
     refine wO_ [((0, 32), some (0, 32)), ((0, 997), some (0, 997)), ((0, 998), some (0, 998)), ((0, 999), some (0, 999))] (by simp [go_sem]) ?_ ?_ <;> simp [go_sem, wN_ hpl]
   ·
    have hf2 : (placeC ms x.id == (pre.length : Int)) = false := by simpa using hf
    have hf3 : (placeC ms x.id != (pre.length : Int)) = true := by simpa using hf
    refine aR_ ?_
    iterate 9
     refine oC_ fun J hJ => ?_
     simp [go_sem, ↓hx, hx, findCRS_at ms x.id hm1, hf2, hf3]
     refine hJ _ _ _ ?_
     clear hJ J
    refine oN_ ?_
    refine hK30 _ ?_
    clear hK30
    refine aT_ rfl ?_
    refine aQ_ ?_
    iterate 1
     refine oC_ fun J hJ => ?_
     simp [go_sem]
     refine hJ _ _ _ ?_
     clear hJ J
    refine oN_ ?_
    refine aE_ ?_
    refine fQ_ [] ?_
    simp [go_sem, Try.f11]
  ·
   simp [go_sem] at c22
   obtain ⟨rfl, rfl⟩ := mN_ hl c22
   have hids := ids_of hgo
   refine aX_ ?_
   simp only [go_sem]
   refine hK18 _ ?_
   clear hK18
   refine aS_ fun K36 hK36 => ?_
   refine aQ_ ?_
   iterate 1
    refine oC_ fun J hJ => ?_
    simp [go_sem]
    refine hJ _ _ _ ?_
    clear hJ J
   refine oN_ ?_
   refine aB_ ?_
   refine aL_ (ι := { q : List Chg × List Chg // q.1 ++ q.2 = ms ∧ True }) (fun q => sinksJ b qs M ms q.1.1 q.1.2) (fun q => q.1.2.length) ⟨([], ms), rfl, trivial⟩ ?_ ?_
   · refine wO_ [((0, 32), some (0, 32)), ((0, 997), some (0, 997)), ((0, 998), some (0, 998)), ((0, 999), some (0, 999))] (by simp [go_sem]) ?_ ?_ <;> simp [go_sem]
   intro ⟨⟨pre, post⟩, hl, hgo⟩
   simp only at hl hgo
   have hpl := lS_ hl hm1
   simp only [sinksJ]
   refine aS_ fun K38 hK38 => ?_
   refine aQ_ ?_
   iterate 4
    refine oC_ fun J hJ => ?_
    simp [go_sem]
    refine hJ _ _ _ ?_
    clear hJ J
   refine oN_ ?_
   refine aC_ (t := _) rfl (fun c40 => ?_) (fun c40 => ?_)
   ·
    simp [go_sem] at c40
    obtain ⟨x, post, rfl, hx⟩ := mL_ hl c40
    have hlt := (List.getElem?_eq_some_iff.1 hx).1
    obtain ⟨n, y, hpn, hnl, hy, hyid, hym⟩ := sunk_place hsk (List.mem_of_getElem? hx)
    obtain ⟨oc, ho1, ho2⟩ := sunk_out hsk hids hx hpn
    refine aK_ ?_
    refine hK38 _ ?_
    clear hK38
    refine aS_ fun K41 hK41 => ?_
    refine aB_ ?_
    refine aU_ ?_
    iterate 16
     refine oC_ fun J hJ => ?_
     simp [go_sem, ↓hx, hx, ↓ho1, ↓ho2, hlt, findCRS_at M x.id hMm, hpn, hnl, plOcBS_at oc oc (effsBig_ou (b, qs) hp ms oc (List.mem_of_getElem? ho1))]
     refine hJ _ _ _ ?_
     clear hJ J
    refine oN_ ?_
    refine ⟨rfl, ?_⟩
    refine aF_ rfl ?_
    refine aK_ ?_
    refine hK41 _ ?_
    clear hK41
    refine aR_ ?_
    iterate 3
     refine oC_ fun J hJ => ?_
     simp [go_sem]
     refine hJ _ _ _ ?_
     clear hJ J
    refine oN_ ?_
    refine ⟨⟨(pre ++ [x], post), by simp [← hl], by exact trivial⟩, ?_, by simp⟩
    refine wO_ [((0, 32), some (0, 32)), ((0, 997), some (0, 997)), ((0, 998), some (0, 998)), ((0, 999), some (0, 999))] (by simp [go_sem]) ?_ ?_ <;> simp [go_sem, wN_ hpl]
   ·
    simp [go_sem] at c40
    refine aX_ ?_
    simp only [go_sem]
    refine hK36 _ ?_
    clear hK36
    refine aS_ fun K45 hK45 => ?_
    refine aQ_ ?_
    iterate 1
     refine oC_ fun J hJ => ?_
     simp [go_sem]
     refine hJ _ _ _ ?_
     clear hJ J
    refine oN_ ?_
    refine aB_ ?_
    refine aL_ (ι := { i : Nat // i ≤ M.length }) (fun q => sinksK b qs M q.1) (fun q => M.length - q.1) ⟨0, Nat.zero_le _⟩ ?_ ?_
    · refine wO_ [((0, 32), some (0, 32)), ((0, 997), some (0, 997))] (by simp [go_sem]) ?_ ?_ <;> simp [go_sem]
    intro ⟨i, hi⟩
    try simp only at hi
    have wi := wN_ (n := i) (by omega)
    simp only [sinksK]
    refine aS_ fun K47 hK47 => ?_
    refine aQ_ ?_
    iterate 5
     refine oC_ fun J hJ => ?_
     simp [go_sem]
     refine hJ _ _ _ ?_
     clear hJ J
    refine oN_ ?_
    refine aC_ (t := _) rfl (fun c49 => ?_) (fun c49 => ?_)
    ·
     simp [go_sem] at c49
     refine aK_ ?_
     refine hK47 _ ?_
     clear hK47
     refine aS_ fun K50 hK50 => ?_
     refine aB_ ?_
     refine aS_ fun K51 hK51 => ?_
     have hi1 : i + 1 < M.length := by omega
     obtain ⟨u, v, hu, hv⟩ := get_two hi1
     have hk1 : i < M.length := by omega
     have hkt : ((i : Int) + 1).toNat = i + 1 := by omega
     have h0 : (0 : Int) ≤ (i : Int) + 1 := by omega
     have hkl : (i : Int) + 1 < M.length := by omega
     have hr := hend i
     rw [readyB_eq hu hv] at hr
     have hfz := freeZ_nat (b, qs) M i
     cases hl2 : lessChg v u
     ·
      refine aD_ ?_
      iterate 16
       refine oC_ fun J hJ => ?_
       simp [go_sem, wi, hi1, hk1, hkt, h0, hkl, ↓hu, ↓hv, lessCRS_at v u, lessCR_eq, hl2]
       refine hJ _ _ _ ?_
       clear hJ J
      refine oN_ ?_
      refine ⟨rfl, ?_⟩
      refine hK51 _ ?_
      clear hK51
      refine aF_ rfl ?_
      refine aK_ ?_
      refine hK50 _ ?_
      clear hK50
      refine aR_ ?_
      iterate 3
       refine oC_ fun J hJ => ?_
       simp [go_sem]
       refine hJ _ _ _ ?_
       clear hJ J
      refine oN_ ?_
      refine ⟨⟨i + 1, by omega⟩, ?_, by simp; omega⟩
      refine wO_ [((0, 32), some (0, 32)), ((0, 997), some (0, 997))] (by simp [go_sem]) ?_ ?_ <;> simp [go_sem, wi]
     ·
      rw [hl2, Bool.true_and] at hr
      refine aD_ ?_
      iterate 16
       refine oC_ fun J hJ => ?_
       simp [go_sem, wi, hi1, hk1, hkt, h0, hkl, ↓hu, ↓hv, lessCRS_at v u, lessCR_eq, hl2, freeCS_at b qs M (i : Int) ⟨hF, hO, by omega⟩, hfz, hr]
       refine hJ _ _ _ ?_
       clear hJ J
      refine oN_ ?_
      refine ⟨rfl, ?_⟩
      refine hK51 _ ?_
      clear hK51
      refine aF_ rfl ?_
      refine aK_ ?_
      refine hK50 _ ?_
      clear hK50
      refine aR_ ?_
      iterate 3
       refine oC_ fun J hJ => ?_
       simp [go_sem]
       refine hJ _ _ _ ?_
       clear hJ J
      refine oN_ ?_
      refine ⟨⟨i + 1, by omega⟩, ?_, by simp; omega⟩
      refine wO_ [((0, 32), some (0, 32)), ((0, 997), some (0, 997))] (by simp [go_sem]) ?_ ?_ <;> simp [go_sem, wi]
    ·
     simp [go_sem] at c49
     refine aX_ ?_
     simp only [go_sem]
     refine hK45 _ ?_
     clear hK45
     refine aQ_ ?_
     iterate 1
      refine oC_ fun J hJ => ?_
      simp [go_sem]
      refine hJ _ _ _ ?_
      clear hJ J
     refine oN_ ?_
     refine aE_ ?_
     refine fQ_ [] ?_
     simp [go_sem, Try.f11]
theorem ClashSinks_walk (w : World) (l0 : List Int) (a0 : Option Addr) (c0 : Nat) (L0 : List (List Int)) (g0 : l0.length = 24) (_ : ∀ x ∈ l0, I64 x) (h0 : L0.length ≤ c0) (m0 : c0 ≤ maxLen) (s0 : SlK w.heap.size 7 w a0 L0) (a1 : Option Addr) (c1 : Nat) (L1 : List (List Int)) (h1 : L1.length ≤ c1) (m1 : c1 ≤ maxLen) (s1 : SlK w.heap.size 9 w a1 L1) :
  Calls Try.prog 11 #[.agg (bk l0 (.slice a0 L0.length c0)), .slice a1 L1.length c1] w fun e w' => e = .returned (.bool true) ∧ Below w.heap.size w w' := by
 obtain ⟨b0, os0, e0, r0⟩ := book_rep g0 h0 m0 s0
 obtain ⟨os1, e1, r1⟩ := slk_rows ex_Chg s1 h1 m1
 refine true_walk clashSinks_ok (clashSinksS_at b0 os0 os1) w rfl fun i v hi => ?_
 match i, hi with
 | 0, hi => cases hi; exact r0
 | 1, hi => cases hi; exact r1
end Go.Proofs.Ytiifcalgolkpiaa.AE
