/-
 ClashTells. Conditions: none; every contract names its own.
-/
import Derived.Test.YtiifcalgolkpiaaOCl4
import Derived.Test.YtiifcalgolkpiaaPg
set_option linter.constructorNameAsVariable false
namespace Go.Proofs.Ytiifcalgolkpiaa.AE
open Go Go.Proofs Go.RowKit
set_option linter.unusedVariables false
set_option linter.unusedSimpArgs false
set_option maxRecDepth 100000
set_option maxHeartbeats 4000000
theorem innL_pre (p : Bk × List Ord) (l : List Chg) (x : Chg) (i : Nat) {n : Nat} : ∀ {m : Nat}, n ≤ m → ∃ R, innL p l x i m = innL p l x i n ++ R
 | 0, h => ⟨[], by
  obtain rfl : n = 0 := by omega
  simp⟩
 | m + 1, h => by
  rcases Nat.lt_or_ge m n with h2 | h2
  ·
   obtain rfl : n = m + 1 := by omega
   exact ⟨[], by simp⟩
  ·
   obtain ⟨R, hR⟩ := innL_pre p l x i h2
   exact ⟨R ++ _, by rw [innL, hR, List.append_assoc]⟩
theorem allL_pre (p : Bk × List Ord) (l : List Chg) {n : Nat} : ∀ {m : Nat}, n ≤ m → ∃ R, allL p l m = allL p l n ++ R
 | 0, h => ⟨[], by
  obtain rfl : n = 0 := by omega
  simp⟩
 | m + 1, h => by
  rcases Nat.lt_or_ge m n with h2 | h2
  ·
   obtain rfl : n = m + 1 := by omega
   exact ⟨[], by simp⟩
  ·
   obtain ⟨R, hR⟩ := allL_pre p l h2
   exact ⟨R ++ _, by rw [allL, hR, List.append_assoc]⟩
theorem all_at {p : Bk × List Ord} {l : List Chg} {x y : Chg} {i n : Nat} (hx : l[i]? = some x) (hy : l[i + 1 + n]? = some y) (hc : clashB p x y = true) :
  (allL p l l.length)[(allL p l i ++ innL p l x i n).length]? = some (i, i + 1 + n) ∧ (allL p l i ++ innL p l x i n).length < (allL p l l.length).length := by
 have h1 := (List.getElem?_eq_some_iff.1 hx).1
 have h2 := (List.getElem?_eq_some_iff.1 hy).1
 obtain ⟨R, hR⟩ := allL_pre p l (n := i + 1) (m := l.length) (by omega)
 obtain ⟨T, hT⟩ := innL_pre p l x i (n := n + 1) (m := l.length - (i + 1)) (by omega)
 have e : allL p l l.length = (allL p l i ++ innL p l x i n) ++ (i, i + 1 + n) :: (T ++ R) := by
  rw [hR, allL_succ hx, hT, innL_succ hy, if_pos hc]
  simp
 rw [e]
 exact ⟨by simp, by simp⟩
def tellsI (b : Bk) (qs : List Ord) (c d : Chg) (l pre _post : List Chg) : St := ⟨ofL [(3, .sl 9 (rows cChg l)), (4, .ref (0, 64) 0), (5, .ref (0, 80) 0), (6, .ref (0, 96) 0), (9, .own (0, 999) (allL (b, qs) l l.length).length), (10, .int .i64 ((allL (b, qs) l pre.length).length : Nat)), (11, .int .i64 pre.length)], hOf [((0, 64), .obj (cBk b (.sl 7 (rows cOrd qs)))), ((0, 80), .obj (cChg c)), ((0, 96), .obj (cChg d)), ((0, 999), .row 79 2 (rows cPr (allL (b, qs) l l.length)) false)]⟩
def tellsJ (b : Bk) (qs : List Ord) (c d : Chg) (l : List Chg) (x : Chg) (i n : Nat) : St := ⟨ofL [(3, .sl 9 (rows cChg l)), (4, .ref (0, 64) 0), (5, .ref (0, 80) 0), (6, .ref (0, 96) 0), (9, .own (0, 999) (allL (b, qs) l l.length).length), (10, .int .i64 ((allL (b, qs) l i ++ innL (b, qs) l x i n).length : Nat)), (11, .int .i64 i), (12, .int .i64 ((i + 1 + n : Nat) : Int))], hOf [((0, 64), .obj (cBk b (.sl 7 (rows cOrd qs)))), ((0, 80), .obj (cChg c)), ((0, 96), .obj (cChg d)), ((0, 999), .row 79 2 (rows cPr (allL (b, qs) l l.length)) false)]⟩
structure clashTellsX where
 b : Bk
 os : List Ord
 os' : AV
 c : Chg
 d : Chg
 l : List Chg
 l' : AV
 h_os : SlA 7 cOrd os os'
 h_l : SlA 9 cChg l l'
noncomputable def clashTellsS : HSpec := mkH (ι := clashTellsX) (fun ⟨b, os, os', c, d, l, l', h_os, h_l⟩ => ([.agg (cBk b os'), .agg (cChg c), .agg (cChg d), l'], [])) fun ⟨b, os, os', c, d, l, l', h_os, h_l⟩ => ⟨.bool true, [], []⟩
theorem clashTellsS_atG (b : Bk) (os : List Ord) (os' : AV) (c : Chg) (d : Chg) (l : List Chg) (l' : AV) (h_os : SlA 7 cOrd os os') (h_l : SlA 9 cChg l l') : clashTellsS [.agg (cBk b os'), .agg (cChg c), .agg (cChg d), l'] [] = some (⟨.bool true, [], []⟩) :=
 mA_ (ι := clashTellsX) (fun i j h => by obtain ⟨b, os, os', c, d, l, l', h_os, h_l⟩ := i; obtain ⟨b2, os2, os'2, c2, d2, l2, l'2, h_os2, h_l2⟩ := j; simp [and_assoc, qB_, qI_, qO_, qC_, qE_, qK_, qR_, qV_, qP_, qOc_] at h; obtain ⟨rfl, rfl, rfl, rfl, rfl⟩ := h; obtain rfl := SlA.inj (fun x y h => cOrd_inj h) h_os h_os2; obtain rfl := SlA.inj (fun x y h => cChg_inj h) h_l h_l2; rfl) ⟨b, os, os', c, d, l, l', h_os, h_l⟩
theorem clashTellsS_at (b : Bk) (os : List Ord) (c : Chg) (d : Chg) (l : List Chg) : clashTellsS [.agg (cBk b (.sl 7 (rows cOrd os))), .agg (cChg c), .agg (cChg d), (.sl 9 (rows cChg l))] [] = some (⟨.bool true, [], []⟩) := clashTellsS_atG b os _ c d l _ .sl .sl
theorem clashTells_ok : HSound Try.prog 12 clashTellsS := by
 refine sE_ (fn := Try.f12) rfl rfl (by kernel_rfl) fun args bx hr hS => ?_
 obtain ⟨⟨b, os, os', c, d, l, l', h_os, h_l⟩, rfl, rfl, rfl⟩ := mO_ hS
 clear hS
 refine ⟨_, (eH_ (g := 35) (by kernel_rfl) alive43_ok (eV_ (g := 36) (by kernel_rfl) few43_ok (eV_ (g := 15) (by kernel_rfl) fair16_ok (eV_ (g := 45) (by kernel_rfl) allC_ok (eV_ (g := 40) (by kernel_rfl) clashR_ok (eV_ (g := 46) (by kernel_rfl) clash_ok (eN_ _))))))), by simp [Try.f12], by simp [go_sem], fun w Mx pin => ?_⟩
 simp only [hB_at, lab_nil, lab_cons, hOf_nil, hOf_cons]
 refine aW_ (s' := ⟨ofL [(0, .agg (cBk b (.sl 7 (rows cOrd os)))), (1, .agg (cChg c)), (2, .agg (cChg d)), (3, (.sl 9 (rows cChg l)))], hOf []⟩) ?_ ?_
 · cases h_os <;> cases h_l <;> exact wO_ [] (by simp [go_sem]) (by simp [go_sem]) (by simp [go_sem])
 clear h_os h_l
 obtain ⟨qs, hqs⟩ : ∃ qs, qs = os.take 20 := ⟨_, rfl⟩
 have hlen : qs.length ≤ 20 := by rw [hqs]; simp; omega
 obtain ⟨ms, hms⟩ : ∃ ms, ms = l.take 12 := ⟨_, rfl⟩
 have hml : ms.length ≤ 12 := by rw [hms]; simp; omega
 refine aQ_ ?_
 iterate 4
  refine oC_ fun J hJ => ?_
  simp [go_sem]
  refine hJ _ _ _ ?_
  clear hJ J
 refine oN_ ?_
 refine aS_ fun K2 hK2 => ?_
 refine aQ_ ?_
 iterate 2
  refine oC_ fun J hJ => ?_
  simp [go_sem, alive43S_at]
  refine hJ _ _ _ ?_
  clear hJ J
 refine oN_ ?_
 refine aF_ rfl ?_
 refine aK_ ?_
 refine hK2 _ ?_
 clear hK2
 refine aQ_ ?_
 iterate 8
  refine oC_ fun J hJ => ?_
  simp [go_sem, few43_12 b os l, ← hqs, ← hms]
  refine hJ _ _ _ ?_
  clear hJ J
 refine oN_ ?_
 refine aS_ fun K7 hK7 => ?_
 refine aS_ fun K8 hK8 => ?_
 cases hfr : fairR b qs
 ·
  refine aR_ ?_
  iterate 3
   refine oC_ fun J hJ => ?_
   simp [go_sem, fair16S_at b qs (show qs.length ≤ 100000 by omega), hfr]
   refine hJ _ _ _ ?_
   clear hJ J
  refine oN_ ?_
  refine hK8 _ ?_
  clear hK8
  refine aT_ rfl ?_
  refine aQ_ ?_
  iterate 1
   refine oC_ fun J hJ => ?_
   simp [go_sem]
   refine hJ _ _ _ ?_
   clear hJ J
  refine oN_ ?_
  refine aE_ ?_
  refine fQ_ [] ?_
  simp [go_sem, Try.f12]
 ·
  obtain ⟨hF, hO⟩ := fairR_of hfr
  have hm1 : ms.length ≤ 100000 := by omega
  have hcm := clashB_comm (b, qs) c d
  refine aR_ ?_
  iterate 3
   refine oC_ fun J hJ => ?_
   simp [go_sem, fair16S_at b qs (show qs.length ≤ 100000 by omega), hfr]
   refine hJ _ _ _ ?_
   clear hJ J
  refine oN_ ?_
  refine hK8 _ ?_
  clear hK8
  refine aF_ rfl ?_
  refine aK_ ?_
  refine hK7 _ ?_
  clear hK7
  refine aQ_ ?_
  iterate 4
   refine oC_ fun J hJ => ?_
   simp [go_sem, allCS_at b qs ms ⟨hF, hO, by omega, by omega⟩]
   refine hJ _ _ _ ?_
   clear hJ J
  refine oN_ ?_
  refine aQ_ ?_
  iterate 1
   refine oC_ fun J hJ => ?_
   simp [go_sem]
   refine hJ _ _ _ ?_
   clear hJ J
  refine oN_ ?_
  refine aS_ fun K13 hK13 => ?_
  refine aQ_ ?_
  iterate 1
   refine oC_ fun J hJ => ?_
   simp [go_sem]
   refine hJ _ _ _ ?_
   clear hJ J
  refine oN_ ?_
  refine aB_ ?_
  refine aL_ (ι := { q : List Chg × List Chg // q.1 ++ q.2 = ms ∧ True }) (fun q => tellsI b qs c d ms q.1.1 q.1.2) (fun q => q.1.2.length) ⟨([], ms), rfl, trivial⟩ ?_ ?_
  · refine wO_ [((0, 64), some (0, 64)), ((0, 80), some (0, 80)), ((0, 96), some (0, 96)), ((0, 999), some (0, 416))] (by simp [go_sem]) ?_ ?_ <;> simp [go_sem]
  intro ⟨⟨pre, post⟩, hl, hgo⟩
  simp only at hl hgo
  have hpl := lS_ hl hm1
  simp only [tellsI]
  refine aS_ fun K15 hK15 => ?_
  refine aQ_ ?_
  iterate 4
   refine oC_ fun J hJ => ?_
   simp [go_sem]
   refine hJ _ _ _ ?_
   clear hJ J
  refine oN_ ?_
  refine aC_ (t := _) rfl (fun c17 => ?_) (fun c17 => ?_)
  ·
   simp [go_sem] at c17
   obtain ⟨x, post, rfl, hx⟩ := mL_ hl c17
   have wp := wN_ (n := pre.length) (by omega)
   refine aK_ ?_
   refine hK15 _ ?_
   clear hK15
   refine aS_ fun K18 hK18 => ?_
   refine aB_ ?_
   refine aQ_ ?_
   iterate 3
    refine oC_ fun J hJ => ?_
    simp [go_sem, wp]
    refine hJ _ _ _ ?_
    clear hJ J
   refine oN_ ?_
   refine aB_ ?_
   refine aL_ (ι := { n : Nat // pre.length + 1 + n ≤ ms.length }) (fun q => tellsJ b qs c d ms x pre.length q.1) (fun q => ms.length - q.1) ⟨0, by omega⟩ ?_ ?_
   · refine wO_ [((0, 64), some (0, 64)), ((0, 80), some (0, 80)), ((0, 96), some (0, 96)), ((0, 999), some (0, 999))] (by simp [go_sem]) ?_ ?_ <;> simp [go_sem, wp]
   intro ⟨n, hn⟩
   try simp only at hn
   have hal := allL_len (b, qs) ms pre.length
   have hil := innL_len (b, qs) ms x pre.length n
   have hmul : pre.length * ms.length ≤ 100 * 100 := Nat.mul_le_mul (by omega) (by omega)
   simp only [tellsJ]
   have hAl : (allL (b, qs) ms pre.length ++ innL (b, qs) ms x pre.length n).length ≤ 20200 := by simp; omega
   generalize hq : pre.length + 1 + n = q at *
   generalize hA : (allL (b, qs) ms pre.length ++ innL (b, qs) ms x pre.length n) = A at *
   refine aS_ fun K20 hK20 => ?_
   refine aQ_ ?_
   iterate 4
    refine oC_ fun J hJ => ?_
    simp [go_sem]
    refine hJ _ _ _ ?_
    clear hJ J
   refine oN_ ?_
   refine aC_ (t := _) rfl (fun c22 => ?_) (fun c22 => ?_)
   ·
    simp [go_sem] at c22
    have hnl : q < ms.length := by omega
    have hpl3 : pre.length < ms.length := by omega
    obtain ⟨y, hy⟩ : ∃ y, ms[q]? = some y := ⟨_, List.getElem?_eq_getElem hnl⟩
    have hy2 : ms[pre.length + 1 + n]? = some y := by rw [hq]; exact hy
    have hA2 : allL (b, qs) ms pre.length ++ innL (b, qs) ms x pre.length (n + 1) = A ++ (if clashB (b, qs) x y = true then [(pre.length, q)] else []) := by rw [innL_succ hy2, ← List.append_assoc, hA, hq]
    have wn := wN_ (n := q) (by omega)
    have wz := wN_ (n := A.length) (by omega)
    refine aK_ ?_
    refine hK20 _ ?_
    clear hK20
    refine aS_ fun K23 hK23 => ?_
    refine aB_ ?_
    refine aS_ fun K24 hK24 => ?_
    cases hcl : clashB (b, qs) x y
    ·
     refine aD_ ?_
     iterate 10
      refine oC_ fun J hJ => ?_
      simp [go_sem, hnl, hpl3, ↓hx, ↓hy, clashRS_at b qs x y ⟨hF, hO, by omega⟩, hcl]
      refine hJ _ _ _ ?_
      clear hJ J
     refine oN_ ?_
     refine ⟨rfl, ?_⟩
     refine hK24 _ ?_
     clear hK24
     refine aF_ rfl ?_
     refine aK_ ?_
     refine hK23 _ ?_
     clear hK23
     refine aR_ ?_
     iterate 3
      refine oC_ fun J hJ => ?_
      simp [go_sem, wn]
      refine hJ _ _ _ ?_
      clear hJ J
     refine oN_ ?_
     refine ⟨⟨n + 1, by omega⟩, ?_, by simp; omega⟩
     refine wO_ [((0, 64), some (0, 64)), ((0, 80), some (0, 80)), ((0, 96), some (0, 96)), ((0, 999), some (0, 999))] (by simp [go_sem]) ?_ ?_ <;> simp [go_sem, wn, wz, ↓hA2, hcl] <;> omega
    ·
     obtain ⟨hg1, hg2⟩ := all_at hx hy2 hcl
     rw [hA, hq] at hg1
     rw [hA] at hg2
     have hg3 : ¬ ((((allL (b, qs) ms ms.length).length : Nat) : Int) ≤ ((A.length : Nat) : Int)) := by omega
     refine aD_ ?_
     iterate 10
      refine oC_ fun J hJ => ?_
      simp [go_sem, hnl, hpl3, ↓hx, ↓hy, clashRS_at b qs x y ⟨hF, hO, by omega⟩, hcl]
      refine hJ _ _ _ ?_
      clear hJ J
     refine oN_ ?_
     refine ⟨rfl, ?_⟩
     refine hK24 _ ?_
     clear hK24
     refine aT_ rfl ?_
     refine aS_ fun K26 hK26 => ?_
     refine aQ_ ?_
     iterate 14
      refine oC_ fun J hJ => ?_
      simp [go_sem, hg3, hg2, ↓hg1, cPr]
      refine hJ _ _ _ ?_
      clear hJ J
     refine oN_ ?_
     refine aF_ rfl ?_
     refine aK_ ?_
     refine hK26 _ ?_
     clear hK26
     refine aR_ ?_
     iterate 3
      refine oC_ fun J hJ => ?_
      simp [go_sem, wz]
      refine hJ _ _ _ ?_
      clear hJ J
     refine oN_ ?_
     refine hK23 _ ?_
     clear hK23
     refine aR_ ?_
     iterate 3
      refine oC_ fun J hJ => ?_
      simp [go_sem, wn]
      refine hJ _ _ _ ?_
      clear hJ J
     refine oN_ ?_
     refine ⟨⟨n + 1, by omega⟩, ?_, by simp; omega⟩
     refine wO_ [((0, 64), some (0, 64)), ((0, 80), some (0, 80)), ((0, 96), some (0, 96)), ((0, 999), some (0, 999))] (by simp [go_sem]) ?_ ?_ <;> simp [go_sem, wn, wz, ↓hA2, hcl] <;> omega
   ·
    simp [go_sem] at c22
    have hnl : n = ms.length - (pre.length + 1) := by omega
    have hA3 : allL (b, qs) ms (pre.length + 1) = A := by rw [allL_succ hx, ← hnl, hA]
    refine aX_ ?_
    simp only [go_sem]
    refine hK18 _ ?_
    clear hK18
    refine aR_ ?_
    iterate 3
     refine oC_ fun J hJ => ?_
     simp [go_sem, wp]
     refine hJ _ _ _ ?_
     clear hJ J
    refine oN_ ?_
    refine ⟨⟨(pre ++ [x], post), by simp [← hl], by exact trivial⟩, ?_, by simp⟩
    refine wO_ [((0, 64), some (0, 64)), ((0, 80), some (0, 80)), ((0, 96), some (0, 96)), ((0, 999), some (0, 999))] (by simp [go_sem]) ?_ ?_ <;> simp [go_sem, hA3, wN_ hpl]
  ·
   simp [go_sem] at c17
   obtain ⟨rfl, rfl⟩ := mN_ hl c17
   refine aX_ ?_
   simp only [go_sem]
   refine hK13 _ ?_
   clear hK13
   refine aU_ ?_
   iterate 27
    refine oC_ fun J hJ => ?_
    simp [go_sem, clashS_at b qs c d ⟨hF, hO, by omega⟩, clashS_at b qs d c ⟨hF, hO, by omega⟩, clashRS_at b qs c d ⟨hF, hO, by omega⟩, hcm]
    refine hJ _ _ _ ?_
    clear hJ J
   refine oN_ ?_
   refine ⟨rfl, ?_⟩
   refine aE_ ?_
   refine fQ_ [] ?_
   simp [go_sem, Try.f12]
theorem ClashTells_walk (w : World) (l0 : List Int) (a0 : Option Addr) (c0 : Nat) (L0 : List (List Int)) (g0 : l0.length = 24) (_ : ∀ x ∈ l0, I64 x) (h0 : L0.length ≤ c0) (m0 : c0 ≤ maxLen) (s0 : SlK w.heap.size 7 w a0 L0) (l1 : List Int) (g1 : l1.length = 9) (_ : ∀ x ∈ l1, I64 x) (l2 : List Int) (g2 : l2.length = 9) (_ : ∀ x ∈ l2, I64 x) (a3 : Option Addr) (c3 : Nat) (L3 : List (List Int)) (h3 : L3.length ≤ c3) (m3 : c3 ≤ maxLen) (s3 : SlK w.heap.size 9 w a3 L3) :
  Calls Try.prog 12 #[.agg (bk l0 (.slice a0 L0.length c0)), .agg (A l1), .agg (A l2), .slice a3 L3.length c3] w fun e w' => e = .returned (.bool true) ∧ Below w.heap.size w w' := by
 obtain ⟨b0, os0, e0, r0⟩ := book_rep g0 h0 m0 s0
 obtain ⟨x1, r1⟩ := agg_rep ex_Chg w g1
 obtain ⟨x2, r2⟩ := agg_rep ex_Chg w g2
 obtain ⟨os3, e3, r3⟩ := slk_rows ex_Chg s3 h3 m3
 refine true_walk clashTells_ok (clashTellsS_at b0 os0 x1 x2 os3) w rfl fun i v hi => ?_
 match i, hi with
 | 0, hi => cases hi; exact r0
 | 1, hi => cases hi; exact r1
 | 2, hi => cases hi; exact r2
 | 3, hi => cases hi; exact r3
end Go.Proofs.Ytiifcalgolkpiaa.AE
