/-
 Package clash: All. Conditions: none; every contract names its own.
-/
import Derived.Test.YtiifcalgolkpiaaOCl2
set_option linter.constructorNameAsVariable false
namespace Go.Proofs.Ytiifcalgolkpiaa.AE
open Go Go.Proofs Go.RowKit
set_option linter.unusedVariables false
set_option linter.unusedSimpArgs false
set_option maxRecDepth 100000
set_option maxHeartbeats 4000000
theorem wrap_le2 {n : Nat} (h : n ≤ 1000000) : IntKind.i64.wrap (n : Int) = n := wA_ (by omega)
structure allCX where
 b : Bk
 os : List Ord
 os' : AV
 l : List Chg
 l' : AV
 h_os : SlA 7 cOrd os os'
 h_l : SlA 9 cChg l l'
 hL : FairB b ∧ FairO os ∧ os.length ≤ 28000 ∧ l.length ≤ 100
noncomputable def allCS : HSpec := mkH (ι := allCX) (fun ⟨b, os, os', l, l', h_os, h_l, hL⟩ => ([.agg (cBk b os'), l'], [])) fun ⟨b, os, os', l, l', h_os, h_l, hL⟩ => ⟨.own (2, 0) (allL (b, os) l l.length).length, [], [.row 79 2 (rows cPr (allL (b, os) l l.length)) false]⟩
theorem allCS_atG (b : Bk) (os : List Ord) (os' : AV) (l : List Chg) (l' : AV) (h_os : SlA 7 cOrd os os') (h_l : SlA 9 cChg l l') (hL : FairB b ∧ FairO os ∧ os.length ≤ 28000 ∧ l.length ≤ 100) : allCS [.agg (cBk b os'), l'] [] = some (⟨.own (2, 0) (allL (b, os) l l.length).length, [], [.row 79 2 (rows cPr (allL (b, os) l l.length)) false]⟩) :=
 mA_ (ι := allCX) (fun i j h => by obtain ⟨b, os, os', l, l', h_os, h_l, hL⟩ := i; obtain ⟨b2, os2, os'2, l2, l'2, h_os2, h_l2, hL2⟩ := j; simp [and_assoc, qB_, qI_, qO_, qC_, qE_, qK_, qR_, qV_, qP_, qOc_] at h; obtain ⟨rfl, rfl, rfl⟩ := h; obtain rfl := SlA.inj (fun x y h => cOrd_inj h) h_os h_os2; obtain rfl := SlA.inj (fun x y h => cChg_inj h) h_l h_l2; rfl) ⟨b, os, os', l, l', h_os, h_l, hL⟩
theorem allCS_at (b : Bk) (os : List Ord) (l : List Chg) (hL : FairB b ∧ FairO os ∧ os.length ≤ 28000 ∧ l.length ≤ 100) : allCS [.agg (cBk b (.sl 7 (rows cOrd os))), (.sl 9 (rows cChg l))] [] = some (⟨.own (2, 0) (allL (b, os) l l.length).length, [], [.row 79 2 (rows cPr (allL (b, os) l l.length)) false]⟩) := allCS_atG b os _ l _ .sl .sl hL
theorem allC_ok : HSound Try.prog 45 allCS := by
 refine sE_ (fn := Try.f45) rfl rfl (by kernel_rfl) fun args bx hr hS => ?_
 obtain ⟨⟨b, os, os', l, l', h_os, h_l, hL⟩, rfl, rfl, rfl⟩ := mO_ hS
 clear hS
 refine ⟨_, (eV_ (g := 46) (by kernel_rfl) clash_ok (eN_ _)), by simp [Try.f45], by simp [go_sem], fun w Mx pin => ?_⟩
 simp only [hB_at, lab_nil, lab_cons, hOf_nil, hOf_cons]
 refine aW_ (s' := ⟨ofL [(0, .agg (cBk b (.sl 7 (rows cOrd os)))), (1, (.sl 9 (rows cChg l)))], hOf []⟩) ?_ ?_
 · cases h_os <;> cases h_l <;> exact wO_ [] (by simp [go_sem]) (by simp [go_sem]) (by simp [go_sem])
 clear h_os h_l
 obtain ⟨hF, hO, hlen, hl2⟩ := hL
 have hl1 : l.length ≤ 100000 := by omega
 refine aQ_ ?_
 iterate 2
  refine oC_ fun J hJ => ?_
  simp [go_sem]
  refine hJ _ _ _ ?_
  clear hJ J
 refine oN_ ?_
 refine aQ_ ?_
 iterate 1
  refine oC_ fun J hJ => ?_
  simp [go_sem]
  refine hJ _ _ _ ?_
  clear hJ J
 refine oN_ ?_
 refine aS_ fun K3 hK3 => ?_
 refine aQ_ ?_
 iterate 3
  refine oC_ fun J hJ => ?_
  simp [go_sem]
  refine hJ _ _ _ ?_
  clear hJ J
 refine oN_ ?_
 refine aB_ ?_
 refine aL_ (ι := { q : List Chg × List Chg // q.1 ++ q.2 = l ∧ True }) (fun q => allI b os l q.1.1 q.1.2) (fun q => q.1.2.length) ⟨([], l), rfl, trivial⟩ ?_ ?_
 · refine wO_ [((0, 32), some (0, 32)), ((0, 999), none)] (by simp [go_sem]) ?_ ?_ <;> simp [go_sem]
 intro ⟨⟨pre, post⟩, hl, hgo⟩
 simp only at hl hgo
 have hpl := lS_ hl hl1
 simp only [allI]
 refine aQ_ ?_
 iterate 1
  refine oC_ fun J hJ => ?_
  simp [go_sem]
  refine hJ _ _ _ ?_
  clear hJ J
 refine oN_ ?_
 refine aS_ fun K6 hK6 => ?_
 refine aC_ (t := _) rfl (fun c7 => ?_) (fun c7 => ?_)
 ·
  simp [go_sem] at c7
  obtain ⟨x, post, rfl, hx⟩ := mL_ hl c7
  have wp := wN_ (n := pre.length) (by omega)
  refine aK_ ?_
  refine hK6 _ ?_
  clear hK6
  refine aS_ fun K8 hK8 => ?_
  refine aB_ ?_
  refine aQ_ ?_
  iterate 6
   refine oC_ fun J hJ => ?_
   simp [go_sem, hx]
   refine hJ _ _ _ ?_
   clear hJ J
  refine oN_ ?_
  refine aQ_ ?_
  iterate 3
   refine oC_ fun J hJ => ?_
   simp [go_sem, wp]
   refine hJ _ _ _ ?_
   clear hJ J
  refine oN_ ?_
  refine aB_ ?_
  refine aL_ (ι := { n : Nat // pre.length + 1 + n ≤ l.length }) (fun q => allJ b os l x pre.length q.1) (fun q => l.length - q.1) ⟨0, by omega⟩ ?_ ?_
  · refine wO_ [((0, 32), some (0, 32)), ((0, 112), some (0, 112)), ((0, 998), some (0, 999))] (by simp [go_sem]) ?_ ?_ <;> simp [go_sem, wp]
  intro ⟨n, hn⟩
  try simp only at hn
  have hal := allL_len (b, os) l pre.length
  have hil := innL_len (b, os) l x pre.length n
  have hmul : pre.length * l.length ≤ 100 * 100 := Nat.mul_le_mul (by omega) hl2
  simp only [allJ]
  have hAl : (allL (b, os) l pre.length ++ innL (b, os) l x pre.length n).length ≤ 20200 := by simp; omega
  generalize hq : pre.length + 1 + n = q at *
  generalize hA : allL (b, os) l pre.length ++ innL (b, os) l x pre.length n = A at *
  refine aS_ fun K11 hK11 => ?_
  refine aQ_ ?_
  iterate 4
   refine oC_ fun J hJ => ?_
   simp [go_sem]
   refine hJ _ _ _ ?_
   clear hJ J
  refine oN_ ?_
  refine aC_ (t := _) rfl (fun c13 => ?_) (fun c13 => ?_)
  ·
   simp [go_sem] at c13
   have hnl : q < l.length := by omega
   obtain ⟨y, hy⟩ : ∃ y, l[q]? = some y := ⟨_, List.getElem?_eq_getElem hnl⟩
   have hA2 : allL (b, os) l pre.length ++ innL (b, os) l x pre.length (n + 1) = A ++ (if clashB (b, os) x y = true then [(pre.length, q)] else []) := by rw [innL_succ (y := y) (by rw [hq]; exact hy), ← List.append_assoc, hA, hq]
   have wn := wN_ (n := q) (by omega)
   refine aK_ ?_
   refine hK11 _ ?_
   clear hK11
   refine aS_ fun K14 hK14 => ?_
   refine aB_ ?_
   refine aS_ fun K15 hK15 => ?_
   cases hcl : clashB (b, os) x y
   ·
    refine aD_ ?_
    iterate 7
     refine oC_ fun J hJ => ?_
     simp [go_sem, hnl, ↓hy, clash_atP (b, os) x y ⟨⟨hF, hO⟩, by simp; omega⟩, hcl]
     refine hJ _ _ _ ?_
     clear hJ J
    refine oN_ ?_
    refine ⟨rfl, ?_⟩
    refine hK15 _ ?_
    clear hK15
    refine aF_ rfl ?_
    refine aK_ ?_
    refine hK14 _ ?_
    clear hK14
    refine aR_ ?_
    iterate 3
     refine oC_ fun J hJ => ?_
     simp [go_sem, wn]
     refine hJ _ _ _ ?_
     clear hJ J
    refine oN_ ?_
    refine ⟨⟨n + 1, by omega⟩, ?_, by simp; omega⟩
    first
     | (refine wO_ [((0, 32), some (0, 32)), ((0, 112), some (0, 112)), ((0, 998), some (0, 998))] (by simp [go_sem]) ?_ ?_ <;> (simp [go_sem, wn, ↓hA2, hcl] <;> omega))
     | (refine wO_ [((0, 32), some (0, 32)), ((0, 112), some (0, 112)), ((0, 998), some (0, 576))] (by simp [go_sem]) ?_ ?_ <;> (simp [go_sem, wn, ↓hA2, hcl, rows_append] <;> omega))
   ·
    refine aD_ ?_
    iterate 7
     refine oC_ fun J hJ => ?_
     simp [go_sem, hnl, ↓hy, clash_atP (b, os) x y ⟨⟨hF, hO⟩, by simp; omega⟩, hcl]
     refine hJ _ _ _ ?_
     clear hJ J
    refine oN_ ?_
    refine ⟨rfl, ?_⟩
    refine hK15 _ ?_
    clear hK15
    refine aT_ rfl ?_
    refine aR_ ?_
    iterate 7
     refine oC_ fun J hJ => ?_
     simp [go_sem, cV_pr, show (A.length + 1) * 16 ≤ 140737488355328 by omega, show A.length + 1 ≤ maxLen by (simp only [maxLen]; omega)]
     refine hJ _ _ _ ?_
     clear hJ J
    refine oN_ ?_
    refine hK14 _ ?_
    clear hK14
    refine aR_ ?_
    iterate 3
     refine oC_ fun J hJ => ?_
     simp [go_sem, wn]
     refine hJ _ _ _ ?_
     clear hJ J
    refine oN_ ?_
    refine ⟨⟨n + 1, by omega⟩, ?_, by simp; omega⟩
    first
     | (refine wO_ [((0, 32), some (0, 32)), ((0, 112), some (0, 112)), ((0, 998), some (0, 998))] (by simp [go_sem]) ?_ ?_ <;> (simp [go_sem, wn, ↓hA2, hcl] <;> omega))
     | (refine wO_ [((0, 32), some (0, 32)), ((0, 112), some (0, 112)), ((0, 998), some (0, 576))] (by simp [go_sem]) ?_ ?_ <;> (simp [go_sem, wn, ↓hA2, hcl, rows_append] <;> omega))
  ·
   simp [go_sem] at c13
   have hnl : n = l.length - (pre.length + 1) := by omega
   have hA3 : allL (b, os) l (pre.length + 1) = A := by rw [allL_succ hx, ← hnl, hA]
   refine aX_ ?_
   simp only [go_sem]
   refine hK8 _ ?_
   clear hK8
   refine aR_ ?_
   iterate 2
    refine oC_ fun J hJ => ?_
    simp [go_sem]
    refine hJ _ _ _ ?_
    clear hJ J
   refine oN_ ?_
   refine ⟨⟨(pre ++ [x], post), by simp [← hl], by exact trivial⟩, ?_, by simp⟩
   refine wO_ [((0, 32), some (0, 32)), ((0, 999), some (0, 998))] (by simp [go_sem]) ?_ ?_ <;> simp [go_sem, hA3, wN_ hpl]
 ·
  simp [go_sem] at c7
  obtain ⟨rfl, rfl⟩ := mN_ hl c7
  refine aX_ ?_
  simp only [go_sem]
  refine hK3 _ ?_
  clear hK3
  refine aQ_ ?_
  iterate 2
   refine oC_ fun J hJ => ?_
   simp [go_sem]
   refine hJ _ _ _ ?_
   clear hJ J
  refine oN_ ?_
  refine aE_ ?_
  refine fQ_ [((2, 0), some (0, 999))] ?_
  simp [go_sem, Try.f45]
end Go.Proofs.Ytiifcalgolkpiaa.AE
