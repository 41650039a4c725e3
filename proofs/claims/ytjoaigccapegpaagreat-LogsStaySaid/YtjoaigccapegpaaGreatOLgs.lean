/-
 Chapter 19, plainly: what a call, and a script, leaves. Conditions: none; every lemma names its own.
-/
import Derived.Test.YtjoaigccapegpaaGreatOLgq
import Derived.Test.YtjoaigccapegpaaGreatOLg2
set_option linter.constructorNameAsVariable false
namespace Go.Proofs.YtjoaigccapegpaaGreat.AE
open Go Go.Proofs Go.RowKit
set_option linter.unusedVariables false
set_option linter.unusedSimpArgs false
structure LS where
 d : List Chg
 r : List Chg
 v : Vn 4
 u : Vn 4
def zS : LS := ⟨[], [], zV 4, zV 4⟩
def okS (s : LS) : Prop := LgI s.d s.r s.v s.u
theorem okS_z : okS zS := LgI.zero
def addS (s : LS) (c : Chg) : LS := ⟨s.d, adR s.d s.r s.v s.u c, adV s.d s.r s.v s.u c, adU s.d s.r s.v s.u c⟩
def comS (s : LS) (a : Id) : LS := ⟨comD s.d s.r a, takeL s.r a, s.v, s.u⟩
def stS (s : LS) (x : Op) : LS := if x.kind = 1 then addS s x.c else if x.kind = 2 then comS s x.id else if x.kind = 3 then comS s (headC s.r).id else s
def runS : LS → List Op → LS
 | s, [] => s
 | s, x :: l => runS (stS s x) l
theorem okS_add {s : LS} (h : okS s) (c : Chg) : okS (addS s c) := (add_lgI h c).1
theorem okS_com {s : LS} (h : okS s) (a : Id) : okS (comS s a) := com_lgI h a
theorem okS_st {s : LS} (h : okS s) (x : Op) : okS (stS s x) := by
 unfold stS
 split
 · exact okS_add h _
 ·
  split
  · exact okS_com h _
  ·
   split
   · exact okS_com h _
   · exact h
theorem okS_len {s : LS} (h : okS s) : s.d.length + s.r.length ≤ 48 := by
 have := LgI.len h
 simpa using this
theorem comD_pre (d r : List Chg) (a : Id) : ∃ e, comD d r a = d ++ e := by
 unfold comD
 split
 · exact ⟨_, rfl⟩
 · exact ⟨[], by simp⟩
theorem stS_pre (s : LS) (x : Op) : ∃ e, (stS s x).d = s.d ++ e := by
 unfold stS
 split
 · exact ⟨[], by simp [addS]⟩
 ·
  split
  · exact comD_pre _ _ _
  ·
   split
   · exact comD_pre _ _ _
   · exact ⟨[], by simp⟩
theorem free_nil (a : Id) : freeC [] a = false := by simp [freeC, placeC, idxL]
theorem comS_no {s : LS} {a : Id} (h : freeC s.r a = false) : comS s a = s := by
 simp [comS, comD, takeL, h]
theorem place_at {d r : List Chg} {v u : Vn 4} (h : LgI d r v u) {k : Nat} {x : Chg} (hx : (d ++ r)[k]? = some x) : placeC (d ++ r) x.id = (k : Int) := by
 have hk := (List.getElem?_eq_some_iff.1 hx).1
 rcases placeC_at (d ++ r) x.id with hm | ⟨j, y, hj, hp, hy, hid⟩
 ·
  exfalso
  have : 0 ≤ placeC (d ++ r) x.id := (idxC_ge0 _ _ _).2 (List.any_eq_true.2 ⟨x, List.mem_of_getElem? hx, by simp [isChg]⟩)
  omega
 · rw [hp, h.ids hy hx hid]
theorem out_at {d r : List Chg} {v u : Vn 4} (h : LgI d r v u) {k : Nat} {x : Chg} (hk : k < d.length) (hx : d[k]? = some x) : outG d r x.id = ((oD d)[k]?).getD zOc ∧ goodG d r x.id = true ∧ wasG d r x.id = true := by
 have hp : placeC (d ++ r) x.id = (k : Int) := place_at h (by rw [List.getElem?_append_left hk]; exact hx)
 refine ⟨?_, ?_, ?_⟩
 · rw [outG, hp, if_neg (by omega), Int.toNat_natCast, oD_left hk]
 · rw [goodG, hp]; simp; omega
 · rw [wasG, hp]; simp
end Go.Proofs.YtjoaigccapegpaaGreat.AE
