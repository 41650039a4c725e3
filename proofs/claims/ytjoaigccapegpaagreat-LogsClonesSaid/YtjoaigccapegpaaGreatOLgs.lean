/-
 Chapter 19, plainly: what a call, and a script, leaves. Conditions: none; every lemma names its own.
-/
import Derived.Test.YtjoaigccapegpaaGreatOLgq
import Derived.Test.YtjoaigccapegpaaGreatOLg2
set_option linter.constructorNameAsVariable false
namespace Go.Proofs.YtjoaigccapegpaaGreat.AE
open Go Go.Proofs Go.RowKit
set_option linter.unusedVariables false
set_option linter.unusedSimpArgs false
structure LS where
 d:List Chg
 r:List Chg
 v:Vn 4
 u:Vn 4
def zS:LS:=⟨[],[],zV 4,zV 4⟩
def okS (s:LS):Prop:=LgI s.d s.r s.v s.u
theorem okS_z:okS zS:=LgI.zero
def addS (s:LS) (c:Chg):LS:=⟨s.d,adR s.d s.r s.v s.u c,adV s.d s.r s.v s.u c,adU s.d s.r s.v s.u c⟩
def comS (s:LS) (a:Id):LS:=⟨comD s.d s.r a,takeL s.r a,s.v,s.u⟩
def stS (s:LS) (x:Op):LS:=if x.kind=1 then addS s x.c else if x.kind=2 then comS s x.id else if x.kind=3 then comS s (headC s.r).id else s
theorem okS_add {s:LS} (h:okS s) (c:Chg):okS (addS s c):=(add_lgI h c).1
theorem okS_com {s:LS} (h:okS s) (a:Id):okS (comS s a):=com_lgI h a
theorem okS_st {s:LS} (h:okS s) (x:Op):okS (stS s x):=by
 unfold stS
 split
 · exact okS_add h _
 ·
  split
  · exact okS_com h _
  ·
   split
   · exact okS_com h _
   · exact h
theorem okS_len {s:LS} (h:okS s):s.d.length + s.r.length<=48:=by
 have:=LgI.len h
 simpa using this
theorem free_nil (a:Id):freeC [] a=false:=by simp [freeC,placeC,idxL]
theorem comS_no {s:LS} {a:Id} (h:freeC s.r a=false):comS s a=s:=by
 simp [comS,comD,takeL,h]
end Go.Proofs.YtjoaigccapegpaaGreat.AE
