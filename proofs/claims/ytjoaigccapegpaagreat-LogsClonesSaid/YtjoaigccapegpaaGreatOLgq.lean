/-
 Chapter 19, plainly: where a change stands among those of two lists. Conditions: none; every lemma names its own.
-/
import Derived.Test.YtjoaigccapegpaaGreatOLgp
import Derived.Test.YtjoaigccapegpaaGreatOLgb
set_option linter.constructorNameAsVariable false
namespace Go.Proofs.YtjoaigccapegpaaGreat.AE
open Go Go.Proofs Go.RowKit
set_option linter.unusedVariables false
set_option linter.unusedSimpArgs false
theorem idxL_app {α:Type} (p:α->Bool):∀ (l m:List α) (i:Nat),idxL p (l++m) i=if idxL p l i < 0 then idxL p m (i + l.length) else idxL p l i
 | [],m,i=>by simp [idxL]
 | x :: l,m,i=>by
  by_cases hx:p x=true
  ·
   have h:idxL p (x :: l) i=(i:Int):=by simp [idxL,hx]
   rw [h,if_neg (by omega)]
   simp [idxL,hx]
  ·
   have h:idxL p (x :: l) i=idxL p l (i + 1):=by simp [idxL,hx]
   have h2:idxL p (x :: l++m) i=idxL p (l++m) (i + 1):=by simp [idxL,hx]
   rw [h,h2,idxL_app p l m (i + 1),show i + 1 + l.length=i + (x :: l).length by simp; omega]
theorem idxL_off {α:Type} (p:α->Bool):∀ (l:List α) (i n:Nat),idxL p l (i + n)=if idxL p l i < 0 then -1 else idxL p l i + n
 | [],i,n=>by simp [idxL]
 | x :: l,i,n=>by
  by_cases hx:p x=true
  ·
   have h:∀ i,idxL p (x :: l) i=(i:Int):=fun i=>by simp [idxL,hx]
   rw [h,h,if_neg (by omega)]
   push_cast
   rfl
  ·
   have h:∀ i,idxL p (x :: l) i=idxL p l (i + 1):=fun i=>by simp [idxL,hx]
   rw [h,h,<-idxL_off p l (i + 1) n,show i + n + 1=i + 1 + n by omega]
theorem place_app (d r:List Chg) (a:Id):placeC (d++r) a=if placeC d a < 0 then (if placeC r a < 0 then -1 else placeC r a + d.length) else placeC d a:=by
 unfold placeC
 rw [idxL_app]
 have:=idxL_off (isChg a) r 0 d.length
 simp only [Nat.zero_add] at this ⊢
 rw [this]
theorem oD_left {d r:List Chg} {k:Nat} (h:k < d.length):(oD (d++r))[k]?=(oD d)[k]?:=by
 rw [oD_app,List.getElem?_append_left (by rw [oD_len]; exact h)]
theorem oD_right (d r:List Chg) (k:Nat):(oD (d++r))[d.length + k]?=(ouL (bD d) r)[k]?:=by
 rw [oD_app,List.getElem?_append_right (by rw [oD_len]; omega),oD_len,show d.length + k - d.length=k by omega]
theorem ouL_pre (p:Bk × List Ord) (r:List Chg) {k n:Nat} (h:k < n):(ouL p (r.take n))[k]?=(ouL p r)[k]?:=by
 have e:ouL p r=ouL p (r.take n)++ouL (bkL p (r.take n)) (r.drop n):=by rw [<-ouL_append,List.take_append_drop]
 by_cases hk:k < (r.take n).length
 · rw [e,List.getElem?_append_left (by rw [ouL_len]; exact hk)]
 ·
  have h1:r.length<=k:=by simp at hk; omega
  rw [List.getElem?_eq_none (by rw [ouL_len]; omega),List.getElem?_eq_none (by rw [ouL_len]; omega)]
end Go.Proofs.YtjoaigccapegpaaGreat.AE
