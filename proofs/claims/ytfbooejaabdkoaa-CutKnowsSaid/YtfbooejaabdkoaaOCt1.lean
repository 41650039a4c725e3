/-
 Chapter 41, plain: vectors behind changes, cuts behind changes. Conditions: none; every lemma names its own.
-/
import Derived.Test.YtfbooejaabdkoaaOOc12
set_option linter.constructorNameAsVariable false
namespace Go.Proofs.Ytfbooejaabdkoaa.AE
open Go Go.Proofs Go.RowKit
set_option linter.unusedVariables false
theorem joinK_at (v u:Vn 4) (k:Nat) (hk:k < 4):(joinK v u 4).at k=mx (v.at k) (u.at k):=by
 have key:∀ i,i<=4->∀ j,j < 4->(joinK v u i).at j=if j < i then mx (v.at j) (u.at j) else v.at j:=by
  intro i
  induction i with
  | zero=>intro _ j hj; simp [joinK]
  | succ i ih=>
   intro hi j hj
   have e1:=ih (by omega) i (by omega)
   rw [if_neg (Nat.lt_irrefl i)] at e1
   rw [joinK,put_at _ _ _ _ (by omega),e1,ih (by omega) j hj]
   by_cases e:i=j
   · subst e; simp
   ·
    rw [if_neg e]
    by_cases e2:j < i
    · rw [if_pos e2,if_pos (by omega)]
    · rw [if_neg e2,if_neg (by omega)]
 rw [key 4 (Nat.le_refl _) k hk,if_pos hk]
theorem nvC_at (x:Chg) (v:Vn 4) (i:Nat) (hi:i < 4):(nvC x v).at i=if x.id.rep=(i:Int) then mx (v.at i) x.id.seq else v.at i:=by
 unfold nvC
 by_cases h:0<=x.id.rep/\x.id.rep < 4
 ·
  rw [if_pos h,put_at _ _ _ _ (by omega)]
  by_cases e:x.id.rep=(i:Int)
  ·
   have:x.id.rep.toNat=i:=by omega
   rw [if_pos this,if_pos e,this]
  · rw [if_neg (by omega),if_neg e]
 · rw [if_neg h,if_neg (by omega)]
theorem vecG_at:∀ (l:List Chg) (v:Vn 4) (i:Nat),i < 4->0<=v.at i->(vecG l v).at i=mx (v.at i) ((vecG l (zV 4)).at i)/\0<=(vecG l (zV 4)).at i
 | [],v,i,hi,h0=>by
  simp only [vecG,zV_at,mx]
  exact ⟨by split <;> omega,by omega⟩
 | x :: r,v,i,hi,h0=>by
  have a1:=nvC_at x v i hi
  have a2:=nvC_at x (zV 4) i hi
  rw [zV_at] at a2
  have q1:0<=(nvC x v).at i:=by rw [a1]; unfold mx; split <;> (try split) <;> omega
  have q2:0<=(nvC x (zV 4)).at i:=by rw [a2]; unfold mx; split <;> (try split) <;> omega
  obtain ⟨h1,h2⟩:=vecG_at r (nvC x v) i hi q1
  obtain ⟨h3,h4⟩:=vecG_at r (nvC x (zV 4)) i hi q2
  simp only [vecG]
  rw [h1,h3,a1,a2]
  generalize (vecG r (zV 4)).at i=w at *
  unfold mx
  constructor
  · split <;> (repeat' split) <;> omega
  · split <;> (repeat' split) <;> omega
theorem join_zero (l:List Chg):joinK (zV 4) (vecG l (zV 4)) 4=vecG l (zV 4):=by
 refine Vn.ext_at fun i hi=>?_
 rw [joinK_at _ _ _ hi,zV_at]
 have:=(vecG_at l (zV 4) i hi (by rw [zV_at]; omega)).2
 unfold mx
 split <;> omega
end Go.Proofs.Ytfbooejaabdkoaa.AE
