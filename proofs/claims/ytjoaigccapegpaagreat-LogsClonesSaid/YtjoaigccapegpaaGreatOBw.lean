/-
 slices.Backward over changes: the iterator. Conditions: none; every contract names its own.
-/
import Derived.Test.YtjoaigccapegpaaGreatPc
import Derived.Test.YtjoaigccapegpaaGreatPe
import Derived.RangeFuncBox
import Derived.RangeFuncLeaves
import Derived.Shelf.Abstract
import Derived.OwnWalkIn
import Derived.TacticsInMore
import Derived.LoopNIn
import Derived.LoopIn
set_option linter.constructorNameAsVariable false
namespace Go.Proofs.YtjoaigccapegpaaGreat.AE
open Go Go.Proofs Go.RowKit Go.Shelf
set_option linter.unusedVariables false
theorem load_chg {W:World} {b p:Nat} {f:Nat->Value} (hc:∀ j,j < 9->W.cell? ⟨b,p + j,none⟩=some (f j)):(loadRow 35 (.pointer (some ⟨b,p,none⟩))).run Tryz.prog W=.ok (.agg ((List.range 9).map f).toArray) W:=by
 obtain ⟨q,d,h1,h2,_,hsz,hagg,_⟩:=TI.of_some ti35
 have hA:isAggD d=true:=by rw [<-hagg]
 have hq:q.size=9:=by rw [<-hsz]
 have:=run_loadV (P:=Tryz.prog) (w:=W) h2 h1 (g:=b) (p:=p) (f:=f) (fun j hj=>hc j (by rw [hA,hq] at hj; simpa using hj))
 rw [hA,hq] at this
 exact this
attribute [local go_sem] Oper.semAt_some
set_option maxRecDepth 100000 in
set_option maxHeartbeats 2000000 in
theorem bw_in (l Bs b off len cap:Nat) (L:Nat->Value) (hlen:len<=100000)
  (J Jx:Nat->World->Prop)
  (hHas:∀ k W,J k W->W.cell? ⟨Bs,0,none⟩=some (.slice (some ⟨b,off,none⟩) len cap)/\∀ j,j < len->(loadRow 35 (.pointer (some ⟨b,off + j * 9,none⟩))).run Tryz.prog W=.ok (L j) W)
  (hY:∀ k W,k < len->J k W->YieldAt Fence.wide 0 Tryz.prog l #[.int .i64 ((len - 1 - k:Nat):Int),L (len - 1 - k)] W fun e W'=>(e=.returned (.bool true)/\J (k + 1) W')\/(e=.returned (.bool false)/\Jx (k + 1) W'))
  (W:World) (h0:J 0 W) :
  CallsIn Fence.wide 1 Tryz.prog 97 #[.func (.yield l) #[] #[],.pointer (some ⟨Bs,0,none⟩)] W fun e W'=>(∃ v,e=.returned v)/\(J len W'\/∃ k,k<=len/\Jx k W'):=by
 refine callsIn_of_wp Tryz.func97 rfl trivial ?_ rfl
 simp only [Tryz.ntmps97,List.size_toArray,List.length_cons,List.length_nil,Nat.reduceAdd,Nat.reduceSub,Array.replicate_succ,Array.replicate_zero,List.push_toArray,List.append_toArray,List.nil_append,List.cons_append]
 have hc:=(hHas 0 W h0).1
 have wl:IntKind.i64.wrap ((len:Int) - 1)=(len:Int) - 1:=wrap_ok (by omega) (by omega)
 gi_wp2
 gi_loopw [3] (fun i wr=>∃ k:Nat,k<=len/\i=.int .i64 ((len:Int) - 1 - k)/\J k wr)
  (fun i _=>(intOf i + 1).toNat)
 case atStart=>exact ⟨0,Nat.zero_le _,by simp,h0⟩
 case round=>
  obtain ⟨k,hk,rfl,hJs⟩:=hrel
  by_cases hlt:k < len
  ·
   obtain ⟨fn,tmps,assign,body,hy,hR⟩:=hY k wr hlt hJs
   have hc2:=(hHas k wr hJs).1
   have hl2:=(hHas k wr hJs).2 (len - 1 - k) (by omega)
   have hik:(len:Int) - 1 - k=((len - 1 - k:Nat):Int):=by omega
   rw [hik]
   gi_wp2
   refine hR.mono ?_
   rintro e W3 (⟨rfl,hJ3⟩ | ⟨rfl,hJx3⟩)
   ·
    gi_wp2
    go_roundw
    case rel=>exact ⟨k + 1,by omega,by simp; omega,hJ3⟩
    case measure=>simp [intOf]
   ·
    gi_wp2
    refine bodyPost_ret (results_none rfl _ _ _) rfl ?_
    exact ⟨⟨_,rfl⟩,.inr ⟨k + 1,by omega,hJx3⟩⟩
  ·
   obtain rfl:k=len:=by omega
   have h3:((k:Int) - 1 - k)=-1:=by omega
   rw [h3]
   gi_wp2
   go_end0
   exact ⟨⟨_,rfl⟩,.inl hJs⟩
set_option maxRecDepth 100000 in
set_option maxHeartbeats 2000000 in
theorem bw_nil (l Bs cap:Nat) (A:Option Addr) (J:World->Prop) (W:World) (hc:W.cell? ⟨Bs,0,none⟩=some (.slice A 0 cap)) (h0:J W) :
  CallsIn Fence.wide 1 Tryz.prog 97 #[.func (.yield l) #[] #[],.pointer (some ⟨Bs,0,none⟩)] W fun e W'=>(∃ v,e=.returned v)/\J W':=by
 refine callsIn_of_wp Tryz.func97 rfl trivial ?_ rfl
 simp only [Tryz.ntmps97,List.size_toArray,List.length_cons,List.length_nil,Nat.reduceAdd,Nat.reduceSub,Array.replicate_succ,Array.replicate_zero,List.push_toArray,List.append_toArray,List.nil_append,List.cons_append]
 gi_wp2
 gi_loopw [3] (fun i wr=>i=.int .i64 (-1)/\J wr) (fun _ _=>0)
 case atStart=>exact ⟨by simp,h0⟩
 case round=>
  obtain ⟨rfl,hJs⟩:=hrel
  gi_wp2
  go_end0
  exact ⟨⟨_,rfl⟩,hJs⟩
theorem bw_iter:BackIter Tryz.prog 97 9:=by
 intro l Bs A len cap f hlen hA J Jx hJ hY W h0
 rcases Nat.eq_zero_or_pos len with rfl | hpos
 ·
  refine (bw_nil l Bs cap A (J 0) W (hJ 0 W h0).1 h0).mono ?_
  rintro e W' ⟨h1,h2⟩
  exact ⟨h1,.inl h2⟩
 ·
  obtain ⟨b,off,rfl⟩:=hA hpos
  refine bw_in l Bs b off len cap (fun i=>.agg ((List.range 9).map (f i)).toArray) hlen J Jx (fun k W hk=>⟨(hJ k W hk).1,fun j hj=>load_chg fun i hi=>?_⟩) hY W h0
  obtain ⟨g,o,e1,_,e3,_⟩:=(hJ k W hk).2 j i hj hi
  cases e1
  rw [Nat.add_assoc]
  exact e3
end Go.Proofs.YtjoaigccapegpaaGreat.AE
