/-
 The given statement Rows.CutPutsUptoSaid: for every input of bulk at most 1048576 the law returns true, and each argument reads as it did. Conditions: the bound that the statement itself names.
-/
import Derived.Test.YtfbooejaabdkoaaRows
import Derived.ProofKit
import Derived.JoinedCond
import Derived.Test.YtfbooejaabdkoaaPz
import Derived.Test.YtfbooejaabdkoaaOLw41p
import Derived.Test.YtfbooejaabdkoaaOOpI
set_option linter.constructorNameAsVariable false
namespace Go.Proofs.Ytfbooejaabdkoaa.cutPutsUpto
open Go.ChangeShapes Go.WideShapes Go.ChangeAt Go.RowKit
open Go.Proofs.Ytfbooejaabdkoaa
theorem own:ownKnob Try.prog.godebug=none:=by kernel_rfl
theorem laidOut:laidOutB Try.prog=true:=by kernel_rfl
set_option linter.unusedVariables false
set_option maxRecDepth 100000 in
theorem lifted (os:Os) (started:os.Started) (H:Type) (enc:TypeId × Value->H) (F:Stop.Interp) :
  ReturnsInHanded {} Try.checked os 6 .any ((Rows.OpenSpec.upto Rows.cutPutsSpec).pre6 enc Try.prog Try.f6 Rows.cutPutsUptoRow.domain false) (((Rows.OpenSpec.upto Rows.cutPutsSpec).at F).post enc Try.prog Try.f6 false true false false):=by
 refine returnsInHanded_of_cond (C:=Try.checked) (s:=Rows.OpenSpec.upto Rows.cutPutsSpec) (k:=Rows.uptoSmall) rfl own started (by kernel_rfl) Try.func6
  (OpenSpec.witness (enc:=enc) (C:=Try.checked) (s:=Rows.OpenSpec.upto Rows.cutPutsSpec) (k:=Rows.uptoSmall) rfl false ⟨#[],#[.agg #[.int .i64 0,.int .i64 0,.int .i64 0,.int .i64 0,.int .i64 0,.int .i64 0,.int .i64 0,.int .i64 0,.int .i64 0,.int .i64 0,.int .i64 0,.int .i64 0,.int .i64 0,.int .i64 0,.int .i64 0,.int .i64 0,.int .i64 0,.int .i64 0,.int .i64 0,.int .i64 0,.int .i64 0,.int .i64 0,.int .i64 0,.int .i64 0,.int .i64 0,.int .i64 0,.int .i64 0,.int .i64 0,.int .i64 0,.slice none 0 0],.slice none 0 0],[]⟩ 8 (by kernel_rfl) (by kernel_rfl) (by kernel_rfl)
   (x:=([.agg [.lit (.int .i64 0),.agg [.lit (.int .i64 0),.lit (.int .i64 0),.lit (.int .i64 0),.lit (.int .i64 0)],.agg [.agg [.lit (.int .i64 0),.lit (.int .i64 0),.lit (.int .i64 0),.lit (.int .i64 0),.lit (.int .i64 0),.lit (.int .i64 0),.lit (.int .i64 0),.lit (.int .i64 0)],.agg [.lit (.int .i64 0),.lit (.int .i64 0),.lit (.int .i64 0),.lit (.int .i64 0),.lit (.int .i64 0),.lit (.int .i64 0),.lit (.int .i64 0),.lit (.int .i64 0)],.agg [.lit (.int .i64 0),.lit (.int .i64 0),.lit (.int .i64 0),.lit (.int .i64 0),.lit (.int .i64 0),.lit (.int .i64 0),.lit (.int .i64 0),.lit (.int .i64 0)],.nil]],.nil],[],[])) (by kernel_rfl) rfl (by kernel_rfl)) ?_
 intro W base args ds gs before hval0 hW hcnd hk _
 have hval:∀ (j:Nat) t v,Try.f6.params[j]?=some t->args[j]?=some v->Value.okWide Try.prog W .any base t v:=hval0
 have hW':=hW
 obtain ⟨p,q,hA0,hV,rfl,hfz,hnd⟩:=hW
 have hA:DataW.TrodAll enc Try.prog W 0 (fun _=>true) true Try.f6.params.toList args.toList ds p:=hA0
 rw [Try.params6] at hA hval
 obtain ⟨v0,vs0,d0,ds0,p0,q0,hargs,rfl,rfl,h0,r0⟩:=trodAll_cons hA
 obtain ⟨v1,vs1,d1,ds1,p1,q1,rfl,rfl,rfl,h1,r1⟩:=trodAll_cons r0
 obtain ⟨rfl,rfl,rfl⟩:=trodAll_nil r1
 obtain rfl:args=#[v0,v1]:=by cases args; simp_all
 obtain ⟨rfl,rfl⟩:=trodVars_none hV
 have hbulk:Rows.uptoBulk d0 + (Rows.uptoBulk d1 + (0))<=1048576:=by
  have h:=of_decide_eq_true hk
  simpa only [List.cons_append,List.nil_append,List.append_nil,Rows.uptoBulkAll] using h
 have k0:=h0
 have lt0:∀ x ∈ p0,x.block < W.heap.size:=by obtain ⟨m,hm⟩:=k0; exact DataW.trod_lt m _ _ _ hm
 have k1:=h1
 have lt1:∀ x ∈ p1,x.block < W.heap.size:=by obtain ⟨m,hm⟩:=k1; exact DataW.trod_lt m _ _ _ hm
 obtain ⟨x0,rp0⟩:=AE.open_op (c:=AE.cCutI) (AE.op_struct3 (c0:=AE.cInt) (c1:=AE.cV (n:=4)) (c2:=AE.cBookI) (c:=AE.cCutI) (n0:=1) (n1:=4) (n2:=25) Try.underlying63 (by kernel_rfl) ⟨rfl,by kernel_rfl⟩ ⟨rfl,by kernel_rfl⟩ ⟨rfl,by kernel_rfl⟩ (AE.op_flat (d0:=3) (n:=1) (by kernel_rfl) (by kernel_rfl) AE.ex_Int) (AE.op_flat (d0:=3) (n:=4) (by kernel_rfl) (by kernel_rfl) (fun l h=>AE.ex_V l h)) (AE.op_struct4 (c0:=AE.cV8I) (c1:=AE.cV8I) (c2:=AE.cV8I) (c3:=fun L:List AE.OrdI=>[AE.AV.sl 7 (AE.rows (AE.cOrdI) L)]) (c:=AE.cBookI) (n0:=8) (n1:=8) (n2:=8) (n3:=1) Try.underlying25 (by kernel_rfl) ⟨rfl,by kernel_rfl⟩ ⟨rfl,by kernel_rfl⟩ ⟨rfl,by kernel_rfl⟩ ⟨rfl,by kernel_rfl⟩ (AE.op_flatW (d0:=3) (n:=8) (by kernel_rfl) (by kernel_rfl) AE.ex_V8I) (AE.op_flatW (d0:=3) (n:=8) (by kernel_rfl) (by kernel_rfl) AE.ex_V8I) (AE.op_flatW (d0:=3) (n:=8) (by kernel_rfl) (by kernel_rfl) AE.ex_V8I) (AE.op_slice Try.underlying23 (by kernel_rfl) (by decide) (AE.op_flatW (d0:=3) (n:=7) (by kernel_rfl) (by kernel_rfl) AE.ex_OrdI)) AE.ex_BookI) AE.ex_CutI) (by kernel_rfl) (hval 0 63 v0 rfl rfl) h0
 obtain ⟨x1,rp1,ob1,lb1⟩:=AE.open_bytes Try.underlying64 Try.underlying5 (by kernel_rfl) (hval 1 64 v1 rfl rfl) h1
 clear hA0 hval0
 refine (AE.CutPuts_walk W v0 x0.s rp0 x0.ok v1 x1 rp1 (by omega) ob1).mono fun e W' ⟨he,hadds⟩=>?_
 subst he
 have bel:=hadds
 exact ⟨_,rfl,_,_,_,[],_,[],hW',trodAll_mk1 (shut_bool Try.underlying4 _),(trodAll_cons_mk (Below.trod laidOut (by kernel_rfl) (of_decide_eq_true (by kernel_rfl)) k0 bel lt0) (trodAll_cons_mk (Below.trod laidOut (by kernel_rfl) (of_decide_eq_true (by kernel_rfl)) k1 bel lt1) trodAll_mk0)),rfl,bel.frame _,fun h=>by cases h⟩
theorem over:Rows.cutPutsUptoRow.holds Try.pinned (Rows.OpenSpec.upto Rows.cutPutsSpec):=
 OpenClaim.holds_of_cond 6 Try.f6 rfl rfl rfl rfl rfl rfl rfl ⟨rfl,rfl,rfl,rfl,rfl⟩ rfl rfl rfl rfl rfl (by kernel_rfl) Try.func6 (by kernel_rfl)
  (of_decide_eq_true (by kernel_rfl)) (by unfold Func.isWrapper; first | (rw [if_pos (by decide +kernel)]; kernel_rfl) | (rw [if_neg (by decide +kernel)]; exact ⟨rfl,rfl⟩))
  (fun os started H enc _ F=>lifted os started H enc F)
theorem proved:Rows.CutPutsUptoSaid:=over
end Go.Proofs.Ytfbooejaabdkoaa.cutPutsUpto
