/-
 The given statement Rows.CutKnowsSaid: for every input the law returns true, and each argument reads as it did. Conditions: none.
-/
import Derived.Test.YtfbooejaabdkoaaRows
import Derived.Test.YtfbooejaabdkoaaPz
import Derived.Test.YtfbooejaabdkoaaOOp
import Derived.Test.YtfbooejaabdkoaaOLw41k
set_option linter.constructorNameAsVariable false
namespace Go.Proofs.Ytfbooejaabdkoaa.cutKnows
open Go.ChangeShapes Go.WideShapes Go.ChangeAt Go.RowKit
open Go.Proofs.Ytfbooejaabdkoaa
theorem own:ownKnob Try.prog.godebug=none:=by kernel_rfl
theorem laidOut:laidOutB Try.prog=true:=by kernel_rfl
set_option linter.unusedVariables false
set_option maxRecDepth 100000 in
theorem lifted (os:Os) (started:os.Started) (H:Type) (enc:TypeId × Value->H) :
  ReturnsInHanded {} Try.checked os 8 .any (Rows.cutKnowsSpec.pre6 enc Try.prog Try.f8 Rows.cutKnowsRow.domain false) (Rows.cutKnowsSpec.post enc Try.prog Try.f8 false true false false):=by
 refine returnsInHanded_of_change (C:=Try.checked) own started (by kernel_rfl) Try.func8
  (ChangeSpec.witness6 (enc:=enc) (C:=Try.checked) false ⟨#[],#[.slice none 0 0,.int .i64 0,.agg #[.int .i64 0,.int .i64 0,.int .i64 0,.int .i64 0,.int .i64 0,.int .i64 0,.int .i64 0,.int .i64 0,.int .i64 0,.int .i64 0,.int .i64 0,.int .i64 0,.int .i64 0,.int .i64 0,.int .i64 0,.int .i64 0,.int .i64 0,.int .i64 0,.int .i64 0,.int .i64 0,.int .i64 0,.int .i64 0,.int .i64 0,.int .i64 0,.int .i64 0,.int .i64 0,.int .i64 0,.int .i64 0,.int .i64 0,.slice none 0 0],.agg #[.int .i64 0,.int .i64 0,.int .i64 0,.int .i64 0,.int .i64 0,.int .i64 0,.int .i64 0,.int .i64 0,.int .i64 0,.int .i64 0,.int .i64 0,.int .i64 0,.int .i64 0,.int .i64 0,.int .i64 0,.int .i64 0,.int .i64 0,.int .i64 0,.int .i64 0,.int .i64 0,.int .i64 0,.int .i64 0,.int .i64 0,.int .i64 0,.int .i64 0,.int .i64 0,.int .i64 0,.int .i64 0,.int .i64 0,.slice none 0 0]],[]⟩ 8 (by kernel_rfl) (by kernel_rfl) (by kernel_rfl) (by kernel_rfl)) ?_
 intro W base args ds gs before hval0 hW hcnd _
 have hval:∀ (j:Nat) t v,Try.f8.params[j]?=some t->args[j]?=some v->Value.okWide Try.prog W .any base t v:=hval0
 have hW':=hW
 obtain ⟨p,q,hA0,hV,rfl,hfz,hnd⟩:=hW
 have hA:DataW.TrodAll enc Try.prog W 0 (fun _=>true) true Try.f8.params.toList args.toList ds p:=hA0
 rw [Try.params8] at hA hval
 obtain ⟨v0,vs0,d0,ds0,p0,q0,hargs,rfl,rfl,h0,r0⟩:=trodAll_cons hA
 obtain ⟨v1,vs1,d1,ds1,p1,q1,rfl,rfl,rfl,h1,r1⟩:=trodAll_cons r0
 obtain ⟨v2,vs2,d2,ds2,p2,q2,rfl,rfl,rfl,h2,r2⟩:=trodAll_cons r1
 obtain ⟨v3,vs3,d3,ds3,p3,q3,rfl,rfl,rfl,h3,r3⟩:=trodAll_cons r2
 obtain ⟨rfl,rfl,rfl⟩:=trodAll_nil r3
 obtain rfl:args=#[v0,v1,v2,v3]:=by cases args; simp_all
 obtain ⟨rfl,rfl⟩:=trodVars_none hV
 have k0:=h0
 have lt0:∀ x ∈ p0,x.block < W.heap.size:=by obtain ⟨m,hm⟩:=k0; exact DataW.trod_lt m _ _ _ hm
 have k1:=h1
 have lt1:∀ x ∈ p1,x.block < W.heap.size:=by obtain ⟨m,hm⟩:=k1; exact DataW.trod_lt m _ _ _ hm
 have k2:=h2
 have lt2:∀ x ∈ p2,x.block < W.heap.size:=by obtain ⟨m,hm⟩:=k2; exact DataW.trod_lt m _ _ _ hm
 have k3:=h3
 have lt3:∀ x ∈ p3,x.block < W.heap.size:=by obtain ⟨m,hm⟩:=k3; exact DataW.trod_lt m _ _ _ hm
 obtain ⟨a0,cap0,L0,rfl,c0,m0,s0⟩:=open_slk (d0:=5) (k:=9) (e:=39) Try.underlying26 (by kernel_rfl) (by kernel_rfl) (by decide) (hval 0 26 v0 rfl rfl) h0
 obtain ⟨a1,rfl,e1,_,w1⟩:=open_int Try.underlying3 (hval 1 3 v1 rfl rfl) h1
 obtain ⟨x2,rp2⟩:=AE.open_op (c:=AE.cCutS) (AE.op_struct3 (c0:=AE.cInt) (c1:=AE.cV (n:=4)) (c2:=AE.cBook) (c:=AE.cCutS) (n0:=1) (n1:=4) (n2:=25) Try.underlying63 (by kernel_rfl) ⟨rfl,by kernel_rfl⟩ ⟨rfl,by kernel_rfl⟩ ⟨rfl,by kernel_rfl⟩ (AE.op_flat (d0:=3) (n:=1) (by kernel_rfl) (by kernel_rfl) AE.ex_Int) (AE.op_flat (d0:=3) (n:=4) (by kernel_rfl) (by kernel_rfl) (fun l h=>AE.ex_V l h)) (AE.op_struct4 (c0:=AE.cV (n:=8)) (c1:=AE.cV (n:=8)) (c2:=AE.cV (n:=8)) (c3:=fun L:List AE.Ord=>[AE.AV.sl 7 (AE.rows (AE.cOrd) L)]) (c:=AE.cBook) (n0:=8) (n1:=8) (n2:=8) (n3:=1) Try.underlying25 (by kernel_rfl) ⟨rfl,by kernel_rfl⟩ ⟨rfl,by kernel_rfl⟩ ⟨rfl,by kernel_rfl⟩ ⟨rfl,by kernel_rfl⟩ (AE.op_flat (d0:=3) (n:=8) (by kernel_rfl) (by kernel_rfl) (fun l h=>AE.ex_V l h)) (AE.op_flat (d0:=3) (n:=8) (by kernel_rfl) (by kernel_rfl) (fun l h=>AE.ex_V l h)) (AE.op_flat (d0:=3) (n:=8) (by kernel_rfl) (by kernel_rfl) (fun l h=>AE.ex_V l h)) (AE.op_slice Try.underlying23 (by kernel_rfl) (by decide) (AE.op_flat (d0:=3) (n:=7) (by kernel_rfl) (by kernel_rfl) AE.ex_Ord)) (fun a b d e=>⟨⟨⟨a,b,d⟩,e⟩,by simp [AE.cBook,AE.cBk]⟩)) (fun a v B=>⟨⟨a,v,B.bk,B.os⟩,rfl⟩)) (by kernel_rfl) (hval 2 63 v2 rfl rfl) h2
 obtain ⟨x3,rp3⟩:=AE.open_op (c:=AE.cCutS) (AE.op_struct3 (c0:=AE.cInt) (c1:=AE.cV (n:=4)) (c2:=AE.cBook) (c:=AE.cCutS) (n0:=1) (n1:=4) (n2:=25) Try.underlying63 (by kernel_rfl) ⟨rfl,by kernel_rfl⟩ ⟨rfl,by kernel_rfl⟩ ⟨rfl,by kernel_rfl⟩ (AE.op_flat (d0:=3) (n:=1) (by kernel_rfl) (by kernel_rfl) AE.ex_Int) (AE.op_flat (d0:=3) (n:=4) (by kernel_rfl) (by kernel_rfl) (fun l h=>AE.ex_V l h)) (AE.op_struct4 (c0:=AE.cV (n:=8)) (c1:=AE.cV (n:=8)) (c2:=AE.cV (n:=8)) (c3:=fun L:List AE.Ord=>[AE.AV.sl 7 (AE.rows (AE.cOrd) L)]) (c:=AE.cBook) (n0:=8) (n1:=8) (n2:=8) (n3:=1) Try.underlying25 (by kernel_rfl) ⟨rfl,by kernel_rfl⟩ ⟨rfl,by kernel_rfl⟩ ⟨rfl,by kernel_rfl⟩ ⟨rfl,by kernel_rfl⟩ (AE.op_flat (d0:=3) (n:=8) (by kernel_rfl) (by kernel_rfl) (fun l h=>AE.ex_V l h)) (AE.op_flat (d0:=3) (n:=8) (by kernel_rfl) (by kernel_rfl) (fun l h=>AE.ex_V l h)) (AE.op_flat (d0:=3) (n:=8) (by kernel_rfl) (by kernel_rfl) (fun l h=>AE.ex_V l h)) (AE.op_slice Try.underlying23 (by kernel_rfl) (by decide) (AE.op_flat (d0:=3) (n:=7) (by kernel_rfl) (by kernel_rfl) AE.ex_Ord)) (fun a b d e=>⟨⟨⟨a,b,d⟩,e⟩,by simp [AE.cBook,AE.cBk]⟩)) (fun a v B=>⟨⟨a,v,B.bk,B.os⟩,rfl⟩)) (by kernel_rfl) (hval 3 63 v3 rfl rfl) h3
 clear hA0 hval0
 refine (AE.CutKnows_walk W a0 cap0 L0 c0 m0 s0 a1 (I64.of_wf w1) v2 x2 rp2 v3 x3 rp3).mono fun e W' ⟨he,hadds⟩=>?_
 subst he
 have bel:=hadds
 exact ⟨_,rfl,_,_,_,[],_,[],hW',trodAll_mk1 (shut_bool Try.underlying4 _),(trodAll_cons_mk (Below.trod laidOut (by kernel_rfl) (of_decide_eq_true (by kernel_rfl)) k0 bel lt0) (trodAll_cons_mk (Below.trod laidOut (by kernel_rfl) (of_decide_eq_true (by kernel_rfl)) k1 bel lt1) (trodAll_cons_mk (Below.trod laidOut (by kernel_rfl) (of_decide_eq_true (by kernel_rfl)) k2 bel lt2) (trodAll_cons_mk (Below.trod laidOut (by kernel_rfl) (of_decide_eq_true (by kernel_rfl)) k3 bel lt3) trodAll_mk0)))),rfl,bel.frame _,fun h=>by cases h⟩
theorem over:Rows.cutKnowsRow.holds Try.pinned (OpenSpec.ofChange Rows.cutKnowsSpec):=
 OpenClaim.holds_of_wide 8 Try.f8 rfl rfl rfl rfl rfl rfl rfl ⟨rfl,rfl,rfl,rfl,rfl⟩ rfl rfl rfl rfl rfl (by kernel_rfl) Try.func8 (by kernel_rfl)
  (of_decide_eq_true (by kernel_rfl)) (by unfold Func.isWrapper; first | (rw [if_pos (by decide +kernel)]; kernel_rfl) | (rw [if_neg (by decide +kernel)]; exact ⟨rfl,rfl⟩))
  (fun os started H enc _=>lifted os started H enc)
theorem proved:Rows.CutKnowsSaid:=over
end Go.Proofs.Ytfbooejaabdkoaa.cutKnows
