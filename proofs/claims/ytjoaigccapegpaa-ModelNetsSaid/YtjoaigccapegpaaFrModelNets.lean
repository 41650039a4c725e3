/-
 The given statement Rows.ModelNetsSaid: for every input the law returns true, and each argument reads as it did. Conditions: none.
-/
import Derived.Test.YtjoaigccapegpaaRows
import Derived.Test.YtjoaigccapegpaaPz
import Derived.Test.YtjoaigccapegpaaOLw34n
set_option linter.constructorNameAsVariable false
namespace Go.Proofs.Ytjoaigccapegpaa.modelNets
open Go.ChangeShapes Go.WideShapes Go.ChangeAt Go.RowKit
open Go.Proofs.Ytjoaigccapegpaa
theorem own:ownKnob Try.prog.godebug=none:=by kernel_rfl
theorem laidOut:laidOutB Try.prog=true:=by kernel_rfl
set_option linter.unusedVariables false
set_option maxRecDepth 100000 in
theorem lifted (os:Os) (started:os.Started) (H:Type) (enc:TypeId × Value->H) :
  ReturnsInHanded {} Try.checked os 6 .any (Rows.modelNetsSpec.pre6 enc Try.prog Try.f6 Rows.modelNetsRow.domain false) (Rows.modelNetsSpec.post enc Try.prog Try.f6 false true false false):=by
 refine returnsInHanded_of_change (C:=Try.checked) own started (by kernel_rfl) Try.func6
  (ChangeSpec.witness6 (enc:=enc) (C:=Try.checked) false ⟨#[],#[.slice none 0 0,.slice none 0 0,.agg #[.int .i64 0,.int .i64 0,.int .i64 0,.bool false,.int .i64 0,.int .i64 0,.int .i64 0,.int .i64 0,.int .i64 0]],[]⟩ 8 (by kernel_rfl) (by kernel_rfl) (by kernel_rfl) (by kernel_rfl)) ?_
 intro W base args ds gs before hval0 hW hcnd _
 have hval:∀ (j:Nat) t v,Try.f6.params[j]?=some t->args[j]?=some v->Value.okWide Try.prog W .any base t v:=hval0
 have hW':=hW
 obtain ⟨p,q,hA0,hV,rfl,hfz,hnd⟩:=hW
 have hA:DataW.TrodAll enc Try.prog W 0 (fun _=>true) true Try.f6.params.toList args.toList ds p:=hA0
 rw [Try.params6] at hA hval
 obtain ⟨v0,vs0,d0,ds0,p0,q0,hargs,rfl,rfl,h0,r0⟩:=trodAll_cons hA
 obtain ⟨v1,vs1,d1,ds1,p1,q1,rfl,rfl,rfl,h1,r1⟩:=trodAll_cons r0
 obtain ⟨v2,vs2,d2,ds2,p2,q2,rfl,rfl,rfl,h2,r2⟩:=trodAll_cons r1
 obtain ⟨rfl,rfl,rfl⟩:=trodAll_nil r2
 obtain rfl:args=#[v0,v1,v2]:=by cases args; simp_all
 obtain ⟨rfl,rfl⟩:=trodVars_none hV
 have k0:=h0
 have lt0:∀ x ∈ p0,x.block < W.heap.size:=by obtain ⟨m,hm⟩:=k0; exact DataW.trod_lt m _ _ _ hm
 have k1:=h1
 have lt1:∀ x ∈ p1,x.block < W.heap.size:=by obtain ⟨m,hm⟩:=k1; exact DataW.trod_lt m _ _ _ hm
 have k2:=h2
 have lt2:∀ x ∈ p2,x.block < W.heap.size:=by obtain ⟨m,hm⟩:=k2; exact DataW.trod_lt m _ _ _ hm
 obtain ⟨a0,cap0,L0,rfl,c0,m0,s0⟩:=open_slk (d0:=5) (k:=9) (e:=30) Try.underlying39 (by kernel_rfl) (by kernel_rfl) (by decide) (hval 0 39 v0 rfl rfl) h0
 obtain ⟨a1,cap1,L1,rfl,c1,m1,s1⟩:=open_slk (d0:=5) (k:=1) (e:=3) Try.underlying66 (by kernel_rfl) (by kernel_rfl) (by decide) (hval 1 66 v1 rfl rfl) h1
 obtain ⟨x2,rp2⟩:=AE.open_op (c:=AE.cReq) (AE.op_struct2 (c0:=AE.cKey) (c1:=AE.cEff) (n0:=4) (n1:=5) Try.underlying65 (by kernel_rfl) ⟨rfl,by kernel_rfl⟩ ⟨rfl,by kernel_rfl⟩ (AE.op_struct3 (c0:=AE.cId) (c1:=AE.cInt) (c2:=fun b:Bool=>[AE.AV.bool b]) (c:=AE.cKey) (n0:=2) (n1:=1) (n2:=1) Try.underlying63 (by kernel_rfl) ⟨rfl,by kernel_rfl⟩ ⟨rfl,by kernel_rfl⟩ ⟨rfl,by kernel_rfl⟩ (AE.op_flat (d0:=3) (n:=2) (by kernel_rfl) (by kernel_rfl) AE.ex_Id) (AE.op_flat (d0:=3) (n:=1) (by kernel_rfl) (by kernel_rfl) AE.ex_Int) (AE.op_bool Try.underlying4) (fun a o q=>⟨⟨a,o,q⟩,rfl⟩)) (AE.op_flat (d0:=3) (n:=5) (by kernel_rfl) (by kernel_rfl) AE.ex_Eff) (fun a b=>⟨⟨a,b⟩,rfl⟩)) (by kernel_rfl) (hval 2 65 v2 rfl rfl) h2
 clear hA0 hval0
 refine (AE.ModelNets_walk W a0 cap0 L0 c0 m0 s0 a1 cap1 L1 c1 m1 s1 v2 x2 rp2).mono fun e W' ⟨he,hadds⟩=>?_
 subst he
 have bel:=hadds
 exact ⟨_,rfl,_,_,_,[],_,[],hW',trodAll_mk1 (shut_bool Try.underlying4 _),(trodAll_cons_mk (Below.trod laidOut (by kernel_rfl) (of_decide_eq_true (by kernel_rfl)) k0 bel lt0) (trodAll_cons_mk (Below.trod laidOut (by kernel_rfl) (of_decide_eq_true (by kernel_rfl)) k1 bel lt1) (trodAll_cons_mk (Below.trod laidOut (by kernel_rfl) (of_decide_eq_true (by kernel_rfl)) k2 bel lt2) trodAll_mk0))),rfl,bel.frame _,fun h=>by cases h⟩
theorem over:Rows.modelNetsRow.holds Try.pinned (OpenSpec.ofChange Rows.modelNetsSpec):=
 OpenClaim.holds_of_wide 6 Try.f6 rfl rfl rfl rfl rfl rfl rfl ⟨rfl,rfl,rfl,rfl,rfl⟩ rfl rfl rfl rfl rfl (by kernel_rfl) Try.func6 (by kernel_rfl)
  (of_decide_eq_true (by kernel_rfl)) (by unfold Func.isWrapper; first | (rw [if_pos (by decide +kernel)]; kernel_rfl) | (rw [if_neg (by decide +kernel)]; exact ⟨rfl,rfl⟩))
  (fun os started H enc _=>lifted os started H enc)
theorem proved:Rows.ModelNetsSaid:=over
end Go.Proofs.Ytjoaigccapegpaa.modelNets
