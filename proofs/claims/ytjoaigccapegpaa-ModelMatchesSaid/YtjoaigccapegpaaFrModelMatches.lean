/-
 The given statement Rows.ModelMatchesSaid: for every input the law returns true, and each argument reads as it did. Conditions: none.
-/
import Derived.Test.YtjoaigccapegpaaRows
import Derived.Test.YtjoaigccapegpaaPz
import Derived.Test.YtjoaigccapegpaaOLw34m
set_option linter.constructorNameAsVariable false
namespace Go.Proofs.Ytjoaigccapegpaa.modelMatches
open Go.ChangeShapes Go.WideShapes Go.ChangeAt Go.RowKit
open Go.Proofs.Ytjoaigccapegpaa
theorem own:ownKnob Try.prog.godebug=none:=by kernel_rfl
theorem laidOut:laidOutB Try.prog=true:=by kernel_rfl
set_option linter.unusedVariables false
set_option maxRecDepth 100000 in
theorem lifted (os:Os) (started:os.Started) (H:Type) (enc:TypeId × Value->H) :
  ReturnsInHanded {} Try.checked os 5 .any (Rows.modelMatchesSpec.pre6 enc Try.prog Try.f5 Rows.modelMatchesRow.domain false) (Rows.modelMatchesSpec.post enc Try.prog Try.f5 false true false false):=by
 refine returnsInHanded_of_change (C:=Try.checked) own started (by kernel_rfl) Try.func5
  (ChangeSpec.witness6 (enc:=enc) (C:=Try.checked) false ⟨#[],#[.slice none 0 0,.slice none 0 0],[]⟩ 8 (by kernel_rfl) (by kernel_rfl) (by kernel_rfl) (by kernel_rfl)) ?_
 intro W base args ds gs before hval0 hW hcnd _
 have hval:∀ (j:Nat) t v,Try.f5.params[j]?=some t->args[j]?=some v->Value.okWide Try.prog W .any base t v:=hval0
 have hW':=hW
 obtain ⟨p,q,hA0,hV,rfl,hfz,hnd⟩:=hW
 have hA:DataW.TrodAll enc Try.prog W 0 (fun _=>true) true Try.f5.params.toList args.toList ds p:=hA0
 rw [Try.params5] at hA hval
 obtain ⟨v0,vs0,d0,ds0,p0,q0,hargs,rfl,rfl,h0,r0⟩:=trodAll_cons hA
 obtain ⟨v1,vs1,d1,ds1,p1,q1,rfl,rfl,rfl,h1,r1⟩:=trodAll_cons r0
 obtain ⟨rfl,rfl,rfl⟩:=trodAll_nil r1
 obtain rfl:args=#[v0,v1]:=by cases args; simp_all
 obtain ⟨rfl,rfl⟩:=trodVars_none hV
 have k0:=h0
 have lt0:∀ x ∈ p0,x.block < W.heap.size:=by obtain ⟨m,hm⟩:=k0; exact DataW.trod_lt m _ _ _ hm
 have k1:=h1
 have lt1:∀ x ∈ p1,x.block < W.heap.size:=by obtain ⟨m,hm⟩:=k1; exact DataW.trod_lt m _ _ _ hm
 obtain ⟨x0,rp0⟩:=AE.open_opS (c:=AE.cReq) (k:=9) (e:=65) Try.underlying43 (by kernel_rfl) (by decide) (AE.op_struct2 (c0:=AE.cKey) (c1:=AE.cEff) (n0:=4) (n1:=5) Try.underlying65 (by kernel_rfl) ⟨rfl,by kernel_rfl⟩ ⟨rfl,by kernel_rfl⟩ (AE.op_struct3 (c0:=AE.cId) (c1:=AE.cInt) (c2:=fun b:Bool=>[AE.AV.bool b]) (c:=AE.cKey) (n0:=2) (n1:=1) (n2:=1) Try.underlying63 (by kernel_rfl) ⟨rfl,by kernel_rfl⟩ ⟨rfl,by kernel_rfl⟩ ⟨rfl,by kernel_rfl⟩ (AE.op_flat (d0:=3) (n:=2) (by kernel_rfl) (by kernel_rfl) AE.ex_Id) (AE.op_flat (d0:=3) (n:=1) (by kernel_rfl) (by kernel_rfl) AE.ex_Int) (AE.op_bool Try.underlying4) (fun a o q=>⟨⟨a,o,q⟩,rfl⟩)) (AE.op_flat (d0:=3) (n:=5) (by kernel_rfl) (by kernel_rfl) AE.ex_Eff) (fun a b=>⟨⟨a,b⟩,rfl⟩)) (hval 0 43 v0 rfl rfl) h0
 obtain ⟨a1,cap1,L1,rfl,c1,m1,s1⟩:=open_slk (d0:=5) (k:=9) (e:=30) Try.underlying39 (by kernel_rfl) (by kernel_rfl) (by decide) (hval 1 39 v1 rfl rfl) h1
 clear hA0 hval0
 refine (AE.ModelMatches_walk W v0 x0 rp0 a1 cap1 L1 c1 m1 s1).mono fun e W' ⟨he,hadds⟩=>?_
 subst he
 have bel:=hadds
 exact ⟨_,rfl,_,_,_,[],_,[],hW',trodAll_mk1 (shut_bool Try.underlying4 _),(trodAll_cons_mk (Below.trod laidOut (by kernel_rfl) (of_decide_eq_true (by kernel_rfl)) k0 bel lt0) (trodAll_cons_mk (Below.trod laidOut (by kernel_rfl) (of_decide_eq_true (by kernel_rfl)) k1 bel lt1) trodAll_mk0)),rfl,bel.frame _,fun h=>by cases h⟩
theorem over:Rows.modelMatchesRow.holds Try.pinned (OpenSpec.ofChange Rows.modelMatchesSpec):=
 OpenClaim.holds_of_wide 5 Try.f5 rfl rfl rfl rfl rfl rfl rfl ⟨rfl,rfl,rfl,rfl,rfl⟩ rfl rfl rfl rfl rfl (by kernel_rfl) Try.func5 (by kernel_rfl)
  (of_decide_eq_true (by kernel_rfl)) (by unfold Func.isWrapper; first | (rw [if_pos (by decide +kernel)]; kernel_rfl) | (rw [if_neg (by decide +kernel)]; exact ⟨rfl,rfl⟩))
  (fun os started H enc _=>lifted os started H enc)
theorem proved:Rows.ModelMatchesSaid:=over
end Go.Proofs.Ytjoaigccapegpaa.modelMatches
