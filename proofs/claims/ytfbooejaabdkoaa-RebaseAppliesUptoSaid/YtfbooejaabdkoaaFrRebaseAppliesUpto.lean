/-
 The given statement Rows.RebaseAppliesUptoSaid: for every input of bulk at most 1048576 the law returns true, and each argument reads as it did. Conditions: the bound that the statement itself names.
-/
import Derived.Test.YtfbooejaabdkoaaRows
import Derived.ProofKit
import Derived.JoinedCond
import Derived.Test.YtfbooejaabdkoaaPz
import Derived.Test.YtfbooejaabdkoaaOLw42a
import Derived.Test.YtfbooejaabdkoaaOOpU
set_option linter.constructorNameAsVariable false
namespace Go.Proofs.Ytfbooejaabdkoaa.rebaseAppliesUpto
open Go.ChangeShapes Go.WideShapes Go.ChangeAt Go.RowKit
open Go.Proofs.Ytfbooejaabdkoaa
theorem own : ownKnob Try.prog.godebug = none := by kernel_rfl
theorem laidOut : laidOutB Try.prog = true := by kernel_rfl
set_option linter.unusedVariables false
set_option maxRecDepth 100000 in
theorem lifted (os : Os) (started : os.Started) (H : Type) (enc : TypeId × Value → H) (F : Stop.Interp) :
  ReturnsInHanded {} Try.checked os 4 .any ((Rows.OpenSpec.upto Rows.rebaseAppliesSpec).pre6 enc Try.prog Try.f4 Rows.rebaseAppliesUptoRow.domain false) (((Rows.OpenSpec.upto Rows.rebaseAppliesSpec).at F).post enc Try.prog Try.f4 false true false false) := by
 refine returnsInHanded_of_cond (C := Try.checked) (s := Rows.OpenSpec.upto Rows.rebaseAppliesSpec) (k := Rows.uptoSmall) rfl own started (by kernel_rfl) Try.func4
  (OpenSpec.witness (enc := enc) (C := Try.checked) (s := Rows.OpenSpec.upto Rows.rebaseAppliesSpec) (k := Rows.uptoSmall) rfl false ⟨#[], #[.agg #[.int .i64 0, .int .i64 0, .int .i64 0, .slice none 0 0, .int .i64 0, .slice none 0 0], .slice none 0 0, .slice none 0 0], []⟩ 8 (by kernel_rfl) (by kernel_rfl) (by kernel_rfl)
   (x := ([.agg [.agg [.lit (.int .i64 0), .lit (.int .i64 0)], .agg [.lit (.int .i64 0), .nil], .agg [.lit (.int .i64 0), .nil]], .nil, .nil], [], [])) (by kernel_rfl) rfl (by kernel_rfl)) ?_
 intro W base args ds gs before hval0 hW hcnd hk _
 have hval : ∀ (j : Nat) t v, Try.f4.params[j]? = some t → args[j]? = some v → Value.okWide Try.prog W .any base t v := hval0
 have hW' := hW
 obtain ⟨p, q, hA0, hV, rfl, hfz, hnd⟩ := hW
 have hA : DataW.TrodAll enc Try.prog W 0 (fun _ => true) true Try.f4.params.toList args.toList ds p := hA0
 rw [Try.params4] at hA hval
 obtain ⟨v0, vs0, d0, ds0, p0, q0, hargs, rfl, rfl, h0, r0⟩ := trodAll_cons hA
 obtain ⟨v1, vs1, d1, ds1, p1, q1, rfl, rfl, rfl, h1, r1⟩ := trodAll_cons r0
 obtain ⟨v2, vs2, d2, ds2, p2, q2, rfl, rfl, rfl, h2, r2⟩ := trodAll_cons r1
 obtain ⟨rfl, rfl, rfl⟩ := trodAll_nil r2
 obtain rfl : args = #[v0, v1, v2] := by cases args; simp_all
 obtain ⟨rfl, rfl⟩ := trodVars_none hV
 have hbulk : Rows.uptoBulk d0 + (Rows.uptoBulk d1 + (Rows.uptoBulk d2 + 0)) ≤ 1048576 := by
  have h := of_decide_eq_true hk
  simpa only [List.cons_append, List.nil_append, List.append_nil, Rows.uptoBulkAll] using h
 have k0 := h0
 have lt0 : ∀ x ∈ p0, x.block < W.heap.size := by obtain ⟨m, hm⟩ := k0; exact DataW.trod_lt m _ _ _ hm
 have k1 := h1
 have lt1 : ∀ x ∈ p1, x.block < W.heap.size := by obtain ⟨m, hm⟩ := k1; exact DataW.trod_lt m _ _ _ hm
 have k2 := h2
 have lt2 : ∀ x ∈ p2, x.block < W.heap.size := by obtain ⟨m, hm⟩ := k2; exact DataW.trod_lt m _ _ _ hm
 obtain ⟨x0, rr0, B0⟩ := AE.open_opB (c := AE.cShf) (B := fun s => s.old.effs.length + s.new.effs.length) (AE.opB_struct3 (n0 := 2) (n1 := 2) (n2 := 2) Try.underlying46 (by kernel_rfl) ⟨rfl, by kernel_rfl⟩ ⟨rfl, by kernel_rfl⟩ ⟨rfl, by kernel_rfl⟩ (AE.opB_flat (AE.op_flat (d0 := 3) (n := 2) (by kernel_rfl) (by kernel_rfl) AE.ex_Id)) (AE.opB_struct2 (c := AE.cOc) (B := fun o => o.effs.length) (n0 := 1) (n1 := 1) Try.underlying44 (by kernel_rfl) ⟨rfl, by kernel_rfl⟩ ⟨rfl, by kernel_rfl⟩ (AE.opB_flat (AE.op_flat (d0 := 3) (n := 1) (by kernel_rfl) (by kernel_rfl) AE.ex_Int)) (AE.opB_slice (k := 5) (c := AE.cEff) Try.underlying42 (AE.op_slice (k := 5) (c := AE.cEff) Try.underlying42 (by kernel_rfl) (by decide) (AE.op_flat (d0 := 3) (n := 5) (by kernel_rfl) (by kernel_rfl) AE.ex_Eff))) (fun a L => ⟨⟨a, L⟩, rfl, Nat.le_add_left _ _⟩)) (AE.opB_struct2 (c := AE.cOc) (B := fun o => o.effs.length) (n0 := 1) (n1 := 1) Try.underlying44 (by kernel_rfl) ⟨rfl, by kernel_rfl⟩ ⟨rfl, by kernel_rfl⟩ (AE.opB_flat (AE.op_flat (d0 := 3) (n := 1) (by kernel_rfl) (by kernel_rfl) AE.ex_Int)) (AE.opB_slice (k := 5) (c := AE.cEff) Try.underlying42 (AE.op_slice (k := 5) (c := AE.cEff) Try.underlying42 (by kernel_rfl) (by decide) (AE.op_flat (d0 := 3) (n := 5) (by kernel_rfl) (by kernel_rfl) AE.ex_Eff))) (fun a L => ⟨⟨a, L⟩, rfl, Nat.le_add_left _ _⟩)) (fun a o q => ⟨⟨a, o, q⟩, rfl, by simp only; omega⟩)) (by kernel_rfl) (hval 0 46 v0 rfl rfl) h0
 obtain ⟨a1, cap1, L1, rfl, c1, m1, s1⟩ := open_slk (d0 := 5) (k := 5) (e := 50) Try.underlying42 (by kernel_rfl) (by kernel_rfl) (by decide) (hval 1 42 v1 rfl rfl) h1
 obtain ⟨a2, cap2, L2, rfl, c2, m2, s2⟩ := open_slk (d0 := 5) (k := 5) (e := 50) Try.underlying42 (by kernel_rfl) (by kernel_rfl) (by decide) (hval 2 42 v2 rfl rfl) h2
 have b1 := AE.slice_bulk Try.underlying42 h1
 have b2 := AE.slice_bulk Try.underlying42 h2
 clear hA0 hval0
 refine (AE.RebaseApplies_walk W v0 x0 rr0 a1 cap1 L1 c1 m1 s1 a2 cap2 L2 c2 m2 s2 ⟨by omega, by omega, by omega, by omega⟩).mono fun e W' ⟨he, hadds⟩ => ?_
 subst he
 have bel := hadds
 exact ⟨_, rfl, _, _, _, [], _, [], hW', trodAll_mk1 (shut_bool Try.underlying4 _), (trodAll_cons_mk (Below.trod laidOut (by kernel_rfl) (of_decide_eq_true (by kernel_rfl)) k0 bel lt0) (trodAll_cons_mk (Below.trod laidOut (by kernel_rfl) (of_decide_eq_true (by kernel_rfl)) k1 bel lt1) (trodAll_cons_mk (Below.trod laidOut (by kernel_rfl) (of_decide_eq_true (by kernel_rfl)) k2 bel lt2) trodAll_mk0))), rfl, bel.frame _, fun h => by cases h⟩
theorem over : Rows.rebaseAppliesUptoRow.holds Try.pinned (Rows.OpenSpec.upto Rows.rebaseAppliesSpec) :=
 OpenClaim.holds_of_cond 4 Try.f4 rfl rfl rfl rfl rfl rfl rfl ⟨rfl, rfl, rfl, rfl, rfl⟩ rfl rfl rfl rfl rfl (by kernel_rfl) Try.func4 (by kernel_rfl)
  (of_decide_eq_true (by kernel_rfl)) (by unfold Func.isWrapper; first | (rw [if_pos (by decide +kernel)]; kernel_rfl) | (rw [if_neg (by decide +kernel)]; exact ⟨rfl, rfl⟩))
  (fun os started H enc _ F => lifted os started H enc F)
theorem proved : Rows.RebaseAppliesUptoSaid := over
end Go.Proofs.Ytfbooejaabdkoaa.rebaseAppliesUpto
