/-
  No cell of these rows narrows 'for every input' (looked for: loops, veiled, ifaces, maps, wideKeys, modest, calm, conditions, laid).
  DERIVED. THE GIVEN ROWS OF THIS SEAT. 6 by the template 'for every input the law returns true; each argument reads behind the call as it read before'; 0 by the template 'total and deterministic' (their statements: YtfbooejaabdkoaaTotals.lean).
  GIVEN WITH THE SEED: the statements are not yours to turn. If you find one false, say at which input.
  Laid BY PROGRAM, IN A SANDBOX (cutbox-rows.mjs): the forced cells as the released guide's own fill.sh prints them over the translation 9b8e1fb3764356f5… (all of the seat's roots in one cut). By AI agents, Wed Nov 11 2026. No macro, syntax, notation, axiom, sorry.
-/
import Derived.Test.YtfbooejaabdkoaaChecked
import GoSem.Claim
import GoSem.ClaimJoined
import GoSem.ClaimMapViews
import Derived.JoinedTies
import Derived.KernelRfl
namespace Go.Proofs.Ytfbooejaabdkoaa
/- THE CELL 'sum', in the pinned program and in every row, IS THE sha256 OF THE DUMP (.gsa) THAT YtfbooejaabdkoaaProg.lean LOADS. Nothing in Lean hashes anything: it is a label: what it is worth is what the hold of that sum in a sandbox is worth. -/
noncomputable def Try.pinned : Pinned := { name := "ytfbooejaabdkoaa", sum := "9b8e1fb3764356f5fa9375960c83f5deeb910290b0bdf6062563cdcfd9a56cb8", checked := Try.checked }
namespace Rows
def none {H : Type} : Left H := { results := [], args := [] }

/-- 'countermandlaw42.RebaseTells': WHATEVER THE INPUT: true; the input reads as it did. -/
def rebaseTellsSpec : ChangeSpec := { name := "rebaseTells", fn := fun _ => fun
  | [d1, d2, d3] => { results := [.lit (.bool true)], args := [d1, d2, d3] }
  | _ => none }
def rebaseTellsRow : OpenClaim := { program := "ytfbooejaabdkoaa", sum := "9b8e1fb3764356f5fa9375960c83f5deeb910290b0bdf6062563cdcfd9a56cb8", func := "countermand/countermandlaw42.RebaseTells", spec := "rebaseTells", unfollowed := true, recurses := true, apart := false }
def RebaseTellsSaid : Prop := rebaseTellsRow.holds Try.pinned (OpenSpec.ofChange rebaseTellsSpec)

/-- ITS FALSE NEIGHBOUR: 'it returns false'. Refute it at one input. -/
def rebaseTellsWrong : ChangeSpec := { name := "rebaseTells", fn := fun _ => fun
  | [d1, d2, d3] => { results := [.lit (.bool false)], args := [d1, d2, d3] }
  | _ => none }
def RebaseTellsWrongFalsely : Prop := rebaseTellsRow.holds Try.pinned (OpenSpec.ofChange rebaseTellsWrong)

/-- 'countermandlaw42.RebaseApplies': WHATEVER THE INPUT: true; the input reads as it did. -/
def rebaseAppliesSpec : ChangeSpec := { name := "rebaseApplies", fn := fun _ => fun
  | [d1, d2, d3] => { results := [.lit (.bool true)], args := [d1, d2, d3] }
  | _ => none }
def rebaseAppliesRow : OpenClaim := { program := "ytfbooejaabdkoaa", sum := "9b8e1fb3764356f5fa9375960c83f5deeb910290b0bdf6062563cdcfd9a56cb8", func := "countermand/countermandlaw42.RebaseApplies", spec := "rebaseApplies", unfollowed := true, recurses := true, apart := false }
def RebaseAppliesSaid : Prop := rebaseAppliesRow.holds Try.pinned (OpenSpec.ofChange rebaseAppliesSpec)

/-- ITS FALSE NEIGHBOUR: 'it returns false'. Refute it at one input. -/
def rebaseAppliesWrong : ChangeSpec := { name := "rebaseApplies", fn := fun _ => fun
  | [d1, d2, d3] => { results := [.lit (.bool false)], args := [d1, d2, d3] }
  | _ => none }
def RebaseAppliesWrongFalsely : Prop := rebaseAppliesRow.holds Try.pinned (OpenSpec.ofChange rebaseAppliesWrong)

/-- 'countermandlaw42.RebaseSwaps': WHATEVER THE INPUT: true; the input reads as it did. -/
def rebaseSwapsSpec : ChangeSpec := { name := "rebaseSwaps", fn := fun _ => fun
  | [d1, d2] => { results := [.lit (.bool true)], args := [d1, d2] }
  | _ => none }
def rebaseSwapsRow : OpenClaim := { program := "ytfbooejaabdkoaa", sum := "9b8e1fb3764356f5fa9375960c83f5deeb910290b0bdf6062563cdcfd9a56cb8", func := "countermand/countermandlaw42.RebaseSwaps", spec := "rebaseSwaps", unfollowed := true, recurses := true, apart := false }
def RebaseSwapsSaid : Prop := rebaseSwapsRow.holds Try.pinned (OpenSpec.ofChange rebaseSwapsSpec)

/-- ITS FALSE NEIGHBOUR: 'it returns false'. Refute it at one input. -/
def rebaseSwapsWrong : ChangeSpec := { name := "rebaseSwaps", fn := fun _ => fun
  | [d1, d2] => { results := [.lit (.bool false)], args := [d1, d2] }
  | _ => none }
def RebaseSwapsWrongFalsely : Prop := rebaseSwapsRow.holds Try.pinned (OpenSpec.ofChange rebaseSwapsWrong)

/-- 'countermandlaw41.CutPuts': WHATEVER THE INPUT: true; the input reads as it did. -/
def cutPutsSpec : ChangeSpec := { name := "cutPuts", fn := fun _ => fun
  | [d1, d2] => { results := [.lit (.bool true)], args := [d1, d2] }
  | _ => none }
def cutPutsRow : OpenClaim := { program := "ytfbooejaabdkoaa", sum := "9b8e1fb3764356f5fa9375960c83f5deeb910290b0bdf6062563cdcfd9a56cb8", func := "countermand/countermandlaw41.CutPuts", spec := "cutPuts", unfollowed := true, recurses := true, apart := false }
def CutPutsSaid : Prop := cutPutsRow.holds Try.pinned (OpenSpec.ofChange cutPutsSpec)

/-- ITS FALSE NEIGHBOUR: 'it returns false'. Refute it at one input. -/
def cutPutsWrong : ChangeSpec := { name := "cutPuts", fn := fun _ => fun
  | [d1, d2] => { results := [.lit (.bool false)], args := [d1, d2] }
  | _ => none }
def CutPutsWrongFalsely : Prop := cutPutsRow.holds Try.pinned (OpenSpec.ofChange cutPutsWrong)

/-- 'countermandlaw41.CutRuns': WHATEVER THE INPUT: true; the input reads as it did. -/
def cutRunsSpec : ChangeSpec := { name := "cutRuns", fn := fun _ => fun
  | [d1, d2, d3] => { results := [.lit (.bool true)], args := [d1, d2, d3] }
  | _ => none }
def cutRunsRow : OpenClaim := { program := "ytfbooejaabdkoaa", sum := "9b8e1fb3764356f5fa9375960c83f5deeb910290b0bdf6062563cdcfd9a56cb8", func := "countermand/countermandlaw41.CutRuns", spec := "cutRuns", unfollowed := true, recurses := true, apart := false }
def CutRunsSaid : Prop := cutRunsRow.holds Try.pinned (OpenSpec.ofChange cutRunsSpec)

/-- ITS FALSE NEIGHBOUR: 'it returns false'. Refute it at one input. -/
def cutRunsWrong : ChangeSpec := { name := "cutRuns", fn := fun _ => fun
  | [d1, d2, d3] => { results := [.lit (.bool false)], args := [d1, d2, d3] }
  | _ => none }
def CutRunsWrongFalsely : Prop := cutRunsRow.holds Try.pinned (OpenSpec.ofChange cutRunsWrong)

/-- 'countermandlaw41.CutKnows': WHATEVER THE INPUT: true; the input reads as it did. -/
def cutKnowsSpec : ChangeSpec := { name := "cutKnows", fn := fun _ => fun
  | [d1, d2, d3, d4] => { results := [.lit (.bool true)], args := [d1, d2, d3, d4] }
  | _ => none }
def cutKnowsRow : OpenClaim := { program := "ytfbooejaabdkoaa", sum := "9b8e1fb3764356f5fa9375960c83f5deeb910290b0bdf6062563cdcfd9a56cb8", func := "countermand/countermandlaw41.CutKnows", spec := "cutKnows", unfollowed := true, recurses := true, apart := false }
def CutKnowsSaid : Prop := cutKnowsRow.holds Try.pinned (OpenSpec.ofChange cutKnowsSpec)

/-- ITS FALSE NEIGHBOUR: 'it returns false'. Refute it at one input. -/
def cutKnowsWrong : ChangeSpec := { name := "cutKnows", fn := fun _ => fun
  | [d1, d2, d3, d4] => { results := [.lit (.bool false)], args := [d1, d2, d3, d4] }
  | _ => none }
def CutKnowsWrongFalsely : Prop := cutKnowsRow.holds Try.pinned (OpenSpec.ofChange cutKnowsWrong)

/- THE SECOND FORM. 'bulk': how many values and letters a reading holds, each counted each time it is reached (what is shared counts as often as it is met; a slice's spare places count too). A statement '..UptoSaid' is the law's where the arguments, and the package variables that the reading takes, are together of bulk at most 1048576: NARROWER than '..Said'. Prove '..Said' where nothing that the law and all that it calls make is longer than what came in: it says more and counts as full. Else prove '..UptoSaid'. A law counts once. -/
mutual
def uptoBulk {H : Type} : DataW H → Nat
  | .lit (.string bytes) => bytes.length + 1
  | .lit _ => 1
  | .nil => 1
  | .ptr d => uptoBulk d + 1
  | .slice elems spare => uptoBulkAll elems + uptoBulkAll spare + 1
  | .agg parts => uptoBulkAll parts + 1
  | .iface _ d => uptoBulk d + 1
  | .map entries => uptoBulkEntries entries + 1
  | .held _ => 1
def uptoBulkAll {H : Type} : List (DataW H) → Nat
  | [] => 0
  | d :: r => uptoBulk d + uptoBulkAll r
def uptoBulkEntries {H : Type} : List (Lit × DataW H) → Nat
  | [] => 0
  | x :: r => uptoBulkEntry x + uptoBulkEntries r
def uptoBulkEntry {H : Type} : Lit × DataW H → Nat
  | (.string bytes, d) => bytes.length + uptoBulk d + 1
  | (_, d) => uptoBulk d + 1
 end
def uptoSmall : (H : Type) → List (DataW H) → Bool := fun _ ds => decide (uptoBulkAll ds ≤ 1048576)
def OpenSpec.upto (s : _root_.Go.ChangeSpec) : _root_.Go.OpenSpec := { _root_.Go.OpenSpec.ofChange s with cond := some uptoSmall }

/-- 'countermandlaw42.RebaseTells', WHERE WHAT IT READS IS OF BULK AT MOST 1048576: true; the input reads as it did. -/
def rebaseTellsUptoRow : OpenClaim := { program := "ytfbooejaabdkoaa", sum := "9b8e1fb3764356f5fa9375960c83f5deeb910290b0bdf6062563cdcfd9a56cb8", func := "countermand/countermandlaw42.RebaseTells", spec := "rebaseTells", unfollowed := true, recurses := true, apart := false, narrowed := true }
def RebaseTellsUptoSaid : Prop := rebaseTellsUptoRow.holds Try.pinned (OpenSpec.upto rebaseTellsSpec)

/-- 'countermandlaw42.RebaseApplies', WHERE WHAT IT READS IS OF BULK AT MOST 1048576: true; the input reads as it did. -/
def rebaseAppliesUptoRow : OpenClaim := { program := "ytfbooejaabdkoaa", sum := "9b8e1fb3764356f5fa9375960c83f5deeb910290b0bdf6062563cdcfd9a56cb8", func := "countermand/countermandlaw42.RebaseApplies", spec := "rebaseApplies", unfollowed := true, recurses := true, apart := false, narrowed := true }
def RebaseAppliesUptoSaid : Prop := rebaseAppliesUptoRow.holds Try.pinned (OpenSpec.upto rebaseAppliesSpec)

/-- 'countermandlaw42.RebaseSwaps', WHERE WHAT IT READS IS OF BULK AT MOST 1048576: true; the input reads as it did. -/
def rebaseSwapsUptoRow : OpenClaim := { program := "ytfbooejaabdkoaa", sum := "9b8e1fb3764356f5fa9375960c83f5deeb910290b0bdf6062563cdcfd9a56cb8", func := "countermand/countermandlaw42.RebaseSwaps", spec := "rebaseSwaps", unfollowed := true, recurses := true, apart := false, narrowed := true }
def RebaseSwapsUptoSaid : Prop := rebaseSwapsUptoRow.holds Try.pinned (OpenSpec.upto rebaseSwapsSpec)

/-- 'countermandlaw41.CutPuts', WHERE WHAT IT READS IS OF BULK AT MOST 1048576: true; the input reads as it did. -/
def cutPutsUptoRow : OpenClaim := { program := "ytfbooejaabdkoaa", sum := "9b8e1fb3764356f5fa9375960c83f5deeb910290b0bdf6062563cdcfd9a56cb8", func := "countermand/countermandlaw41.CutPuts", spec := "cutPuts", unfollowed := true, recurses := true, apart := false, narrowed := true }
def CutPutsUptoSaid : Prop := cutPutsUptoRow.holds Try.pinned (OpenSpec.upto cutPutsSpec)

/-- 'countermandlaw41.CutRuns', WHERE WHAT IT READS IS OF BULK AT MOST 1048576: true; the input reads as it did. -/
def cutRunsUptoRow : OpenClaim := { program := "ytfbooejaabdkoaa", sum := "9b8e1fb3764356f5fa9375960c83f5deeb910290b0bdf6062563cdcfd9a56cb8", func := "countermand/countermandlaw41.CutRuns", spec := "cutRuns", unfollowed := true, recurses := true, apart := false, narrowed := true }
def CutRunsUptoSaid : Prop := cutRunsUptoRow.holds Try.pinned (OpenSpec.upto cutRunsSpec)

/-- 'countermandlaw41.CutKnows', WHERE WHAT IT READS IS OF BULK AT MOST 1048576: true; the input reads as it did. -/
def cutKnowsUptoRow : OpenClaim := { program := "ytfbooejaabdkoaa", sum := "9b8e1fb3764356f5fa9375960c83f5deeb910290b0bdf6062563cdcfd9a56cb8", func := "countermand/countermandlaw41.CutKnows", spec := "cutKnows", unfollowed := true, recurses := true, apart := false, narrowed := true }
def CutKnowsUptoSaid : Prop := cutKnowsUptoRow.holds Try.pinned (OpenSpec.upto cutKnowsSpec)

end Rows
end Go.Proofs.Ytfbooejaabdkoaa
