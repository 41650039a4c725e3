/-
  No cell of these rows narrows 'for every input' (looked for: loops, veiled, ifaces, maps, wideKeys, modest, calm, conditions, laid).
  DERIVED. THE GIVEN ROWS OF THIS SEAT. 4 by the template 'for every input the law returns true; each argument reads behind the call as it read before'; 0 by the template 'total and deterministic' (their statements: YtjoaigccapegpaaTotals.lean).
  GIVEN WITH THE SEED: the statements are not yours to turn. If you find one false, say at which input.
  Laid BY PROGRAM, IN A SANDBOX (cutbox-rows.mjs): the forced cells as the released guide's own fill.sh prints them over the translation 9c924bb388cc5f16… (all of the seat's roots in one cut). By AI agents, Wed Nov 11 2026. No macro, syntax, notation, axiom, sorry.
-/
import Derived.Test.YtjoaigccapegpaaChecked
import GoSem.Claim
import GoSem.ClaimJoined
import GoSem.ClaimMapViews
import Derived.JoinedTies
import Derived.KernelRfl
namespace Go.Proofs.Ytjoaigccapegpaa
/- THE CELL 'sum', in the pinned program and in every row, IS THE sha256 OF THE DUMP (.gsa) THAT YtjoaigccapegpaaProg.lean LOADS. Nothing in Lean hashes anything: it is a label: what it is worth is what the hold of that sum in a sandbox is worth. -/
noncomputable def Try.pinned : Pinned := { name := "ytjoaigccapegpaa", sum := "9c924bb388cc5f165458e158e09aabb34c4edce8a3f2b8669e2ed2e409df1b06", checked := Try.checked }
namespace Rows
def none {H : Type} : Left H := { results := [], args := [] }

/-- 'countermandlaw19.LogsSplit': WHATEVER THE INPUT: true; the input reads as it did. -/
def logsSplitSpec : ChangeSpec := { name := "logsSplit", fn := fun _ => fun
  | [d] => { results := [.lit (.bool true)], args := [d] }
  | _ => none }
def logsSplitRow : OpenClaim := { program := "ytjoaigccapegpaa", sum := "9c924bb388cc5f165458e158e09aabb34c4edce8a3f2b8669e2ed2e409df1b06", func := "countermand/countermandlaw19.LogsSplit", spec := "logsSplit", unfollowed := true, recurses := true, plainKeys := false, apart := false }
def LogsSplitSaid : Prop := logsSplitRow.holds Try.pinned (OpenSpec.ofChange logsSplitSpec)

/-- ITS FALSE NEIGHBOUR: 'it returns false'. Refute it at one input. -/
def logsSplitWrong : ChangeSpec := { name := "logsSplit", fn := fun _ => fun
  | [d] => { results := [.lit (.bool false)], args := [d] }
  | _ => none }
def LogsSplitWrongFalsely : Prop := logsSplitRow.holds Try.pinned (OpenSpec.ofChange logsSplitWrong)

/-- 'countermandlaw34.ModelExpects': WHATEVER THE INPUT: true; the input reads as it did. -/
def modelExpectsSpec : ChangeSpec := { name := "modelExpects", fn := fun _ => fun
  | [d1, d2] => { results := [.lit (.bool true)], args := [d1, d2] }
  | _ => none }
def modelExpectsRow : OpenClaim := { program := "ytjoaigccapegpaa", sum := "9c924bb388cc5f165458e158e09aabb34c4edce8a3f2b8669e2ed2e409df1b06", func := "countermand/countermandlaw34.ModelExpects", spec := "modelExpects", unfollowed := true, recurses := true, plainKeys := false, apart := false }
def ModelExpectsSaid : Prop := modelExpectsRow.holds Try.pinned (OpenSpec.ofChange modelExpectsSpec)

/-- ITS FALSE NEIGHBOUR: 'it returns false'. Refute it at one input. -/
def modelExpectsWrong : ChangeSpec := { name := "modelExpects", fn := fun _ => fun
  | [d1, d2] => { results := [.lit (.bool false)], args := [d1, d2] }
  | _ => none }
def ModelExpectsWrongFalsely : Prop := modelExpectsRow.holds Try.pinned (OpenSpec.ofChange modelExpectsWrong)

/-- 'countermandlaw34.ModelMatches': WHATEVER THE INPUT: true; the input reads as it did. -/
def modelMatchesSpec : ChangeSpec := { name := "modelMatches", fn := fun _ => fun
  | [d1, d2] => { results := [.lit (.bool true)], args := [d1, d2] }
  | _ => none }
def modelMatchesRow : OpenClaim := { program := "ytjoaigccapegpaa", sum := "9c924bb388cc5f165458e158e09aabb34c4edce8a3f2b8669e2ed2e409df1b06", func := "countermand/countermandlaw34.ModelMatches", spec := "modelMatches", unfollowed := true, recurses := true, plainKeys := false, apart := false }
def ModelMatchesSaid : Prop := modelMatchesRow.holds Try.pinned (OpenSpec.ofChange modelMatchesSpec)

/-- ITS FALSE NEIGHBOUR: 'it returns false'. Refute it at one input. -/
def modelMatchesWrong : ChangeSpec := { name := "modelMatches", fn := fun _ => fun
  | [d1, d2] => { results := [.lit (.bool false)], args := [d1, d2] }
  | _ => none }
def ModelMatchesWrongFalsely : Prop := modelMatchesRow.holds Try.pinned (OpenSpec.ofChange modelMatchesWrong)

/-- 'countermandlaw34.ModelNets': WHATEVER THE INPUT: true; the input reads as it did. -/
def modelNetsSpec : ChangeSpec := { name := "modelNets", fn := fun _ => fun
  | [d1, d2, d3] => { results := [.lit (.bool true)], args := [d1, d2, d3] }
  | _ => none }
def modelNetsRow : OpenClaim := { program := "ytjoaigccapegpaa", sum := "9c924bb388cc5f165458e158e09aabb34c4edce8a3f2b8669e2ed2e409df1b06", func := "countermand/countermandlaw34.ModelNets", spec := "modelNets", unfollowed := true, recurses := true, plainKeys := false, apart := false }
def ModelNetsSaid : Prop := modelNetsRow.holds Try.pinned (OpenSpec.ofChange modelNetsSpec)

/-- ITS FALSE NEIGHBOUR: 'it returns false'. Refute it at one input. -/
def modelNetsWrong : ChangeSpec := { name := "modelNets", fn := fun _ => fun
  | [d1, d2, d3] => { results := [.lit (.bool false)], args := [d1, d2, d3] }
  | _ => none }
def ModelNetsWrongFalsely : Prop := modelNetsRow.holds Try.pinned (OpenSpec.ofChange modelNetsWrong)

/- THE SECOND FORM. 'bulk': how many values and letters a reading holds, each counted each time it is reached (what is shared counts as often as it is met; a slice's spare places count too). A statement '..UptoSaid' is the law's where the arguments, and the package variables that the reading takes, are together of bulk at most 1048576: NARROWER than '..Said'. Prove '..Said' where nothing that the law and all that it calls make is longer than what came in: it says more and counts as full. Else prove '..UptoSaid'. A law counts once. -/
mutual
def uptoBulk {H : Type} : DataW H → Nat
  | .lit (.string bytes) => bytes.length + 1
  | .lit _ => 1
  | .nil => 1
  | .ptr d => uptoBulk d + 1
  | .slice elems spare => uptoBulkAll elems + uptoBulkAll spare + 1
  | .agg parts => uptoBulkAll parts + 1
  | .iface _ d => uptoBulk d + 1
  | .map entries => uptoBulkEntries entries + 1
  | .held _ => 1
def uptoBulkAll {H : Type} : List (DataW H) → Nat
  | [] => 0
  | d :: r => uptoBulk d + uptoBulkAll r
def uptoBulkEntries {H : Type} : List (Lit × DataW H) → Nat
  | [] => 0
  | x :: r => uptoBulkEntry x + uptoBulkEntries r
def uptoBulkEntry {H : Type} : Lit × DataW H → Nat
  | (.string bytes, d) => bytes.length + uptoBulk d + 1
  | (_, d) => uptoBulk d + 1
 end
def uptoSmall : (H : Type) → List (DataW H) → Bool := fun _ ds => decide (uptoBulkAll ds ≤ 1048576)
def OpenSpec.upto (s : _root_.Go.ChangeSpec) : _root_.Go.OpenSpec := { _root_.Go.OpenSpec.ofChange s with cond := some uptoSmall }

/-- 'countermandlaw19.LogsSplit', WHERE WHAT IT READS IS OF BULK AT MOST 1048576: true; the input reads as it did. -/
def logsSplitUptoRow : OpenClaim := { program := "ytjoaigccapegpaa", sum := "9c924bb388cc5f165458e158e09aabb34c4edce8a3f2b8669e2ed2e409df1b06", func := "countermand/countermandlaw19.LogsSplit", spec := "logsSplit", unfollowed := true, recurses := true, plainKeys := false, apart := false, narrowed := true }
def LogsSplitUptoSaid : Prop := logsSplitUptoRow.holds Try.pinned (OpenSpec.upto logsSplitSpec)

/-- 'countermandlaw34.ModelExpects', WHERE WHAT IT READS IS OF BULK AT MOST 1048576: true; the input reads as it did. -/
def modelExpectsUptoRow : OpenClaim := { program := "ytjoaigccapegpaa", sum := "9c924bb388cc5f165458e158e09aabb34c4edce8a3f2b8669e2ed2e409df1b06", func := "countermand/countermandlaw34.ModelExpects", spec := "modelExpects", unfollowed := true, recurses := true, plainKeys := false, apart := false, narrowed := true }
def ModelExpectsUptoSaid : Prop := modelExpectsUptoRow.holds Try.pinned (OpenSpec.upto modelExpectsSpec)

/-- 'countermandlaw34.ModelMatches', WHERE WHAT IT READS IS OF BULK AT MOST 1048576: true; the input reads as it did. -/
def modelMatchesUptoRow : OpenClaim := { program := "ytjoaigccapegpaa", sum := "9c924bb388cc5f165458e158e09aabb34c4edce8a3f2b8669e2ed2e409df1b06", func := "countermand/countermandlaw34.ModelMatches", spec := "modelMatches", unfollowed := true, recurses := true, plainKeys := false, apart := false, narrowed := true }
def ModelMatchesUptoSaid : Prop := modelMatchesUptoRow.holds Try.pinned (OpenSpec.upto modelMatchesSpec)

/-- 'countermandlaw34.ModelNets', WHERE WHAT IT READS IS OF BULK AT MOST 1048576: true; the input reads as it did. -/
def modelNetsUptoRow : OpenClaim := { program := "ytjoaigccapegpaa", sum := "9c924bb388cc5f165458e158e09aabb34c4edce8a3f2b8669e2ed2e409df1b06", func := "countermand/countermandlaw34.ModelNets", spec := "modelNets", unfollowed := true, recurses := true, plainKeys := false, apart := false, narrowed := true }
def ModelNetsUptoSaid : Prop := modelNetsUptoRow.holds Try.pinned (OpenSpec.upto modelNetsSpec)

end Rows
end Go.Proofs.Ytjoaigccapegpaa
