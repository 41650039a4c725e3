/-
  No cell of these rows narrows 'for every input' (looked for: loops, veiled, ifaces, maps, wideKeys, modest, calm, conditions, laid).
  DERIVED. THE GIVEN ROWS OF THIS SEAT. 10 by the template 'for every input the law returns true; each argument reads behind the call as it read before'; 0 by the template 'total and deterministic' (their statements: YtiifcalgolkpiaaTotals.lean).
  GIVEN WITH THE SEED: the statements are not yours to turn. If you find one false, say at which input.
  Laid BY PROGRAM, IN A SANDBOX (cutbox-rows.mjs): the forced cells as the released guide's own fill.sh prints them over the translation 70e795616d8c14f1… (all of the seat's roots in one cut). By AI agents, Wed Nov 11 2026. No macro, syntax, notation, axiom, sorry.
-/
import Derived.Test.YtiifcalgolkpiaaChecked
import GoSem.Claim
import GoSem.ClaimJoined
import GoSem.ClaimMapViews
import Derived.JoinedTies
import Derived.KernelRfl
namespace Go.Proofs.Ytiifcalgolkpiaa
/- THE CELL 'sum', in the pinned program and in every row, IS THE sha256 OF THE DUMP (.gsa) THAT YtiifcalgolkpiaaProg.lean LOADS. Nothing in Lean hashes anything: it is a label: what it is worth is what the hold of that sum in a sandbox is worth. -/
noncomputable def Try.pinned : Pinned := { name := "ytiifcalgolkpiaa", sum := "70e795616d8c14f1a3866e609e525a4122dfc332c95447921f04b946818307e2", checked := Try.checked }
namespace Rows
def none {H : Type} : Left H := { results := [], args := [] }

/-- 'countermandlaw16.BookingBounds': WHATEVER THE INPUT: true; the input reads as it did. -/
def bookingBoundsSpec : ChangeSpec := { name := "bookingBounds", fn := fun _ => fun
  | [d1, d2] => { results := [.lit (.bool true)], args := [d1, d2] }
  | _ => none }
def bookingBoundsRow : OpenClaim := { program := "ytiifcalgolkpiaa", sum := "70e795616d8c14f1a3866e609e525a4122dfc332c95447921f04b946818307e2", func := "countermand/countermandlaw16.BookingBounds", spec := "bookingBounds", unfollowed := true, recurses := true, apart := false }
def BookingBoundsSaid : Prop := bookingBoundsRow.holds Try.pinned (OpenSpec.ofChange bookingBoundsSpec)

/-- ITS FALSE NEIGHBOUR: 'it returns false'. Refute it at one input. -/
def bookingBoundsWrong : ChangeSpec := { name := "bookingBounds", fn := fun _ => fun
  | [d1, d2] => { results := [.lit (.bool false)], args := [d1, d2] }
  | _ => none }
def BookingBoundsWrongFalsely : Prop := bookingBoundsRow.holds Try.pinned (OpenSpec.ofChange bookingBoundsWrong)

/-- 'countermandlaw16.BookingKeeps': WHATEVER THE INPUT: true; the input reads as it did. -/
def bookingKeepsSpec : ChangeSpec := { name := "bookingKeeps", fn := fun _ => fun
  | [d1, d2] => { results := [.lit (.bool true)], args := [d1, d2] }
  | _ => none }
def bookingKeepsRow : OpenClaim := { program := "ytiifcalgolkpiaa", sum := "70e795616d8c14f1a3866e609e525a4122dfc332c95447921f04b946818307e2", func := "countermand/countermandlaw16.BookingKeeps", spec := "bookingKeeps", unfollowed := true, recurses := true, apart := false }
def BookingKeepsSaid : Prop := bookingKeepsRow.holds Try.pinned (OpenSpec.ofChange bookingKeepsSpec)

/-- ITS FALSE NEIGHBOUR: 'it returns false'. Refute it at one input. -/
def bookingKeepsWrong : ChangeSpec := { name := "bookingKeeps", fn := fun _ => fun
  | [d1, d2] => { results := [.lit (.bool false)], args := [d1, d2] }
  | _ => none }
def BookingKeepsWrongFalsely : Prop := bookingKeepsRow.holds Try.pinned (OpenSpec.ofChange bookingKeepsWrong)

/-- 'countermandlaw16.BookingNames': WHATEVER THE INPUT: true; the input reads as it did. -/
def bookingNamesSpec : ChangeSpec := { name := "bookingNames", fn := fun _ => fun
  | [d1, d2] => { results := [.lit (.bool true)], args := [d1, d2] }
  | _ => none }
def bookingNamesRow : OpenClaim := { program := "ytiifcalgolkpiaa", sum := "70e795616d8c14f1a3866e609e525a4122dfc332c95447921f04b946818307e2", func := "countermand/countermandlaw16.BookingNames", spec := "bookingNames", unfollowed := true, recurses := true, apart := false }
def BookingNamesSaid : Prop := bookingNamesRow.holds Try.pinned (OpenSpec.ofChange bookingNamesSpec)

/-- ITS FALSE NEIGHBOUR: 'it returns false'. Refute it at one input. -/
def bookingNamesWrong : ChangeSpec := { name := "bookingNames", fn := fun _ => fun
  | [d1, d2] => { results := [.lit (.bool false)], args := [d1, d2] }
  | _ => none }
def BookingNamesWrongFalsely : Prop := bookingNamesRow.holds Try.pinned (OpenSpec.ofChange bookingNamesWrong)

/-- 'countermandlaw16.BookingDoes': WHATEVER THE INPUT: true; the input reads as it did. -/
def bookingDoesSpec : ChangeSpec := { name := "bookingDoes", fn := fun _ => fun
  | [d1, d2] => { results := [.lit (.bool true)], args := [d1, d2] }
  | _ => none }
def bookingDoesRow : OpenClaim := { program := "ytiifcalgolkpiaa", sum := "70e795616d8c14f1a3866e609e525a4122dfc332c95447921f04b946818307e2", func := "countermand/countermandlaw16.BookingDoes", spec := "bookingDoes", unfollowed := true, recurses := true, apart := false }
def BookingDoesSaid : Prop := bookingDoesRow.holds Try.pinned (OpenSpec.ofChange bookingDoesSpec)

/-- ITS FALSE NEIGHBOUR: 'it returns false'. Refute it at one input. -/
def bookingDoesWrong : ChangeSpec := { name := "bookingDoes", fn := fun _ => fun
  | [d1, d2] => { results := [.lit (.bool false)], args := [d1, d2] }
  | _ => none }
def BookingDoesWrongFalsely : Prop := bookingDoesRow.holds Try.pinned (OpenSpec.ofChange bookingDoesWrong)

/-- 'countermandlaw17.FoldJoins': WHATEVER THE INPUT: true; the input reads as it did. -/
def foldJoinsSpec : ChangeSpec := { name := "foldJoins", fn := fun _ => fun
  | [d1, d2, d3] => { results := [.lit (.bool true)], args := [d1, d2, d3] }
  | _ => none }
def foldJoinsRow : OpenClaim := { program := "ytiifcalgolkpiaa", sum := "70e795616d8c14f1a3866e609e525a4122dfc332c95447921f04b946818307e2", func := "countermand/countermandlaw17.FoldJoins", spec := "foldJoins", unfollowed := true, recurses := true, apart := false }
def FoldJoinsSaid : Prop := foldJoinsRow.holds Try.pinned (OpenSpec.ofChange foldJoinsSpec)

/-- ITS FALSE NEIGHBOUR: 'it returns false'. Refute it at one input. -/
def foldJoinsWrong : ChangeSpec := { name := "foldJoins", fn := fun _ => fun
  | [d1, d2, d3] => { results := [.lit (.bool false)], args := [d1, d2, d3] }
  | _ => none }
def FoldJoinsWrongFalsely : Prop := foldJoinsRow.holds Try.pinned (OpenSpec.ofChange foldJoinsWrong)

/-- 'countermandlaw17.FoldWants': WHATEVER THE INPUT: true; the input reads as it did. -/
def foldWantsSpec : ChangeSpec := { name := "foldWants", fn := fun _ => fun
  | [d1, d2, d3, d4] => { results := [.lit (.bool true)], args := [d1, d2, d3, d4] }
  | _ => none }
def foldWantsRow : OpenClaim := { program := "ytiifcalgolkpiaa", sum := "70e795616d8c14f1a3866e609e525a4122dfc332c95447921f04b946818307e2", func := "countermand/countermandlaw17.FoldWants", spec := "foldWants", unfollowed := true, recurses := true, apart := false }
def FoldWantsSaid : Prop := foldWantsRow.holds Try.pinned (OpenSpec.ofChange foldWantsSpec)

/-- ITS FALSE NEIGHBOUR: 'it returns false'. Refute it at one input. -/
def foldWantsWrong : ChangeSpec := { name := "foldWants", fn := fun _ => fun
  | [d1, d2, d3, d4] => { results := [.lit (.bool false)], args := [d1, d2, d3, d4] }
  | _ => none }
def FoldWantsWrongFalsely : Prop := foldWantsRow.holds Try.pinned (OpenSpec.ofChange foldWantsWrong)

/-- 'countermandlaw17.FoldRuns': WHATEVER THE INPUT: true; the input reads as it did. -/
def foldRunsSpec : ChangeSpec := { name := "foldRuns", fn := fun _ => fun
  | [d1, d2] => { results := [.lit (.bool true)], args := [d1, d2] }
  | _ => none }
def foldRunsRow : OpenClaim := { program := "ytiifcalgolkpiaa", sum := "70e795616d8c14f1a3866e609e525a4122dfc332c95447921f04b946818307e2", func := "countermand/countermandlaw17.FoldRuns", spec := "foldRuns", unfollowed := true, recurses := true, apart := false }
def FoldRunsSaid : Prop := foldRunsRow.holds Try.pinned (OpenSpec.ofChange foldRunsSpec)

/-- ITS FALSE NEIGHBOUR: 'it returns false'. Refute it at one input. -/
def foldRunsWrong : ChangeSpec := { name := "foldRuns", fn := fun _ => fun
  | [d1, d2] => { results := [.lit (.bool false)], args := [d1, d2] }
  | _ => none }
def FoldRunsWrongFalsely : Prop := foldRunsRow.holds Try.pinned (OpenSpec.ofChange foldRunsWrong)

/-- 'countermandlaw43.ClashSwaps': WHATEVER THE INPUT: true; the input reads as it did. -/
def clashSwapsSpec : ChangeSpec := { name := "clashSwaps", fn := fun _ => fun
  | [d1, d2, d3] => { results := [.lit (.bool true)], args := [d1, d2, d3] }
  | _ => none }
def clashSwapsRow : OpenClaim := { program := "ytiifcalgolkpiaa", sum := "70e795616d8c14f1a3866e609e525a4122dfc332c95447921f04b946818307e2", func := "countermand/countermandlaw43.ClashSwaps", spec := "clashSwaps", unfollowed := true, recurses := true, apart := false }
def ClashSwapsSaid : Prop := clashSwapsRow.holds Try.pinned (OpenSpec.ofChange clashSwapsSpec)

/-- ITS FALSE NEIGHBOUR: 'it returns false'. Refute it at one input. -/
def clashSwapsWrong : ChangeSpec := { name := "clashSwaps", fn := fun _ => fun
  | [d1, d2, d3] => { results := [.lit (.bool false)], args := [d1, d2, d3] }
  | _ => none }
def ClashSwapsWrongFalsely : Prop := clashSwapsRow.holds Try.pinned (OpenSpec.ofChange clashSwapsWrong)

/-- 'countermandlaw43.ClashSinks': WHATEVER THE INPUT: true; the input reads as it did. -/
def clashSinksSpec : ChangeSpec := { name := "clashSinks", fn := fun _ => fun
  | [d1, d2] => { results := [.lit (.bool true)], args := [d1, d2] }
  | _ => none }
def clashSinksRow : OpenClaim := { program := "ytiifcalgolkpiaa", sum := "70e795616d8c14f1a3866e609e525a4122dfc332c95447921f04b946818307e2", func := "countermand/countermandlaw43.ClashSinks", spec := "clashSinks", unfollowed := true, recurses := true, apart := false }
def ClashSinksSaid : Prop := clashSinksRow.holds Try.pinned (OpenSpec.ofChange clashSinksSpec)

/-- ITS FALSE NEIGHBOUR: 'it returns false'. Refute it at one input. -/
def clashSinksWrong : ChangeSpec := { name := "clashSinks", fn := fun _ => fun
  | [d1, d2] => { results := [.lit (.bool false)], args := [d1, d2] }
  | _ => none }
def ClashSinksWrongFalsely : Prop := clashSinksRow.holds Try.pinned (OpenSpec.ofChange clashSinksWrong)

/-- 'countermandlaw43.ClashTells': WHATEVER THE INPUT: true; the input reads as it did. -/
def clashTellsSpec : ChangeSpec := { name := "clashTells", fn := fun _ => fun
  | [d1, d2, d3, d4] => { results := [.lit (.bool true)], args := [d1, d2, d3, d4] }
  | _ => none }
def clashTellsRow : OpenClaim := { program := "ytiifcalgolkpiaa", sum := "70e795616d8c14f1a3866e609e525a4122dfc332c95447921f04b946818307e2", func := "countermand/countermandlaw43.ClashTells", spec := "clashTells", unfollowed := true, recurses := true, apart := false }
def ClashTellsSaid : Prop := clashTellsRow.holds Try.pinned (OpenSpec.ofChange clashTellsSpec)

/-- ITS FALSE NEIGHBOUR: 'it returns false'. Refute it at one input. -/
def clashTellsWrong : ChangeSpec := { name := "clashTells", fn := fun _ => fun
  | [d1, d2, d3, d4] => { results := [.lit (.bool false)], args := [d1, d2, d3, d4] }
  | _ => none }
def ClashTellsWrongFalsely : Prop := clashTellsRow.holds Try.pinned (OpenSpec.ofChange clashTellsWrong)

/- THE SECOND FORM. 'bulk': how many values and letters a reading holds, each counted each time it is reached (what is shared counts as often as it is met; a slice's spare places count too). A statement '..UptoSaid' is the law's where the arguments, and the package variables that the reading takes, are together of bulk at most 1048576: NARROWER than '..Said'. Prove '..Said' where nothing that the law and all that it calls make is longer than what came in: it says more and counts as full. Else prove '..UptoSaid'. A law counts once. -/
mutual
def uptoBulk {H : Type} : DataW H → Nat
  | .lit (.string bytes) => bytes.length + 1
  | .lit _ => 1
  | .nil => 1
  | .ptr d => uptoBulk d + 1
  | .slice elems spare => uptoBulkAll elems + uptoBulkAll spare + 1
  | .agg parts => uptoBulkAll parts + 1
  | .iface _ d => uptoBulk d + 1
  | .map entries => uptoBulkEntries entries + 1
  | .held _ => 1
def uptoBulkAll {H : Type} : List (DataW H) → Nat
  | [] => 0
  | d :: r => uptoBulk d + uptoBulkAll r
def uptoBulkEntries {H : Type} : List (Lit × DataW H) → Nat
  | [] => 0
  | x :: r => uptoBulkEntry x + uptoBulkEntries r
def uptoBulkEntry {H : Type} : Lit × DataW H → Nat
  | (.string bytes, d) => bytes.length + uptoBulk d + 1
  | (_, d) => uptoBulk d + 1
 end
def uptoSmall : (H : Type) → List (DataW H) → Bool := fun _ ds => decide (uptoBulkAll ds ≤ 1048576)
def OpenSpec.upto (s : _root_.Go.ChangeSpec) : _root_.Go.OpenSpec := { _root_.Go.OpenSpec.ofChange s with cond := some uptoSmall }

/-- 'countermandlaw16.BookingBounds', WHERE WHAT IT READS IS OF BULK AT MOST 1048576: true; the input reads as it did. -/
def bookingBoundsUptoRow : OpenClaim := { program := "ytiifcalgolkpiaa", sum := "70e795616d8c14f1a3866e609e525a4122dfc332c95447921f04b946818307e2", func := "countermand/countermandlaw16.BookingBounds", spec := "bookingBounds", unfollowed := true, recurses := true, apart := false, narrowed := true }
def BookingBoundsUptoSaid : Prop := bookingBoundsUptoRow.holds Try.pinned (OpenSpec.upto bookingBoundsSpec)

/-- 'countermandlaw16.BookingKeeps', WHERE WHAT IT READS IS OF BULK AT MOST 1048576: true; the input reads as it did. -/
def bookingKeepsUptoRow : OpenClaim := { program := "ytiifcalgolkpiaa", sum := "70e795616d8c14f1a3866e609e525a4122dfc332c95447921f04b946818307e2", func := "countermand/countermandlaw16.BookingKeeps", spec := "bookingKeeps", unfollowed := true, recurses := true, apart := false, narrowed := true }
def BookingKeepsUptoSaid : Prop := bookingKeepsUptoRow.holds Try.pinned (OpenSpec.upto bookingKeepsSpec)

/-- 'countermandlaw16.BookingNames', WHERE WHAT IT READS IS OF BULK AT MOST 1048576: true; the input reads as it did. -/
def bookingNamesUptoRow : OpenClaim := { program := "ytiifcalgolkpiaa", sum := "70e795616d8c14f1a3866e609e525a4122dfc332c95447921f04b946818307e2", func := "countermand/countermandlaw16.BookingNames", spec := "bookingNames", unfollowed := true, recurses := true, apart := false, narrowed := true }
def BookingNamesUptoSaid : Prop := bookingNamesUptoRow.holds Try.pinned (OpenSpec.upto bookingNamesSpec)

/-- 'countermandlaw16.BookingDoes', WHERE WHAT IT READS IS OF BULK AT MOST 1048576: true; the input reads as it did. -/
def bookingDoesUptoRow : OpenClaim := { program := "ytiifcalgolkpiaa", sum := "70e795616d8c14f1a3866e609e525a4122dfc332c95447921f04b946818307e2", func := "countermand/countermandlaw16.BookingDoes", spec := "bookingDoes", unfollowed := true, recurses := true, apart := false, narrowed := true }
def BookingDoesUptoSaid : Prop := bookingDoesUptoRow.holds Try.pinned (OpenSpec.upto bookingDoesSpec)

/-- 'countermandlaw17.FoldJoins', WHERE WHAT IT READS IS OF BULK AT MOST 1048576: true; the input reads as it did. -/
def foldJoinsUptoRow : OpenClaim := { program := "ytiifcalgolkpiaa", sum := "70e795616d8c14f1a3866e609e525a4122dfc332c95447921f04b946818307e2", func := "countermand/countermandlaw17.FoldJoins", spec := "foldJoins", unfollowed := true, recurses := true, apart := false, narrowed := true }
def FoldJoinsUptoSaid : Prop := foldJoinsUptoRow.holds Try.pinned (OpenSpec.upto foldJoinsSpec)

/-- 'countermandlaw17.FoldWants', WHERE WHAT IT READS IS OF BULK AT MOST 1048576: true; the input reads as it did. -/
def foldWantsUptoRow : OpenClaim := { program := "ytiifcalgolkpiaa", sum := "70e795616d8c14f1a3866e609e525a4122dfc332c95447921f04b946818307e2", func := "countermand/countermandlaw17.FoldWants", spec := "foldWants", unfollowed := true, recurses := true, apart := false, narrowed := true }
def FoldWantsUptoSaid : Prop := foldWantsUptoRow.holds Try.pinned (OpenSpec.upto foldWantsSpec)

/-- 'countermandlaw17.FoldRuns', WHERE WHAT IT READS IS OF BULK AT MOST 1048576: true; the input reads as it did. -/
def foldRunsUptoRow : OpenClaim := { program := "ytiifcalgolkpiaa", sum := "70e795616d8c14f1a3866e609e525a4122dfc332c95447921f04b946818307e2", func := "countermand/countermandlaw17.FoldRuns", spec := "foldRuns", unfollowed := true, recurses := true, apart := false, narrowed := true }
def FoldRunsUptoSaid : Prop := foldRunsUptoRow.holds Try.pinned (OpenSpec.upto foldRunsSpec)

/-- 'countermandlaw43.ClashSwaps', WHERE WHAT IT READS IS OF BULK AT MOST 1048576: true; the input reads as it did. -/
def clashSwapsUptoRow : OpenClaim := { program := "ytiifcalgolkpiaa", sum := "70e795616d8c14f1a3866e609e525a4122dfc332c95447921f04b946818307e2", func := "countermand/countermandlaw43.ClashSwaps", spec := "clashSwaps", unfollowed := true, recurses := true, apart := false, narrowed := true }
def ClashSwapsUptoSaid : Prop := clashSwapsUptoRow.holds Try.pinned (OpenSpec.upto clashSwapsSpec)

/-- 'countermandlaw43.ClashSinks', WHERE WHAT IT READS IS OF BULK AT MOST 1048576: true; the input reads as it did. -/
def clashSinksUptoRow : OpenClaim := { program := "ytiifcalgolkpiaa", sum := "70e795616d8c14f1a3866e609e525a4122dfc332c95447921f04b946818307e2", func := "countermand/countermandlaw43.ClashSinks", spec := "clashSinks", unfollowed := true, recurses := true, apart := false, narrowed := true }
def ClashSinksUptoSaid : Prop := clashSinksUptoRow.holds Try.pinned (OpenSpec.upto clashSinksSpec)

/-- 'countermandlaw43.ClashTells', WHERE WHAT IT READS IS OF BULK AT MOST 1048576: true; the input reads as it did. -/
def clashTellsUptoRow : OpenClaim := { program := "ytiifcalgolkpiaa", sum := "70e795616d8c14f1a3866e609e525a4122dfc332c95447921f04b946818307e2", func := "countermand/countermandlaw43.ClashTells", spec := "clashTells", unfollowed := true, recurses := true, apart := false, narrowed := true }
def ClashTellsUptoSaid : Prop := clashTellsUptoRow.holds Try.pinned (OpenSpec.upto clashTellsSpec)

end Rows
end Go.Proofs.Ytiifcalgolkpiaa
