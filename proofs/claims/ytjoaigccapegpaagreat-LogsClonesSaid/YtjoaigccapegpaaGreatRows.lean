/-
  No cell of these rows narrows 'for every input' (looked for: loops, veiled, ifaces, maps, wideKeys, modest, calm, conditions, laid).
  DERIVED. THE GIVEN ROWS OF THIS SEAT. 3 by the template 'for every input the law returns true; each argument reads behind the call as it read before'; 0 by the template 'total and deterministic' (their statements: YtjoaigccapegpaaGreatTotals.lean).
  GIVEN WITH THE SEED: the statements are not yours to turn. If you find one false, say at which input.
  Laid BY PROGRAM, IN A SANDBOX (cutbox-rows.mjs): the forced cells as the released guide's own fill.sh prints them over the translation 17ec7d22d6b0d54a… (all of the seat's roots in one cut). By AI agents, Wed Nov 11 2026. No macro, syntax, notation, axiom, sorry.
-/
import Derived.Test.YtjoaigccapegpaaGreatChecked
import GoSem.Claim
import GoSem.ClaimJoined
import GoSem.ClaimMapViews
import Derived.JoinedTies
import Derived.KernelRfl
namespace Go.Proofs.YtjoaigccapegpaaGreat
/- THE CELL 'sum', in the pinned program and in every row, IS THE sha256 OF THE DUMP (.gsa) THAT YtjoaigccapegpaaGreatProg.lean LOADS. Nothing in Lean hashes anything: it is a label: what it is worth is what the hold of that sum in a sandbox is worth. -/
noncomputable def Tryz.pinned : Pinned := { name := "ytjoaigccapegpaagreat", sum := "17ec7d22d6b0d54a46ababbc59e379ae5f4cfa197a83077cb0a7bf79f3a15083", checked := Tryz.checked }
namespace Rows
def none {H : Type} : Left H := { results := [], args := [] }

/-- 'countermandlaw19.LogsStay': WHATEVER THE INPUT: true; the input reads as it did. -/
def logsStaySpec : ChangeSpec := { name := "logsStay", fn := fun _ => fun
  | [d1, d2] => { results := [.lit (.bool true)], args := [d1, d2] }
  | _ => none }
def logsStayRow : OpenClaim := { program := "ytjoaigccapegpaagreat", sum := "17ec7d22d6b0d54a46ababbc59e379ae5f4cfa197a83077cb0a7bf79f3a15083", func := "countermand/countermandlaw19.LogsStay", spec := "logsStay", unfollowed := true, recurses := true, apart := false }
def LogsStaySaid : Prop := logsStayRow.holds Tryz.pinned (OpenSpec.ofChange logsStaySpec)

/-- ITS FALSE NEIGHBOUR: 'it returns false'. Refute it at one input. -/
def logsStayWrong : ChangeSpec := { name := "logsStay", fn := fun _ => fun
  | [d1, d2] => { results := [.lit (.bool false)], args := [d1, d2] }
  | _ => none }
def LogsStayWrongFalsely : Prop := logsStayRow.holds Tryz.pinned (OpenSpec.ofChange logsStayWrong)

/-- 'countermandlaw19.LogsRuns': WHATEVER THE INPUT: true; the input reads as it did. -/
def logsRunsSpec : ChangeSpec := { name := "logsRuns", fn := fun _ => fun
  | [d] => { results := [.lit (.bool true)], args := [d] }
  | _ => none }
def logsRunsRow : OpenClaim := { program := "ytjoaigccapegpaagreat", sum := "17ec7d22d6b0d54a46ababbc59e379ae5f4cfa197a83077cb0a7bf79f3a15083", func := "countermand/countermandlaw19.LogsRuns", spec := "logsRuns", unfollowed := true, recurses := true, apart := false }
def LogsRunsSaid : Prop := logsRunsRow.holds Tryz.pinned (OpenSpec.ofChange logsRunsSpec)

/-- ITS FALSE NEIGHBOUR: 'it returns false'. Refute it at one input. -/
def logsRunsWrong : ChangeSpec := { name := "logsRuns", fn := fun _ => fun
  | [d] => { results := [.lit (.bool false)], args := [d] }
  | _ => none }
def LogsRunsWrongFalsely : Prop := logsRunsRow.holds Tryz.pinned (OpenSpec.ofChange logsRunsWrong)

/-- 'countermandlaw19.LogsClones': WHATEVER THE INPUT: true; the input reads as it did. -/
def logsClonesSpec : ChangeSpec := { name := "logsClones", fn := fun _ => fun
  | [d1, d2, d3] => { results := [.lit (.bool true)], args := [d1, d2, d3] }
  | _ => none }
def logsClonesRow : OpenClaim := { program := "ytjoaigccapegpaagreat", sum := "17ec7d22d6b0d54a46ababbc59e379ae5f4cfa197a83077cb0a7bf79f3a15083", func := "countermand/countermandlaw19.LogsClones", spec := "logsClones", unfollowed := true, recurses := true, apart := false }
def LogsClonesSaid : Prop := logsClonesRow.holds Tryz.pinned (OpenSpec.ofChange logsClonesSpec)

/-- ITS FALSE NEIGHBOUR: 'it returns false'. Refute it at one input. -/
def logsClonesWrong : ChangeSpec := { name := "logsClones", fn := fun _ => fun
  | [d1, d2, d3] => { results := [.lit (.bool false)], args := [d1, d2, d3] }
  | _ => none }
def LogsClonesWrongFalsely : Prop := logsClonesRow.holds Tryz.pinned (OpenSpec.ofChange logsClonesWrong)

/- THE SECOND FORM. 'bulk': how many values and letters a reading holds, each counted each time it is reached (what is shared counts as often as it is met; a slice's spare places count too). A statement '..UptoSaid' is the law's where the arguments, and the package variables that the reading takes, are together of bulk at most 1048576: NARROWER than '..Said'. Prove '..Said' where nothing that the law and all that it calls make is longer than what came in: it says more and counts as full. Else prove '..UptoSaid'. A law counts once. -/
mutual
def uptoBulk {H : Type} : DataW H → Nat
  | .lit (.string bytes) => bytes.length + 1
  | .lit _ => 1
  | .nil => 1
  | .ptr d => uptoBulk d + 1
  | .slice elems spare => uptoBulkAll elems + uptoBulkAll spare + 1
  | .agg parts => uptoBulkAll parts + 1
  | .iface _ d => uptoBulk d + 1
  | .map entries => uptoBulkEntries entries + 1
  | .held _ => 1
def uptoBulkAll {H : Type} : List (DataW H) → Nat
  | [] => 0
  | d :: r => uptoBulk d + uptoBulkAll r
def uptoBulkEntries {H : Type} : List (Lit × DataW H) → Nat
  | [] => 0
  | x :: r => uptoBulkEntry x + uptoBulkEntries r
def uptoBulkEntry {H : Type} : Lit × DataW H → Nat
  | (.string bytes, d) => bytes.length + uptoBulk d + 1
  | (_, d) => uptoBulk d + 1
 end
def uptoSmall : (H : Type) → List (DataW H) → Bool := fun _ ds => decide (uptoBulkAll ds ≤ 1048576)
def OpenSpec.upto (s : _root_.Go.ChangeSpec) : _root_.Go.OpenSpec := { _root_.Go.OpenSpec.ofChange s with cond := some uptoSmall }

/-- 'countermandlaw19.LogsStay', WHERE WHAT IT READS IS OF BULK AT MOST 1048576: true; the input reads as it did. -/
def logsStayUptoRow : OpenClaim := { program := "ytjoaigccapegpaagreat", sum := "17ec7d22d6b0d54a46ababbc59e379ae5f4cfa197a83077cb0a7bf79f3a15083", func := "countermand/countermandlaw19.LogsStay", spec := "logsStay", unfollowed := true, recurses := true, apart := false, narrowed := true }
def LogsStayUptoSaid : Prop := logsStayUptoRow.holds Tryz.pinned (OpenSpec.upto logsStaySpec)

/-- 'countermandlaw19.LogsRuns', WHERE WHAT IT READS IS OF BULK AT MOST 1048576: true; the input reads as it did. -/
def logsRunsUptoRow : OpenClaim := { program := "ytjoaigccapegpaagreat", sum := "17ec7d22d6b0d54a46ababbc59e379ae5f4cfa197a83077cb0a7bf79f3a15083", func := "countermand/countermandlaw19.LogsRuns", spec := "logsRuns", unfollowed := true, recurses := true, apart := false, narrowed := true }
def LogsRunsUptoSaid : Prop := logsRunsUptoRow.holds Tryz.pinned (OpenSpec.upto logsRunsSpec)

/-- 'countermandlaw19.LogsClones', WHERE WHAT IT READS IS OF BULK AT MOST 1048576: true; the input reads as it did. -/
def logsClonesUptoRow : OpenClaim := { program := "ytjoaigccapegpaagreat", sum := "17ec7d22d6b0d54a46ababbc59e379ae5f4cfa197a83077cb0a7bf79f3a15083", func := "countermand/countermandlaw19.LogsClones", spec := "logsClones", unfollowed := true, recurses := true, apart := false, narrowed := true }
def LogsClonesUptoSaid : Prop := logsClonesUptoRow.holds Tryz.pinned (OpenSpec.upto logsClonesSpec)

end Rows
end Go.Proofs.YtjoaigccapegpaaGreat
