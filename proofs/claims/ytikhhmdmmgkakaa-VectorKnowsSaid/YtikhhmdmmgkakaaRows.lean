/-
  No cell of these rows narrows 'for every input' (looked for: loops, veiled, ifaces, maps, wideKeys, modest, calm, conditions, laid).
  DERIVED. THE GIVEN ROWS OF THIS SEAT. 11 by the template 'for every input the law returns true; each argument reads behind the call as it read before'; 0 by the template 'total and deterministic' (their statements: YtikhhmdmmgkakaaTotals.lean).
  GIVEN WITH THE SEED: the statements are not yours to turn. If you find one false, say at which input.
  Laid BY PROGRAM, IN A SANDBOX (cutbox-rows.mjs): the forced cells as the released guide's own fill.sh prints them over the translation e0bc0bb71ffae64e… (all of the seat's roots in one cut). By AI agents, Wed Nov 11 2026. No macro, syntax, notation, axiom, sorry.
-/
import Derived.Test.YtikhhmdmmgkakaaChecked
import GoSem.Claim
import GoSem.ClaimJoined
import GoSem.ClaimMapViews
import Derived.JoinedTies
import Derived.KernelRfl
namespace Go.Proofs.Ytikhhmdmmgkakaa
/- THE CELL 'sum', in the pinned program and in every row, IS THE sha256 OF THE DUMP (.gsa) THAT YtikhhmdmmgkakaaProg.lean LOADS. Nothing in Lean hashes anything: it is a label: what it is worth is what the hold of that sum in a sandbox is worth. -/
noncomputable def Try.pinned : Pinned := { name := "ytikhhmdmmgkakaa", sum := "e0bc0bb71ffae64e7f9b60cb6cb889bef872258c52ac5cf796ff72019ea3cece", checked := Try.checked }
namespace Rows
def none {H : Type} : Left H := { results := [], args := [] }

/-- 'countermandlaw08.VectorJoins': WHATEVER THE INPUT: true; the input reads as it did. -/
def vectorJoinsSpec : ChangeSpec := { name := "vectorJoins", fn := fun _ => fun
  | [d1, d2, d3] => { results := [.lit (.bool true)], args := [d1, d2, d3] }
  | _ => none }
def vectorJoinsRow : OpenClaim := { program := "ytikhhmdmmgkakaa", sum := "e0bc0bb71ffae64e7f9b60cb6cb889bef872258c52ac5cf796ff72019ea3cece", func := "countermand/countermandlaw08.VectorJoins", spec := "vectorJoins", apart := false }
def VectorJoinsSaid : Prop := vectorJoinsRow.holds Try.pinned (OpenSpec.ofChange vectorJoinsSpec)

/-- ITS FALSE NEIGHBOUR: 'it returns false'. Refute it at one input. -/
def vectorJoinsWrong : ChangeSpec := { name := "vectorJoins", fn := fun _ => fun
  | [d1, d2, d3] => { results := [.lit (.bool false)], args := [d1, d2, d3] }
  | _ => none }
def VectorJoinsWrongFalsely : Prop := vectorJoinsRow.holds Try.pinned (OpenSpec.ofChange vectorJoinsWrong)

/-- 'countermandlaw08.VectorKnows': WHATEVER THE INPUT: true; the input reads as it did. -/
def vectorKnowsSpec : ChangeSpec := { name := "vectorKnows", fn := fun _ => fun
  | [d1, d2] => { results := [.lit (.bool true)], args := [d1, d2] }
  | _ => none }
def vectorKnowsRow : OpenClaim := { program := "ytikhhmdmmgkakaa", sum := "e0bc0bb71ffae64e7f9b60cb6cb889bef872258c52ac5cf796ff72019ea3cece", func := "countermand/countermandlaw08.VectorKnows", spec := "vectorKnows", apart := false }
def VectorKnowsSaid : Prop := vectorKnowsRow.holds Try.pinned (OpenSpec.ofChange vectorKnowsSpec)

/-- ITS FALSE NEIGHBOUR: 'it returns false'. Refute it at one input. -/
def vectorKnowsWrong : ChangeSpec := { name := "vectorKnows", fn := fun _ => fun
  | [d1, d2] => { results := [.lit (.bool false)], args := [d1, d2] }
  | _ => none }
def VectorKnowsWrongFalsely : Prop := vectorKnowsRow.holds Try.pinned (OpenSpec.ofChange vectorKnowsWrong)

/-- 'countermandlaw14.PurseGives': WHATEVER THE INPUT: true; the input reads as it did. -/
def purseGivesSpec : ChangeSpec := { name := "purseGives", fn := fun _ => fun
  | [d1, d2, d3] => { results := [.lit (.bool true)], args := [d1, d2, d3] }
  | _ => none }
def purseGivesRow : OpenClaim := { program := "ytikhhmdmmgkakaa", sum := "e0bc0bb71ffae64e7f9b60cb6cb889bef872258c52ac5cf796ff72019ea3cece", func := "countermand/countermandlaw14.PurseGives", spec := "purseGives", apart := false }
def PurseGivesSaid : Prop := purseGivesRow.holds Try.pinned (OpenSpec.ofChange purseGivesSpec)

/-- ITS FALSE NEIGHBOUR: 'it returns false'. Refute it at one input. -/
def purseGivesWrong : ChangeSpec := { name := "purseGives", fn := fun _ => fun
  | [d1, d2, d3] => { results := [.lit (.bool false)], args := [d1, d2, d3] }
  | _ => none }
def PurseGivesWrongFalsely : Prop := purseGivesRow.holds Try.pinned (OpenSpec.ofChange purseGivesWrong)

/-- 'countermandlaw14.PurseTotals': WHATEVER THE INPUT: true; the input reads as it did. -/
def purseTotalsSpec : ChangeSpec := { name := "purseTotals", fn := fun _ => fun
  | [d1, d2, d3] => { results := [.lit (.bool true)], args := [d1, d2, d3] }
  | _ => none }
def purseTotalsRow : OpenClaim := { program := "ytikhhmdmmgkakaa", sum := "e0bc0bb71ffae64e7f9b60cb6cb889bef872258c52ac5cf796ff72019ea3cece", func := "countermand/countermandlaw14.PurseTotals", spec := "purseTotals", apart := false }
def PurseTotalsSaid : Prop := purseTotalsRow.holds Try.pinned (OpenSpec.ofChange purseTotalsSpec)

/-- ITS FALSE NEIGHBOUR: 'it returns false'. Refute it at one input. -/
def purseTotalsWrong : ChangeSpec := { name := "purseTotals", fn := fun _ => fun
  | [d1, d2, d3] => { results := [.lit (.bool false)], args := [d1, d2, d3] }
  | _ => none }
def PurseTotalsWrongFalsely : Prop := purseTotalsRow.holds Try.pinned (OpenSpec.ofChange purseTotalsWrong)

/-- 'countermandlaw14.PurseBack': WHATEVER THE INPUT: true; the input reads as it did. -/
def purseBackSpec : ChangeSpec := { name := "purseBack", fn := fun _ => fun
  | [d1, d2, d3] => { results := [.lit (.bool true)], args := [d1, d2, d3] }
  | _ => none }
def purseBackRow : OpenClaim := { program := "ytikhhmdmmgkakaa", sum := "e0bc0bb71ffae64e7f9b60cb6cb889bef872258c52ac5cf796ff72019ea3cece", func := "countermand/countermandlaw14.PurseBack", spec := "purseBack", apart := false }
def PurseBackSaid : Prop := purseBackRow.holds Try.pinned (OpenSpec.ofChange purseBackSpec)

/-- ITS FALSE NEIGHBOUR: 'it returns false'. Refute it at one input. -/
def purseBackWrong : ChangeSpec := { name := "purseBack", fn := fun _ => fun
  | [d1, d2, d3] => { results := [.lit (.bool false)], args := [d1, d2, d3] }
  | _ => none }
def PurseBackWrongFalsely : Prop := purseBackRow.holds Try.pinned (OpenSpec.ofChange purseBackWrong)

/-- 'countermandlaw01.NumSums': WHATEVER THE INPUT: true; the input reads as it did. -/
def numSumsSpec : ChangeSpec := { name := "numSums", fn := fun _ => fun
  | [d] => { results := [.lit (.bool true)], args := [d] }
  | _ => none }
def numSumsRow : OpenClaim := { program := "ytikhhmdmmgkakaa", sum := "e0bc0bb71ffae64e7f9b60cb6cb889bef872258c52ac5cf796ff72019ea3cece", func := "countermand/countermandlaw01.NumSums", spec := "numSums", apart := false }
def NumSumsSaid : Prop := numSumsRow.holds Try.pinned (OpenSpec.ofChange numSumsSpec)

/-- ITS FALSE NEIGHBOUR: 'it returns false'. Refute it at one input. -/
def numSumsWrong : ChangeSpec := { name := "numSums", fn := fun _ => fun
  | [d] => { results := [.lit (.bool false)], args := [d] }
  | _ => none }
def NumSumsWrongFalsely : Prop := numSumsRow.holds Try.pinned (OpenSpec.ofChange numSumsWrong)

/-- 'countermandlaw01.NumClamps': WHATEVER THE INPUT: true; the input reads as it did. -/
def numClampsSpec : ChangeSpec := { name := "numClamps", fn := fun _ => fun
  | [d1, d2, d3] => { results := [.lit (.bool true)], args := [d1, d2, d3] }
  | _ => none }
def numClampsRow : OpenClaim := { program := "ytikhhmdmmgkakaa", sum := "e0bc0bb71ffae64e7f9b60cb6cb889bef872258c52ac5cf796ff72019ea3cece", func := "countermand/countermandlaw01.NumClamps", spec := "numClamps", apart := false }
def NumClampsSaid : Prop := numClampsRow.holds Try.pinned (OpenSpec.ofChange numClampsSpec)

/-- ITS FALSE NEIGHBOUR: 'it returns false'. Refute it at one input. -/
def numClampsWrong : ChangeSpec := { name := "numClamps", fn := fun _ => fun
  | [d1, d2, d3] => { results := [.lit (.bool false)], args := [d1, d2, d3] }
  | _ => none }
def NumClampsWrongFalsely : Prop := numClampsRow.holds Try.pinned (OpenSpec.ofChange numClampsWrong)

/-- 'countermandlaw01.NumTells': WHATEVER THE INPUT: true; the input reads as it did. -/
def numTellsSpec : ChangeSpec := { name := "numTells", fn := fun _ => fun
  | [d1, d2] => { results := [.lit (.bool true)], args := [d1, d2] }
  | _ => none }
def numTellsRow : OpenClaim := { program := "ytikhhmdmmgkakaa", sum := "e0bc0bb71ffae64e7f9b60cb6cb889bef872258c52ac5cf796ff72019ea3cece", func := "countermand/countermandlaw01.NumTells", spec := "numTells", apart := false }
def NumTellsSaid : Prop := numTellsRow.holds Try.pinned (OpenSpec.ofChange numTellsSpec)

/-- ITS FALSE NEIGHBOUR: 'it returns false'. Refute it at one input. -/
def numTellsWrong : ChangeSpec := { name := "numTells", fn := fun _ => fun
  | [d1, d2] => { results := [.lit (.bool false)], args := [d1, d2] }
  | _ => none }
def NumTellsWrongFalsely : Prop := numTellsRow.holds Try.pinned (OpenSpec.ofChange numTellsWrong)

/-- 'countermandlaw13.ShelfCosts': WHATEVER THE INPUT: true; the input reads as it did. -/
def shelfCostsSpec : ChangeSpec := { name := "shelfCosts", fn := fun _ => fun
  | [d1, d2, d3] => { results := [.lit (.bool true)], args := [d1, d2, d3] }
  | _ => none }
def shelfCostsRow : OpenClaim := { program := "ytikhhmdmmgkakaa", sum := "e0bc0bb71ffae64e7f9b60cb6cb889bef872258c52ac5cf796ff72019ea3cece", func := "countermand/countermandlaw13.ShelfCosts", spec := "shelfCosts", apart := false }
def ShelfCostsSaid : Prop := shelfCostsRow.holds Try.pinned (OpenSpec.ofChange shelfCostsSpec)

/-- ITS FALSE NEIGHBOUR: 'it returns false'. Refute it at one input. -/
def shelfCostsWrong : ChangeSpec := { name := "shelfCosts", fn := fun _ => fun
  | [d1, d2, d3] => { results := [.lit (.bool false)], args := [d1, d2, d3] }
  | _ => none }
def ShelfCostsWrongFalsely : Prop := shelfCostsRow.holds Try.pinned (OpenSpec.ofChange shelfCostsWrong)

/-- 'countermandlaw13.ShelfBack': WHATEVER THE INPUT: true; the input reads as it did. -/
def shelfBackSpec : ChangeSpec := { name := "shelfBack", fn := fun _ => fun
  | [d1, d2, d3] => { results := [.lit (.bool true)], args := [d1, d2, d3] }
  | _ => none }
def shelfBackRow : OpenClaim := { program := "ytikhhmdmmgkakaa", sum := "e0bc0bb71ffae64e7f9b60cb6cb889bef872258c52ac5cf796ff72019ea3cece", func := "countermand/countermandlaw13.ShelfBack", spec := "shelfBack", apart := false }
def ShelfBackSaid : Prop := shelfBackRow.holds Try.pinned (OpenSpec.ofChange shelfBackSpec)

/-- ITS FALSE NEIGHBOUR: 'it returns false'. Refute it at one input. -/
def shelfBackWrong : ChangeSpec := { name := "shelfBack", fn := fun _ => fun
  | [d1, d2, d3] => { results := [.lit (.bool false)], args := [d1, d2, d3] }
  | _ => none }
def ShelfBackWrongFalsely : Prop := shelfBackRow.holds Try.pinned (OpenSpec.ofChange shelfBackWrong)

/-- 'countermandlaw13.ShelfAdds': WHATEVER THE INPUT: true; the input reads as it did. -/
def shelfAddsSpec : ChangeSpec := { name := "shelfAdds", fn := fun _ => fun
  | [d1, d2, d3] => { results := [.lit (.bool true)], args := [d1, d2, d3] }
  | _ => none }
def shelfAddsRow : OpenClaim := { program := "ytikhhmdmmgkakaa", sum := "e0bc0bb71ffae64e7f9b60cb6cb889bef872258c52ac5cf796ff72019ea3cece", func := "countermand/countermandlaw13.ShelfAdds", spec := "shelfAdds", apart := false }
def ShelfAddsSaid : Prop := shelfAddsRow.holds Try.pinned (OpenSpec.ofChange shelfAddsSpec)

/-- ITS FALSE NEIGHBOUR: 'it returns false'. Refute it at one input. -/
def shelfAddsWrong : ChangeSpec := { name := "shelfAdds", fn := fun _ => fun
  | [d1, d2, d3] => { results := [.lit (.bool false)], args := [d1, d2, d3] }
  | _ => none }
def ShelfAddsWrongFalsely : Prop := shelfAddsRow.holds Try.pinned (OpenSpec.ofChange shelfAddsWrong)

/- THE SECOND FORM. 'bulk': how many values and letters a reading holds, each counted each time it is reached (what is shared counts as often as it is met; a slice's spare places count too). A statement '..UptoSaid' is the law's where the arguments, and the package variables that the reading takes, are together of bulk at most 1048576: NARROWER than '..Said'. Prove '..Said' where nothing that the law and all that it calls make is longer than what came in: it says more and counts as full. Else prove '..UptoSaid'. A law counts once. -/
mutual
def uptoBulk {H : Type} : DataW H → Nat
  | .lit (.string bytes) => bytes.length + 1
  | .lit _ => 1
  | .nil => 1
  | .ptr d => uptoBulk d + 1
  | .slice elems spare => uptoBulkAll elems + uptoBulkAll spare + 1
  | .agg parts => uptoBulkAll parts + 1
  | .iface _ d => uptoBulk d + 1
  | .map entries => uptoBulkEntries entries + 1
  | .held _ => 1
def uptoBulkAll {H : Type} : List (DataW H) → Nat
  | [] => 0
  | d :: r => uptoBulk d + uptoBulkAll r
def uptoBulkEntries {H : Type} : List (Lit × DataW H) → Nat
  | [] => 0
  | x :: r => uptoBulkEntry x + uptoBulkEntries r
def uptoBulkEntry {H : Type} : Lit × DataW H → Nat
  | (.string bytes, d) => bytes.length + uptoBulk d + 1
  | (_, d) => uptoBulk d + 1
 end
def uptoSmall : (H : Type) → List (DataW H) → Bool := fun _ ds => decide (uptoBulkAll ds ≤ 1048576)
def OpenSpec.upto (s : _root_.Go.ChangeSpec) : _root_.Go.OpenSpec := { _root_.Go.OpenSpec.ofChange s with cond := some uptoSmall }

/-- 'countermandlaw08.VectorJoins', WHERE WHAT IT READS IS OF BULK AT MOST 1048576: true; the input reads as it did. -/
def vectorJoinsUptoRow : OpenClaim := { program := "ytikhhmdmmgkakaa", sum := "e0bc0bb71ffae64e7f9b60cb6cb889bef872258c52ac5cf796ff72019ea3cece", func := "countermand/countermandlaw08.VectorJoins", spec := "vectorJoins", apart := false, narrowed := true }
def VectorJoinsUptoSaid : Prop := vectorJoinsUptoRow.holds Try.pinned (OpenSpec.upto vectorJoinsSpec)

/-- 'countermandlaw08.VectorKnows', WHERE WHAT IT READS IS OF BULK AT MOST 1048576: true; the input reads as it did. -/
def vectorKnowsUptoRow : OpenClaim := { program := "ytikhhmdmmgkakaa", sum := "e0bc0bb71ffae64e7f9b60cb6cb889bef872258c52ac5cf796ff72019ea3cece", func := "countermand/countermandlaw08.VectorKnows", spec := "vectorKnows", apart := false, narrowed := true }
def VectorKnowsUptoSaid : Prop := vectorKnowsUptoRow.holds Try.pinned (OpenSpec.upto vectorKnowsSpec)

/-- 'countermandlaw14.PurseGives', WHERE WHAT IT READS IS OF BULK AT MOST 1048576: true; the input reads as it did. -/
def purseGivesUptoRow : OpenClaim := { program := "ytikhhmdmmgkakaa", sum := "e0bc0bb71ffae64e7f9b60cb6cb889bef872258c52ac5cf796ff72019ea3cece", func := "countermand/countermandlaw14.PurseGives", spec := "purseGives", apart := false, narrowed := true }
def PurseGivesUptoSaid : Prop := purseGivesUptoRow.holds Try.pinned (OpenSpec.upto purseGivesSpec)

/-- 'countermandlaw14.PurseTotals', WHERE WHAT IT READS IS OF BULK AT MOST 1048576: true; the input reads as it did. -/
def purseTotalsUptoRow : OpenClaim := { program := "ytikhhmdmmgkakaa", sum := "e0bc0bb71ffae64e7f9b60cb6cb889bef872258c52ac5cf796ff72019ea3cece", func := "countermand/countermandlaw14.PurseTotals", spec := "purseTotals", apart := false, narrowed := true }
def PurseTotalsUptoSaid : Prop := purseTotalsUptoRow.holds Try.pinned (OpenSpec.upto purseTotalsSpec)

/-- 'countermandlaw14.PurseBack', WHERE WHAT IT READS IS OF BULK AT MOST 1048576: true; the input reads as it did. -/
def purseBackUptoRow : OpenClaim := { program := "ytikhhmdmmgkakaa", sum := "e0bc0bb71ffae64e7f9b60cb6cb889bef872258c52ac5cf796ff72019ea3cece", func := "countermand/countermandlaw14.PurseBack", spec := "purseBack", apart := false, narrowed := true }
def PurseBackUptoSaid : Prop := purseBackUptoRow.holds Try.pinned (OpenSpec.upto purseBackSpec)

/-- 'countermandlaw01.NumSums', WHERE WHAT IT READS IS OF BULK AT MOST 1048576: true; the input reads as it did. -/
def numSumsUptoRow : OpenClaim := { program := "ytikhhmdmmgkakaa", sum := "e0bc0bb71ffae64e7f9b60cb6cb889bef872258c52ac5cf796ff72019ea3cece", func := "countermand/countermandlaw01.NumSums", spec := "numSums", apart := false, narrowed := true }
def NumSumsUptoSaid : Prop := numSumsUptoRow.holds Try.pinned (OpenSpec.upto numSumsSpec)

/-- 'countermandlaw01.NumClamps', WHERE WHAT IT READS IS OF BULK AT MOST 1048576: true; the input reads as it did. -/
def numClampsUptoRow : OpenClaim := { program := "ytikhhmdmmgkakaa", sum := "e0bc0bb71ffae64e7f9b60cb6cb889bef872258c52ac5cf796ff72019ea3cece", func := "countermand/countermandlaw01.NumClamps", spec := "numClamps", apart := false, narrowed := true }
def NumClampsUptoSaid : Prop := numClampsUptoRow.holds Try.pinned (OpenSpec.upto numClampsSpec)

/-- 'countermandlaw01.NumTells', WHERE WHAT IT READS IS OF BULK AT MOST 1048576: true; the input reads as it did. -/
def numTellsUptoRow : OpenClaim := { program := "ytikhhmdmmgkakaa", sum := "e0bc0bb71ffae64e7f9b60cb6cb889bef872258c52ac5cf796ff72019ea3cece", func := "countermand/countermandlaw01.NumTells", spec := "numTells", apart := false, narrowed := true }
def NumTellsUptoSaid : Prop := numTellsUptoRow.holds Try.pinned (OpenSpec.upto numTellsSpec)

/-- 'countermandlaw13.ShelfCosts', WHERE WHAT IT READS IS OF BULK AT MOST 1048576: true; the input reads as it did. -/
def shelfCostsUptoRow : OpenClaim := { program := "ytikhhmdmmgkakaa", sum := "e0bc0bb71ffae64e7f9b60cb6cb889bef872258c52ac5cf796ff72019ea3cece", func := "countermand/countermandlaw13.ShelfCosts", spec := "shelfCosts", apart := false, narrowed := true }
def ShelfCostsUptoSaid : Prop := shelfCostsUptoRow.holds Try.pinned (OpenSpec.upto shelfCostsSpec)

/-- 'countermandlaw13.ShelfBack', WHERE WHAT IT READS IS OF BULK AT MOST 1048576: true; the input reads as it did. -/
def shelfBackUptoRow : OpenClaim := { program := "ytikhhmdmmgkakaa", sum := "e0bc0bb71ffae64e7f9b60cb6cb889bef872258c52ac5cf796ff72019ea3cece", func := "countermand/countermandlaw13.ShelfBack", spec := "shelfBack", apart := false, narrowed := true }
def ShelfBackUptoSaid : Prop := shelfBackUptoRow.holds Try.pinned (OpenSpec.upto shelfBackSpec)

/-- 'countermandlaw13.ShelfAdds', WHERE WHAT IT READS IS OF BULK AT MOST 1048576: true; the input reads as it did. -/
def shelfAddsUptoRow : OpenClaim := { program := "ytikhhmdmmgkakaa", sum := "e0bc0bb71ffae64e7f9b60cb6cb889bef872258c52ac5cf796ff72019ea3cece", func := "countermand/countermandlaw13.ShelfAdds", spec := "shelfAdds", apart := false, narrowed := true }
def ShelfAddsUptoSaid : Prop := shelfAddsUptoRow.holds Try.pinned (OpenSpec.upto shelfAddsSpec)

end Rows
end Go.Proofs.Ytikhhmdmmgkakaa
