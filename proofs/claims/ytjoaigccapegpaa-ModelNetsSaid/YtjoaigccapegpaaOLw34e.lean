/-
 ModelExpects. Conditions: none; every contract names its own.
-/
import Derived.Test.YtjoaigccapegpaaOAl34
import Derived.Test.YtjoaigccapegpaaOOp
set_option linter.constructorNameAsVariable false
namespace Go.Proofs.Ytjoaigccapegpaa.AE
open Go Go.Proofs Go.RowKit
set_option linter.unusedVariables false
set_option linter.unusedSimpArgs false
set_option maxRecDepth 100000
set_option maxHeartbeats 4000000
end Go.Proofs.Ytjoaigccapegpaa.AE
