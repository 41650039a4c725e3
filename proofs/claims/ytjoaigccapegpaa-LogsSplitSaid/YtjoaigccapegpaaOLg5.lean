/-
 ref19: what is written. Conditions: none; every contract names its own.
-/
import Derived.Test.YtjoaigccapegpaaOLg4
set_option linter.constructorNameAsVariable false
namespace Go.Proofs.Ytjoaigccapegpaa.AE
open Go Go.Proofs Go.RowKit
set_option linter.unusedVariables false
set_option linter.unusedSimpArgs false
set_option maxRecDepth 100000
set_option maxHeartbeats 4000000
theorem zOc_cells : cOc zOc = [.int .i64 0, .sl 5 []] := rfl
end Go.Proofs.Ytjoaigccapegpaa.AE
