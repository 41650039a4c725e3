/-
 CutRuns. Conditions: none; every contract names its own.
-/
import Derived.Test.YtfbooejaabdkoaaOAl41
import Derived.Test.YtfbooejaabdkoaaOCt1
import Derived.Test.YtfbooejaabdkoaaPj
import Derived.Test.YtfbooejaabdkoaaPg
set_option linter.constructorNameAsVariable false
namespace Go.Proofs.Ytfbooejaabdkoaa.AE
open Go Go.Proofs Go.RowKit
set_option linter.unusedVariables false
set_option linter.unusedSimpArgs false
set_option maxRecDepth 100000
set_option maxHeartbeats 4000000
theorem sameB_41 (b:Bk) (os:List Ord):sameB b os b os=true:=by simp [sameB]
end Go.Proofs.Ytfbooejaabdkoaa.AE
