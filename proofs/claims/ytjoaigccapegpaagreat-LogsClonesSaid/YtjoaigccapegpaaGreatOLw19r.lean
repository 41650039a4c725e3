/-
 LogsRuns. Conditions: none; every contract names its own.
-/
import Derived.Test.YtjoaigccapegpaaGreatOAl19
import Derived.Test.YtjoaigccapegpaaGreatPg
set_option linter.constructorNameAsVariable false
namespace Go.Proofs.YtjoaigccapegpaaGreat.AE
open Go Go.Proofs Go.RowKit
set_option linter.unusedVariables false
set_option linter.unusedSimpArgs false
set_option maxRecDepth 100000
set_option maxHeartbeats 4000000
theorem sameB_s (b:Bk) (os:List Ord):sameB b os b os=true:=by simp [sameB]
theorem zS_d:rows cChg zS.d=[]:=rfl
theorem zS_r:rows cChg zS.r=[]:=rfl
end Go.Proofs.YtjoaigccapegpaaGreat.AE
