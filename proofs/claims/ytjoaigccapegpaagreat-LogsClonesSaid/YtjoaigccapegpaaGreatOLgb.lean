/-
 Chapter 19, plainly: the booking and the outcomes behind what is committed. Conditions: none; every lemma names its own.
-/
import Derived.Test.YtjoaigccapegpaaGreatOLg1
import Derived.Test.YtjoaigccapegpaaGreatPj
set_option linter.constructorNameAsVariable false
namespace Go.Proofs.YtjoaigccapegpaaGreat.AE
open Go Go.Proofs Go.RowKit
set_option linter.unusedVariables false
set_option linter.unusedSimpArgs false
def bD (d:List Chg):Bk × List Ord:=bkL (zBk,[]) d
def oD (d:List Chg):List Outc:=ouL (zBk,[]) d
theorem bD_fair (d:List Chg):FairB (bD d).1/\FairO (bD d).2/\(bD d).2.length<=d.length:=by
 obtain ⟨h1,h2⟩:=bkL_fair (p:=(zBk,[])) fairZ d
 refine ⟨h1.1,h1.2,?_⟩
 simpa [bD] using h2
theorem oD_len (d:List Chg):(oD d).length=d.length:=ouL_len _ _
theorem bD_snoc (d:List Chg) (c:Chg):bD (d++[c])=bkL (bD d) [c]:=bkL_append _ _ _
theorem oD_snoc (d:List Chg) (c:Chg):oD (d++[c])=oD d++ouL (bD d) [c]:=ouL_append _ _ _
theorem bD_app (d r:List Chg):bD (d++r)=bkL (bD d) r:=bkL_append _ _ _
theorem oD_app (d r:List Chg):oD (d++r)=oD d++ouL (bD d) r:=ouL_append _ _ _
end Go.Proofs.YtjoaigccapegpaaGreat.AE
