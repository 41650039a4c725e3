/-
 What is left of requests, by the page. Conditions: none; every contract names its own.
-/
import Derived.Test.YtjoaigccapegpaaORq4
set_option linter.constructorNameAsVariable false
namespace Go.Proofs.Ytjoaigccapegpaa.AE
open Go Go.Proofs Go.RowKit
set_option linter.unusedVariables false
set_option linter.unusedSimpArgs false
set_option maxRecDepth 100000
set_option maxHeartbeats 4000000
def cntId (a:Id) (l:List Req):Nat:=l.countP fun x=>decide (x.key.id=a)
def isUn (y x:Req):Bool:=decide (x.key=other y.key)
def lostQ (q:Req) (r:List Req):Bool:=q.key.undo || r.any (isUn q)
def netS (A:List Req) (q:Req) (r:List Req):List Req:=if lostQ q r=true then A else A++[⟨⟨q.key.id,(cntId q.key.id A:Int) + 1,false⟩,q.what⟩]
def netR:List Req->List Req->List Req
 | A,[]=>A
 | A,q :: r=>netR (netS A q r) r
def netL (l:List Req):List Req:=netR [] l
theorem netS_len (A:List Req) (q:Req) (r:List Req):(netS A q r).length<=A.length + 1:=by
 unfold netS
 split <;> simp
theorem cntId_le (a:Id) (l:List Req):cntId a l<=l.length:=List.countP_le_length
theorem netR_len:∀ (l A:List Req),(netR A l).length<=A.length + l.length
 | [],A=>by simp [netR]
 | q :: r,A=>by
  have h1:=netR_len r (netS A q r)
  have h2:=netS_len A q r
  simp only [netR,List.length_cons]
  omega
theorem cntId_snoc (a:Id) (A:List Req) (x:Req):cntId a (A++[x])=cntId a A + if x.key.id=a then 1 else 0:=by
 simp [cntId,List.countP_append,List.countP_cons]
end Go.Proofs.Ytjoaigccapegpaa.AE
