/-
 The reference of chapter 16: contracts of its small functions. Conditions: none; every contract names its own.
-/
import Derived.Test.YtfbooejaabdkoaaPf
import Derived.Test.YtfbooejaabdkoaaPe
set_option linter.constructorNameAsVariable false
namespace Go.Proofs.Ytfbooejaabdkoaa.AE
open Go Go.Proofs Go.RowKit
set_option linter.unusedVariables false
set_option linter.unusedSimpArgs false
set_option maxRecDepth 100000
set_option maxHeartbeats 4000000
@[go_sem] theorem map_one_cV {n:Nat} (v:Vn n):(cV v).map (fun x=>[x])=rows cInt v.l:=by simp [cV,AI,rows,cInt,List.map_map,Function.comp_def]
def addR (v:Vn 8) (i n:Int):Int:=if 0<=i/\i<=7/\1<=n/\n<=1099511627776 then (if 1099511627776 < v.at i.toNat + n then 7 else 0) else 4
def itemR (b:Bk) (c:Chg):Int:=if c.n<=b.st.at c.b.toNat then c.b else if c.ref.seq=1/\0<=c.ref.rep/\c.ref.rep<=7/\c.n<=b.st.at c.ref.rep.toNat then c.ref.rep else -1
def placeR (b:Bk) (os:List Ord) (c:Chg):Int:=if 0<=c.a/\c.a<=7/\0<=c.b/\c.b<=7/\1<=c.n/\c.n<=1000 then (if 0<=placeL os c.id then 9 else if 32<=os.length then 3 else if itemR b c < 0 then 11 else 0) else 4
@[go_sem] theorem tiI9:TI.of Try.prog 155=some { size:=9,agg:=true,zero:=[.int .i64 0,.int .i64 0,.int .i64 0,.int .i64 0,.int .i64 0,.int .i64 0,.int .i64 0,.int .i64 0,.int .i64 0],fields:=[],len:=9,esize:=1,etype:=3,ebytes:=8,kind:=none,arr:=true,slc:=false,ptr:=false,kinds:=some [.int .i64,.int .i64,.int .i64,.int .i64,.int .i64,.int .i64,.int .i64,.int .i64,.int .i64] }:=by kernel_rfl
@[go_sem] theorem want4:((((((((((zV 9).put 0 0).put 1 0).put 2 0).put 3 0).put 4 1).put 5 1).put 6 1).put 7 2).put 8 3).at 4=1:=rfl
@[go_sem] theorem want5:((((((((((zV 9).put 0 0).put 1 0).put 2 0).put 3 0).put 4 1).put 5 1).put 6 1).put 7 2).put 8 3).at 5=1:=rfl
@[go_sem] theorem want6:((((((((((zV 9).put 0 0).put 1 0).put 2 0).put 3 0).put 4 1).put 5 1).put 6 1).put 7 2).put 8 3).at 6=1:=rfl
@[go_sem] theorem want7:((((((((((zV 9).put 0 0).put 1 0).put 2 0).put 3 0).put 4 1).put 5 1).put 6 1).put 7 2).put 8 3).at 7=2:=rfl
@[go_sem] theorem want8:((((((((((zV 9).put 0 0).put 1 0).put 2 0).put 3 0).put 4 1).put 5 1).put 6 1).put 7 2).put 8 3).at 8=3:=rfl
def aboutR (b:Bk) (c:Chg) (x:Ord):Int:=
 if c.kind=4 then (if x.state=1 then (if b.st.at x.item.toNat < c.n - x.qty then 11 else if 1099511627776 < b.st.at x.item.toNat + x.qty - c.n then 7 else 0) else 9)
 else if c.kind=5 then (if x.state=1\/x.state=2 then (if 1099511627776 < b.st.at x.item.toNat + x.qty\/(x.state=2/\1099511627776 < b.pu.at x.buyer.toNat + x.cost) then 7 else 0) else 9)
 else if c.kind=6 then (if x.state=1 then (if 1099511627776 < x.qty * b.pr.at x.item.toNat then 7 else if b.pu.at x.buyer.toNat < x.qty * b.pr.at x.item.toNat then 11 else 0) else 9)
 else if c.kind=7 then (if x.state=2 then 0 else 9)
 else (if x.state=3 then (if 1099511627776 < b.pu.at x.buyer.toNat + x.cost then 7 else 0) else 9)
theorem mul_rng {q p:Int} (h0:1<=q) (h1:q<=1000) (h2:0<=p) (h3:p<=1073741824):0<=q * p/\q * p<=1073741824000:=by
 refine ⟨Int.mul_nonneg (by omega) h2,?_⟩
 calc q * p<=1000 * p:=Int.mul_le_mul_of_nonneg_right h1 h2
  _<=1073741824000:=by omega
def codeR (b:Bk) (os:List Ord) (c:Chg):Int:=
 if c.kind=1 then addR b.st c.a c.n
 else if c.kind=2 then addR b.pu c.a c.n
 else if c.kind=3 then placeR b os c
 else if c.kind=9 then (if 0<=c.a/\c.a<=7/\0<=c.n/\c.n<=1073741824 then 0 else 4)
 else if c.kind < 4\/8 < c.kind then 12
 else if c.kind=4/\¬ (1<=c.n/\c.n<=1000) then 4
 else match findL os c.ref with
  | none=>14
  | some x=>aboutR b c x
def simR (b:Bk) (os:List Ord) (c:Chg):Bk × List Ord × List Eff:=
 if c.kind=1 then ({ b with st:=b.st.put c.a.toNat (b.st.at c.a.toNat + c.n) },os,[])
 else if c.kind=2 then ({ b with pu:=b.pu.put c.a.toNat (b.pu.at c.a.toNat + c.n) },os,[⟨8,c.a,c.n,zId⟩])
 else if c.kind=9 then ({ b with pr:=b.pr.put c.a.toNat c.n },os,[])
 else ({ b with st:=b.st.put (itemR b c).toNat (b.st.at (itemR b c).toNat - c.n) },putL os ⟨c.id,c.a,itemR b c,c.n,0,1⟩,[⟨1,itemR b c,c.n,c.id⟩,⟨7,c.a,1,c.id⟩])
def simOK (b:Bk) (os:List Ord) (c:Chg):Prop:=
 (c.kind=1/\(0<=c.a/\c.a<=7)/\1<=c.n/\b.st.at c.a.toNat + c.n<=1099511627776) \/
 (c.kind=2/\(0<=c.a/\c.a<=7)/\1<=c.n/\b.pu.at c.a.toNat + c.n<=1099511627776) \/
 (c.kind=9/\(0<=c.a/\c.a<=7)/\(0<=c.n/\c.n<=1073741824)) \/
 (c.kind=3/\(0<=c.b/\c.b<=7)/\(1<=c.n/\c.n<=1000)/\0<=itemR b c/\(0<=c.a/\c.a<=7)/\placeL os c.id < 0/\os.length < 32)
theorem itemR_rng {b:Bk} {c:Chg} (h:0<=c.b/\c.b<=7) (h0:0<=itemR b c):itemR b c<=7/\c.n<=b.st.at (itemR b c).toNat:=by
 unfold itemR at h0 ⊢
 by_cases h1:c.n<=b.st.at c.b.toNat
 · rw [if_pos h1]; exact ⟨h.2,h1⟩
 ·
  rw [if_neg h1] at h0 ⊢
  by_cases h2:c.ref.seq=1/\0<=c.ref.rep/\c.ref.rep<=7/\c.n<=b.st.at c.ref.rep.toNat
  · rw [if_pos h2]; exact ⟨h2.2.2.1,h2.2.2.2⟩
  · rw [if_neg h2] at h0; omega
@[go_sem] theorem take_Eff (x:Eff) (l:List AV):List.take 5 (cEff x++l)=cEff x:=rfl
@[go_sem] theorem drop_Eff (x:Eff) (l:List AV):List.drop 5 (cEff x++l)=l:=rfl
@[go_sem] theorem drop_Eff2 (x y:Eff) (l:List AV):List.drop 10 (cEff x++(cEff y++l))=l:=rfl
@[go_sem] theorem drop_Eff3 (x y z:Eff) (l:List AV):List.drop 15 (cEff x++(cEff y++(cEff z++l)))=l:=rfl
@[go_sem] theorem rows_two_Eff (x y:Eff):[cEff x,cEff y]=rows cEff [x,y]:=rfl
@[go_sem] theorem rows_four_Eff (x y z u:Eff):[cEff x,cEff y,cEff z,cEff u]=rows cEff [x,y,z,u]:=rfl
end Go.Proofs.Ytfbooejaabdkoaa.AE
