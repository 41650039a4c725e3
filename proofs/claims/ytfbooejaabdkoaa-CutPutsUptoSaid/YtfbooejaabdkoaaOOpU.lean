/-
 Arguments of nested types, with what a bound on the whole input says of the lengths of their slices. Conditions: none; every lemma names its own.
-/
import Derived.Test.YtfbooejaabdkoaaOOp
import Derived.Test.YtfbooejaabdkoaaRows
set_option linter.constructorNameAsVariable false
namespace Go.Proofs.Ytfbooejaabdkoaa.AE
open Go Go.Proofs Go.RowKit Go.ChangeShapes Go.WideShapes Go.ChangeAt Go.Deep
set_option linter.unusedVariables false
theorem bulk_one {H:Type} (d:DataW H):1<=Rows.uptoBulk d:=by
 cases d with
 | lit l=>cases l <;> simp [Rows.uptoBulk]
 | nil=>simp [Rows.uptoBulk]
 | ptr d=>simp [Rows.uptoBulk]
 | slice elems spare=>simp [Rows.uptoBulk]
 | agg parts=>simp [Rows.uptoBulk]
 | iface t d=>simp [Rows.uptoBulk]
 | map entries=>simp [Rows.uptoBulk]
 | held h=>simp [Rows.uptoBulk]
theorem bulk_len {H:Type}:∀ l:List (DataW H),l.length<=Rows.uptoBulkAll l
 | []=>Nat.zero_le _
 | x :: r=>by
  have h1:=bulk_one x
  have h2:=bulk_len r
  simp only [Rows.uptoBulkAll,List.length_cons]
  omega
theorem bulk_slice {H:Type} (elems spare:List (DataW H)):elems.length<=Rows.uptoBulk (.slice elems spare):=by
 have h1:=bulk_len elems
 simp only [Rows.uptoBulk]
 omega
theorem rep_sl_len {w:World} {M:Nat->Prop} {μ:Lay} {G:Heap} {k n c:Nat} {X:List (List AV)} {a:Option Addr} (h:Rep w M μ G (.sl k X) (.slice a n c)):X.length=n:=by
 cases h; rfl
section
variable {H:Type} {enc:TypeId × Value->H} {P:Program} {w:World}
theorem slice_bulk {t e:TypeId} {n c:Nat} {a:Option Addr} {d:DataW H} {p:List MemPlace} (ht:P.underlying t=some (.slice e)) (h:DataW.Trod enc P w 0 (fun _=>true) true t (.slice a n c) d p):n<=Rows.uptoBulk d:=by
 obtain ⟨fuel,hfu⟩:=h
 rcases open_slice ht hfu with ⟨hc,hx⟩ | ⟨a',len,m,m',n',D,Pl,hc,_,hl,hm,hmm,hx,hel⟩
 ·
  have:(Value.slice a n c)=.slice none 0 0:=by simpa [Value.cells] using hc
  cases this
  exact Nat.zero_le _
 ·
  have hv:(Value.slice a n c)=.slice (some a') len m:=by simpa [Value.cells] using hc
  have hn:n=len:=by simp only [Value.slice.injEq] at hv; exact hv.2.1
  have hb:=bulk_slice ((List.range len).map D) ((List.range (m' - len)).map fun j=>D (len + j))
  simp only [List.length_map,List.length_range] at hb
  have hd:d=.slice ((List.range len).map D) ((List.range (m' - len)).map fun j=>D (len + j)):=congrArg Prod.fst hx
  rw [hd,hn]
  exact hb
end
end Go.Proofs.Ytfbooejaabdkoaa.AE
