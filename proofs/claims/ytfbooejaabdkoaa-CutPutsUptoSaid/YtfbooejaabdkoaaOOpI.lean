/-
 Arguments of nested types whose numbers are held to their widths: a cut, some octets. Conditions: none; every lemma names its own.
-/
import Derived.Test.YtfbooejaabdkoaaOOpU
import Derived.Test.YtfbooejaabdkoaaOOc12
set_option linter.constructorNameAsVariable false
namespace Go.Proofs.Ytfbooejaabdkoaa.AE
open Go Go.Proofs Go.RowKit Go.ChangeShapes Go.WideShapes Go.ChangeAt Go.Deep
set_option linter.unusedVariables false
abbrev V8I:={ v:Vn 8 // ∀ i,i < 8->I64n (v.at i) }
abbrev OrdI:={ o:Ord // I64n o.qty/\I64n o.cost }
def cV8I (v:V8I):List AV:=cV v.1
def cOrdI (o:OrdI):List AV:=cOrd o.1
structure BookI where
 st:V8I
 pr:V8I
 pu:V8I
 os:List OrdI
def cBookI (b:BookI):List AV:=cBk ⟨b.st.1,b.pr.1,b.pu.1⟩ (.sl 7 (rows cOrd (b.os.map (·.1))))
structure CutW where
 n:Int
 k:Vn 4
 b:BookI
def CutW.s (c:CutW):CutS:=⟨c.n,c.k,⟨c.b.st.1,c.b.pr.1,c.b.pu.1⟩,c.b.os.map (·.1)⟩
def cCutI (c:CutW):List AV:=cCutS c.s
theorem CutW.ok (c:CutW):CutI c.s:=⟨c.b.st.2,c.b.pr.2,c.b.pu.2,fun o h=>by
 simp only [CutW.s,List.mem_map] at h
 obtain ⟨q,_,rfl⟩:=h
 exact q.2⟩
theorem ex_V8I (l:List Int) (h:l.length=8) (hw:∀ x ∈ l,I64 x):∃ v:V8I,AI l=cV8I v:=
 ⟨⟨⟨l,h⟩,fun i hi=>by
  obtain ⟨x,hx⟩:∃ x,l[i]?=some x:=⟨_,List.getElem?_eq_getElem (by omega)⟩
  have:=hw x (List.mem_of_getElem? hx)
  simpa [Vn.at,hx,I64n,I64] using this⟩,rfl⟩
theorem ex_OrdI:∀ l:List Int,l.length=7->(∀ x ∈ l,I64 x)->∃ x:OrdI,AI l=cOrdI x
 | [a,b,c,d,e,f,g],_,hw=>⟨⟨⟨⟨a,b⟩,c,d,e,f,g⟩,hw e (by simp),hw f (by simp)⟩,rfl⟩
theorem rows_sub (L:List OrdI):rows cOrdI L=rows cOrd (L.map (·.1)):=by simp [rows,cOrdI]
theorem ex_BookI (a b d:V8I) (e:List OrdI):∃ x:BookI,cBookI x=cV8I a++(cV8I b++(cV8I d++[.sl 7 (rows cOrdI e)])):=
 ⟨⟨a,b,d,e⟩,by simp [cBookI,cBk,cV8I,rows_sub]⟩
theorem ex_CutI (a:Int) (v:Vn 4) (b:BookI):∃ x:CutW,cCutI x=cInt a++(cV v++cBookI b):=⟨⟨a,v,b⟩,rfl⟩
abbrev B8:={ n:Int // 0<=n/\n < 256 }
def cB8 (b:B8):List AV:=cU8 b.1
def unB (l:List B8):List U8:=l.map (·.1)
theorem rows_unB (l:List B8):rows cB8 l=rows cU8 (unB l):=by simp [rows,cB8,unB]
theorem unB_oct (l:List B8):Oct (unB l):=fun n h=>by
 simp only [unB,List.mem_map] at h
 obtain ⟨q,_,rfl⟩:=h
 exact q.2
section
variable {H:Type} {enc:TypeId × Value->H} {P:Program} {w:World}
theorem op_flatW {d0 n:Nat} {t:TypeId} {α:Type} {c:α->List AV} (hf:flatAt P d0 t=true) (hn:P.cellsOf t=n) (hc:∀ l:List Int,l.length=n->(∀ x ∈ l,I64 x)->∃ x:α,AI l=c x):Opn enc P w t c:=by
 intro fuel cs x h
 obtain ⟨hi,hl⟩:=ints_of_trod d0 t fuel _ _ hf h
 obtain ⟨l,rfl,hw⟩:=hi.list
 obtain ⟨a,ha⟩:=hc l (by rw [<-hn,<-hl]; simp) hw
 exact ⟨a,ha ▸ RC.ints w l⟩
theorem op_u8 {t:TypeId} (ht:P.underlying t=some (.int .u8)):Opn enc P w t cB8:=by
 intro fuel cs x h
 obtain ⟨n,rfl,_,hw⟩:=DataW.trod_int ht h
 have hb:0<=n/\n < 256:=by
  simp [Lit.wf] at hw
  first | omega | (simp [IntKind.min,IntKind.max,IntKind.signed,IntKind.bits] at hw; omega)
 exact ⟨⟨n,hb⟩,RC.cons (.int _ _ _) rfl (RC.nil w)⟩
theorem open_bytes {r:Reach} {b0:Nat} {t e:TypeId} {v:Value} {d:DataW H} {p:List MemPlace} (ht:P.underlying t=some (.slice e)) (he:P.underlying e=some (.int .u8)) (hk:P.cellsOf e=1)
  (hv:Value.okWide P w r b0 t v) (h:DataW.Trod enc P w 0 (fun _=>true) true t v d p):∃ l:List U8,Rep w (fun _=>False) noLay noH (.sl 1 (rows cU8 l)) v/\Oct l/\l.length<=Rows.uptoBulk d:=by
 obtain ⟨L,hr⟩:=open_opS (c:=cB8) (k:=1) ht hk (by decide) (op_u8 he) hv h
 rw [rows_unB] at hr
 refine ⟨unB L,hr,unB_oct L,?_⟩
 obtain ⟨a,n,cap,rfl⟩:=okWide_slice ht hv
 have h1:=rep_sl_len hr
 have h2:=slice_bulk ht h
 simp only [rows_len] at h1
 omega
end
end Go.Proofs.Ytfbooejaabdkoaa.AE
