/-
 Arguments of any nested type, as values of the plain machine: numbers, truth values, structs, slices, one in the other. Conditions: none; every lemma names its own.
-/
import Derived.Test.YtjoaigccapegpaaPz
import Derived.Test.YtjoaigccapegpaaPg
set_option linter.constructorNameAsVariable false
namespace Go.Proofs.Ytjoaigccapegpaa.AE
open Go Go.Proofs Go.RowKit Go.ChangeShapes Go.WideShapes Go.ChangeAt Go.Deep
set_option linter.unusedVariables false
def RC (w:World) (l:List AV) (cs:List Value):Prop:=l.length=cs.length/\∀ (i:Nat) (c:AV) (v:Value),l[i]?=some c->cs[i]?=some v->Rep w (fun _=>False) noLay noH c v/\v.oneCell'=true
theorem RC.nil (w:World):RC w [] []:=⟨rfl,fun i c v h=>by simp at h⟩
theorem RC.cons {w:World} {c:AV} {v:Value} {l:List AV} {cs:List Value} (hr:Rep w (fun _=>False) noLay noH c v) (h1:v.oneCell'=true) (h:RC w l cs):RC w (c :: l) (v :: cs):=by
 refine ⟨by simp [h.1],fun i a b ha hb=>?_⟩
 cases i with
 | zero=>
  simp only [List.getElem?_cons_zero,Option.some.injEq] at ha hb
  subst ha hb
  exact ⟨hr,h1⟩
 | succ i=>
  simp only [List.getElem?_cons_succ] at ha hb
  exact h.2 i a b ha hb
theorem RC.append {w:World} {l l':List AV} {cs cs':List Value} (h:RC w l cs) (h':RC w l' cs'):RC w (l++l') (cs++cs'):=by
 refine ⟨by simp [h.1,h'.1],fun i a b ha hb=>?_⟩
 rcases Nat.lt_or_ge i l.length with hi | hi
 ·
  rw [List.getElem?_append_left hi] at ha
  rw [List.getElem?_append_left (by rw [<-h.1]; exact hi)] at hb
  exact h.2 i a b ha hb
 ·
  rw [List.getElem?_append_right hi] at ha
  rw [List.getElem?_append_right (by rw [<-h.1]; exact hi),<-h.1] at hb
  exact h'.2 _ a b ha hb
theorem RC.ints (w:World) (l:List Int):RC w (AI l) (l.map (Value.int .i64)):=by
 refine ⟨by simp [AI],fun i a b ha hb=>?_⟩
 simp only [AI_get,Option.map_eq_some_iff] at ha
 simp only [List.getElem?_map,Option.map_eq_some_iff] at hb
 obtain ⟨z,hz,rfl⟩:=ha
 obtain ⟨y,hy,rfl⟩:=hb
 rw [hz] at hy
 cases hy
 exact ⟨.int _ _ _,rfl⟩
theorem RC.agg {w:World} {l:List AV} {cs:Array Value} (h:RC w l cs.toList):Rep w (fun _=>False) noLay noH (.agg l) (.agg cs):=by
 have hs:cs.size=l.length:=by rw [h.1]; simp
 have hg:∀ i,i < l.length->cs[i]?=some (cs.getD i undef):=fun i hi=>by
  have hi2:i < cs.size:=by omega
  simp [Array.getD,hi2]
 refine .agg _ _ _ (fun i=>cs.getD i undef) hs (fun i hi=>⟨hg i hi,?_⟩) fun i c hc=>?_
 ·
  obtain ⟨c,hc⟩:∃ c,l[i]?=some c:=⟨_,List.getElem?_eq_getElem hi⟩
  exact (h.2 i c _ hc (by rw [Array.getElem?_toList]; exact hg i hi)).2
 ·
  have hi:=(List.getElem?_eq_some_iff.1 hc).1
  exact (h.2 i c _ hc (by rw [Array.getElem?_toList]; exact hg i hi)).1
section
variable {H:Type} {enc:TypeId × Value->H} {P:Program} {w:World}
def Opn (enc:TypeId × Value->H) (P:Program) (w:World) (t:TypeId) {α:Type} (c:α->List AV):Prop:=
 ∀ fuel cs x,DataW.trod enc P w 0 (fun _=>true) true fuel t cs=some x->∃ a:α,RC w (c a) cs
theorem op_flat {d0 n:Nat} {t:TypeId} {α:Type} {c:α->List AV} (hf:flatAt P d0 t=true) (hn:P.cellsOf t=n) (hc:∀ l:List Int,l.length=n->∃ x:α,AI l=c x):Opn enc P w t c:=by
 intro fuel cs x h
 obtain ⟨hi,hl⟩:=ints_of_trod d0 t fuel _ _ hf h
 obtain ⟨l,rfl,_⟩:=hi.list
 obtain ⟨a,ha⟩:=hc l (by rw [<-hn,<-hl]; simp)
 exact ⟨a,ha ▸ RC.ints w l⟩
theorem op_bool {t:TypeId} (ht:P.underlying t=some .bool):Opn enc P w t (fun b:Bool=>[.bool b]):=by
 intro fuel cs x h
 obtain ⟨b,rfl,_⟩:=DataW.trod_bool ht h
 exact ⟨b,RC.cons (.bool _ _) rfl (RC.nil w)⟩
theorem cut2 {α:Type} {l:List α} {a b:Nat} (h:l.length=a + b):l=l.take a++(l.drop a).take b:=by
 rw [List.take_of_length_le (l:=l.drop a) (by simp; omega),List.take_append_drop]
theorem op_struct2 {t:TypeId} {f0 f1:Field} {n0 n1:Nat} {α β γ:Type} {c0:α->List AV} {c1:β->List AV} {c:γ->List AV} (hu:P.underlying t=some (.struct #[f0,f1])) (hc:P.cellsOf t=n0 + n1)
  (h0:f0.offset=0/\P.cellsOf f0.type=n0) (h1:f1.offset=n0/\P.cellsOf f1.type=n1) (o0:Opn enc P w f0.type c0) (o1:Opn enc P w f1.type c1) (hj:∀ a b,∃ x,c x=c0 a++c1 b):Opn enc P w t c:=by
 intro fuel cs x h
 obtain ⟨xs,n,_,_,hl,hxl,hel⟩:=DataW.trod_struct hu h
 have hx:xs.length=2:=hxl
 have e0:=hel 0 f0 rfl
 have e1:=hel 1 f1 rfl
 rw [h0.1,h0.2] at e0
 rw [h1.1,h1.2] at e1
 rw [List.getElem?_eq_getElem (by omega)] at e0 e1
 obtain ⟨a,ra⟩:=o0 n _ _ e0
 obtain ⟨b,rb⟩:=o1 n _ _ e1
 obtain ⟨y,hy⟩:=hj a b
 refine ⟨y,?_⟩
 rw [hy,cut2 (l:=cs) (a:=n0) (b:=n1) (by omega)]
 exact RC.append (by simpa using ra) rb
theorem op_struct3 {t:TypeId} {f0 f1 f2:Field} {n0 n1 n2:Nat} {α β δ γ:Type} {c0:α->List AV} {c1:β->List AV} {c2:δ->List AV} {c:γ->List AV} (hu:P.underlying t=some (.struct #[f0,f1,f2])) (hc:P.cellsOf t=n0 + (n1 + n2))
  (h0:f0.offset=0/\P.cellsOf f0.type=n0) (h1:f1.offset=n0/\P.cellsOf f1.type=n1) (h2:f2.offset=n0 + n1/\P.cellsOf f2.type=n2) (o0:Opn enc P w f0.type c0) (o1:Opn enc P w f1.type c1) (o2:Opn enc P w f2.type c2) (hj:∀ a b d,∃ x,c x=c0 a++(c1 b++c2 d)):Opn enc P w t c:=by
 intro fuel cs x h
 obtain ⟨xs,n,_,_,hl,hxl,hel⟩:=DataW.trod_struct hu h
 have hx:xs.length=3:=hxl
 have e0:=hel 0 f0 rfl
 have e1:=hel 1 f1 rfl
 have e2:=hel 2 f2 rfl
 rw [h0.1,h0.2] at e0
 rw [h1.1,h1.2] at e1
 rw [h2.1,h2.2] at e2
 rw [List.getElem?_eq_getElem (by omega)] at e0 e1 e2
 obtain ⟨a,ra⟩:=o0 n _ _ e0
 obtain ⟨b,rb⟩:=o1 n _ _ e1
 obtain ⟨d,rd⟩:=o2 n _ _ e2
 obtain ⟨y,hy⟩:=hj a b d
 refine ⟨y,?_⟩
 have hcut:cs=cs.take n0++((cs.drop n0).take n1++(cs.drop (n0 + n1)).take n2):=by
  rw [<-List.drop_drop,<-cut2 (l:=cs.drop n0) (by simp; omega),List.take_append_drop]
 rw [hy,hcut]
 exact RC.append (by simpa using ra) (RC.append rb rd)
theorem open_op {r:Reach} {b0:Nat} {t:TypeId} {v:Value} {d:DataW H} {p:List MemPlace} {α:Type} {c:α->List AV} (ho:Opn enc P w t c) (ha:(match P.underlying t with | some (.array _ _) | some (.struct _)=>true | _=>false)=true)
  (hv:Value.okWide P w r b0 t v) (h:DataW.Trod enc P w 0 (fun _=>true) true t v d p):∃ a:α,Rep w (fun _=>False) noLay noH (.agg (c a)) v:=by
 have hagg:∃ cs,v=.agg cs:=by
  unfold Value.okWide at hv
  split at hv
  · obtain ⟨cs,h,_⟩:=hv; exact ⟨cs,h⟩
  · obtain ⟨cs,h,_⟩:=hv; exact ⟨cs,h⟩
  ·
   rename_i h1 h2
   split at ha
   · rename_i hu; exact absurd hu (by simp_all)
   · rename_i hu; exact absurd hu (by simp_all)
   · simp at ha
 obtain ⟨cs,rfl⟩:=hagg
 obtain ⟨fuel,hfu⟩:=h
 obtain ⟨a,ra⟩:=ho fuel _ _ hfu
 exact ⟨a,ra.agg⟩
end
end Go.Proofs.Ytjoaigccapegpaa.AE
