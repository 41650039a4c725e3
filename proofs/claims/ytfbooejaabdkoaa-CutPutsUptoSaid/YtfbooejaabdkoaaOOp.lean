/-
 Arguments of any nested type, as values of the plain machine: numbers, truth values, structs, slices, one in the other. Conditions: none; every lemma names its own.
-/
import Derived.Test.YtfbooejaabdkoaaPz
import Derived.Test.YtfbooejaabdkoaaPg
set_option linter.constructorNameAsVariable false
namespace Go.Proofs.Ytfbooejaabdkoaa.AE
open Go Go.Proofs Go.RowKit Go.ChangeShapes Go.WideShapes Go.ChangeAt Go.Deep
set_option linter.unusedVariables false
def RC (w:World) (l:List AV) (cs:List Value):Prop:=l.length=cs.length/\∀ (i:Nat) (c:AV) (v:Value),l[i]?=some c->cs[i]?=some v->Rep w (fun _=>False) noLay noH c v/\v.oneCell'=true
theorem RC.nil (w:World):RC w [] []:=⟨rfl,fun i c v h=>by simp at h⟩
theorem RC.cons {w:World} {c:AV} {v:Value} {l:List AV} {cs:List Value} (hr:Rep w (fun _=>False) noLay noH c v) (h1:v.oneCell'=true) (h:RC w l cs):RC w (c :: l) (v :: cs):=by
 refine ⟨by simp [h.1],fun i a b ha hb=>?_⟩
 cases i with
 | zero=>
  simp only [List.getElem?_cons_zero,Option.some.injEq] at ha hb
  subst ha hb
  exact ⟨hr,h1⟩
 | succ i=>
  simp only [List.getElem?_cons_succ] at ha hb
  exact h.2 i a b ha hb
theorem RC.append {w:World} {l l':List AV} {cs cs':List Value} (h:RC w l cs) (h':RC w l' cs'):RC w (l++l') (cs++cs'):=by
 refine ⟨by simp [h.1,h'.1],fun i a b ha hb=>?_⟩
 rcases Nat.lt_or_ge i l.length with hi | hi
 ·
  rw [List.getElem?_append_left hi] at ha
  rw [List.getElem?_append_left (by rw [<-h.1]; exact hi)] at hb
  exact h.2 i a b ha hb
 ·
  rw [List.getElem?_append_right hi] at ha
  rw [List.getElem?_append_right (by rw [<-h.1]; exact hi),<-h.1] at hb
  exact h'.2 _ a b ha hb
theorem RC.ints (w:World) (l:List Int):RC w (AI l) (l.map (Value.int .i64)):=by
 refine ⟨by simp [AI],fun i a b ha hb=>?_⟩
 simp only [AI_get,Option.map_eq_some_iff] at ha
 simp only [List.getElem?_map,Option.map_eq_some_iff] at hb
 obtain ⟨z,hz,rfl⟩:=ha
 obtain ⟨y,hy,rfl⟩:=hb
 rw [hz] at hy
 cases hy
 exact ⟨.int _ _ _,rfl⟩
theorem RC.agg {w:World} {l:List AV} {cs:Array Value} (h:RC w l cs.toList):Rep w (fun _=>False) noLay noH (.agg l) (.agg cs):=by
 have hs:cs.size=l.length:=by rw [h.1]; simp
 have hg:∀ i,i < l.length->cs[i]?=some (cs.getD i undef):=fun i hi=>by
  have hi2:i < cs.size:=by omega
  simp [Array.getD,hi2]
 refine .agg _ _ _ (fun i=>cs.getD i undef) hs (fun i hi=>⟨hg i hi,?_⟩) fun i c hc=>?_
 ·
  obtain ⟨c,hc⟩:∃ c,l[i]?=some c:=⟨_,List.getElem?_eq_getElem hi⟩
  exact (h.2 i c _ hc (by rw [Array.getElem?_toList]; exact hg i hi)).2
 ·
  have hi:=(List.getElem?_eq_some_iff.1 hc).1
  exact (h.2 i c _ hc (by rw [Array.getElem?_toList]; exact hg i hi)).1
section
variable {H:Type} {enc:TypeId × Value->H} {P:Program} {w:World}
def Opn (enc:TypeId × Value->H) (P:Program) (w:World) (t:TypeId) {α:Type} (c:α->List AV):Prop:=
 ∀ fuel cs x,DataW.trod enc P w 0 (fun _=>true) true fuel t cs=some x->∃ a:α,RC w (c a) cs
theorem op_flat {d0 n:Nat} {t:TypeId} {α:Type} {c:α->List AV} (hf:flatAt P d0 t=true) (hn:P.cellsOf t=n) (hc:∀ l:List Int,l.length=n->∃ x:α,AI l=c x):Opn enc P w t c:=by
 intro fuel cs x h
 obtain ⟨hi,hl⟩:=ints_of_trod d0 t fuel _ _ hf h
 obtain ⟨l,rfl,_⟩:=hi.list
 obtain ⟨a,ha⟩:=hc l (by rw [<-hn,<-hl]; simp)
 exact ⟨a,ha ▸ RC.ints w l⟩
theorem op_slice {t e:TypeId} {k:Nat} {α:Type} {c:α->List AV} (ht:P.underlying t=some (.slice e)) (hk:P.cellsOf e=k) (h0:0 < k) (he:Opn enc P w e c):Opn enc P w t (fun L:List α=>[.sl k (rows c L)]):=by
 intro fuel cs x h
 rcases open_slice ht h with ⟨rfl,_⟩ | ⟨a',len,m,m',n,D,Pl,rfl,_,hl,hm,hmm,_,hel⟩
 ·
  refine ⟨[],RC.cons ?_ rfl (RC.nil w)⟩
  exact .sl _ _ [] none 0 (fun _ _=>undef) (Nat.le_refl _) (Nat.zero_le _) (fun x hx=>by cases hx) (fun i j hi=>by simp at hi) fun i j cs x hi=>by simp at hi
 ·
  simp only [if_true] at hmm
  subst hmm
  have hx:∀ i,i < len->∃ q:α × List Value,w.cells? 0 (a'.add (i * k)) k=some q.2/\RC w (c q.1) q.2:=by
   intro i hi
   obtain ⟨cs',hc,htr⟩:=hel i (by omega)
   obtain ⟨x,hx⟩:=he n cs' _ htr
   exact ⟨(x,cs'),by rw [<-hk]; exact hc,hx⟩
  by_cases hl0:len=0
  ·
   subst hl0
   refine ⟨[],RC.cons ?_ rfl (RC.nil w)⟩
   exact .sl _ _ [] (some a') m' (fun _ _=>undef) (Nat.zero_le _) hm (fun x hx=>by cases hx) (fun i j hi=>by simp at hi) fun i j cs x hi=>by simp at hi
  haveI:Inhabited (α × List Value):=⟨(hx 0 (by omega)).choose⟩
  obtain ⟨f,hf⟩:=choose_lt hx
  obtain ⟨b',off',rfl⟩:∃ b' off',a'=⟨b',off',none⟩:=by
   obtain ⟨b,off,h,_⟩:=cells_rows (hf 0 (by omega)).1 h0
   rw [Nat.zero_mul] at h
   exact ⟨b,off,by simpa [Addr.add] using h⟩
  refine ⟨(List.range len).map fun i=>(f i).1,RC.cons ?_ rfl (RC.nil w)⟩
  have hlen:(rows c ((List.range len).map fun i=>(f i).1)).length=len:=by simp [rows]
  have hget:∀ (i:Nat) (cs:List AV),(rows c ((List.range len).map fun i=>(f i).1))[i]?=some cs->i < len/\cs=c (f i).1:=by
   intro i cs hi
   have h1:=(List.getElem?_eq_some_iff.1 hi).1
   rw [hlen] at h1
   refine ⟨h1,?_⟩
   simp only [rows,List.map_map,List.getElem?_map,List.getElem?_range h1,Option.map_some,Option.some.injEq] at hi
   exact hi.symm
  have hrep:Rep w (fun _=>False) noLay noH (.sl k (rows c ((List.range len).map fun i=>(f i).1))) (.slice (some ⟨b',off',none⟩) (rows c ((List.range len).map fun i=>(f i).1)).length m'):=by
   refine .sl _ _ _ _ _ (fun i j=>(f i).2.getD j undef) (by omega) hm (fun x hx=>?_) (fun i j hi hj=>?_) fun i j cs x hi hj=>?_
   ·
    obtain ⟨i,hi⟩:=List.getElem?_of_mem hx
    obtain ⟨h1,rfl⟩:=hget i x hi
    obtain ⟨q1,q2⟩:=hf i h1
    rw [q2.1]
    exact (World.cells?_some q1).2.1
   ·
    rw [hlen] at hi
    obtain ⟨q1,q2⟩:=hf i hi
    obtain ⟨_,hl2,hat⟩:=World.cells?_some q1
    have hadd:(⟨b',off',none⟩:Addr).add (i * k)=⟨b',off' + i * k,none⟩:=by unfold Addr.add; split <;> simp_all
    have hj':=hat j hj
    rw [hadd] at hj'
    have ha2:(⟨b',off' + i * k,none⟩:Addr).add j=⟨b',off' + i * k + j,none⟩:=by unfold Addr.add; split <;> simp_all
    rw [ha2,List.getElem?_eq_getElem (by omega)] at hj'
    have hgd:(f i).2.getD j undef=(f i).2[j]'(by omega):=by simp [List.getD,List.getElem?_eq_getElem (show j < (f i).2.length by omega)]
    have hcl:j < (c (f i).1).length:=by rw [q2.1]; omega
    refine ⟨b',off',rfl,fun hh=>hh,?_,?_⟩
    ·
     rw [<-Nat.add_assoc]
     show w.cell? _=some ((f i).2.getD j undef)
     rw [hgd]
     exact hj'
    ·
     show ((f i).2.getD j undef).oneCell'=true
     rw [hgd]
     exact (q2.2 j _ _ (List.getElem?_eq_getElem hcl) (List.getElem?_eq_getElem (by omega))).2
   ·
    obtain ⟨h1,rfl⟩:=hget i cs hi
    obtain ⟨q1,q2⟩:=hf i h1
    have hl2:=(World.cells?_some q1).2.1
    have hj2:=(List.getElem?_eq_some_iff.1 hj).1
    rw [q2.1] at hj2
    have hgd:(f i).2.getD j undef=(f i).2[j]:=by simp [List.getD,List.getElem?_eq_getElem hj2]
    show Rep w _ noLay noH x ((f i).2.getD j undef)
    rw [hgd]
    exact (q2.2 j _ _ hj (List.getElem?_eq_getElem hj2)).1
  rw [hlen] at hrep
  exact hrep
theorem cut2 {α:Type} {l:List α} {a b:Nat} (h:l.length=a + b):l=l.take a++(l.drop a).take b:=by
 rw [List.take_of_length_le (l:=l.drop a) (by simp; omega),List.take_append_drop]
theorem op_struct3 {t:TypeId} {f0 f1 f2:Field} {n0 n1 n2:Nat} {α β δ γ:Type} {c0:α->List AV} {c1:β->List AV} {c2:δ->List AV} {c:γ->List AV} (hu:P.underlying t=some (.struct #[f0,f1,f2])) (hc:P.cellsOf t=n0 + (n1 + n2))
  (h0:f0.offset=0/\P.cellsOf f0.type=n0) (h1:f1.offset=n0/\P.cellsOf f1.type=n1) (h2:f2.offset=n0 + n1/\P.cellsOf f2.type=n2) (o0:Opn enc P w f0.type c0) (o1:Opn enc P w f1.type c1) (o2:Opn enc P w f2.type c2) (hj:∀ a b d,∃ x,c x=c0 a++(c1 b++c2 d)):Opn enc P w t c:=by
 intro fuel cs x h
 obtain ⟨xs,n,_,_,hl,hxl,hel⟩:=DataW.trod_struct hu h
 have hx:xs.length=3:=hxl
 have e0:=hel 0 f0 rfl
 have e1:=hel 1 f1 rfl
 have e2:=hel 2 f2 rfl
 rw [h0.1,h0.2] at e0
 rw [h1.1,h1.2] at e1
 rw [h2.1,h2.2] at e2
 rw [List.getElem?_eq_getElem (by omega)] at e0 e1 e2
 obtain ⟨a,ra⟩:=o0 n _ _ e0
 obtain ⟨b,rb⟩:=o1 n _ _ e1
 obtain ⟨d,rd⟩:=o2 n _ _ e2
 obtain ⟨y,hy⟩:=hj a b d
 refine ⟨y,?_⟩
 have hcut:cs=cs.take n0++((cs.drop n0).take n1++(cs.drop (n0 + n1)).take n2):=by
  rw [<-List.drop_drop,<-cut2 (l:=cs.drop n0) (by simp; omega),List.take_append_drop]
 rw [hy,hcut]
 exact RC.append (by simpa using ra) (RC.append rb rd)
theorem op_struct4 {t:TypeId} {f0 f1 f2 f3:Field} {n0 n1 n2 n3:Nat} {α β δ ε γ:Type} {c0:α->List AV} {c1:β->List AV} {c2:δ->List AV} {c3:ε->List AV} {c:γ->List AV} (hu:P.underlying t=some (.struct #[f0,f1,f2,f3])) (hc:P.cellsOf t=n0 + (n1 + (n2 + n3)))
  (h0:f0.offset=0/\P.cellsOf f0.type=n0) (h1:f1.offset=n0/\P.cellsOf f1.type=n1) (h2:f2.offset=n0 + n1/\P.cellsOf f2.type=n2) (h3:f3.offset=n0 + n1 + n2/\P.cellsOf f3.type=n3) (o0:Opn enc P w f0.type c0) (o1:Opn enc P w f1.type c1) (o2:Opn enc P w f2.type c2) (o3:Opn enc P w f3.type c3) (hj:∀ a b d e,∃ x,c x=c0 a++(c1 b++(c2 d++c3 e))):Opn enc P w t c:=by
 intro fuel cs x h
 obtain ⟨xs,n,_,_,hl,hxl,hel⟩:=DataW.trod_struct hu h
 have hx:xs.length=4:=hxl
 have e0:=hel 0 f0 rfl
 have e1:=hel 1 f1 rfl
 have e2:=hel 2 f2 rfl
 have e3:=hel 3 f3 rfl
 rw [h0.1,h0.2] at e0
 rw [h1.1,h1.2] at e1
 rw [h2.1,h2.2] at e2
 rw [h3.1,h3.2] at e3
 rw [List.getElem?_eq_getElem (by omega)] at e0 e1 e2 e3
 obtain ⟨a,ra⟩:=o0 n _ _ e0
 obtain ⟨b,rb⟩:=o1 n _ _ e1
 obtain ⟨d,rd⟩:=o2 n _ _ e2
 obtain ⟨e,re⟩:=o3 n _ _ e3
 obtain ⟨y,hy⟩:=hj a b d e
 refine ⟨y,?_⟩
 have hcut:cs=cs.take n0++((cs.drop n0).take n1++((cs.drop (n0 + n1)).take n2++(cs.drop (n0 + n1 + n2)).take n3)):=by
  have q1:(cs.drop (n0 + n1)).take n2++(cs.drop (n0 + n1 + n2)).take n3=cs.drop (n0 + n1):=by
   rw [<-List.drop_drop (i:=n2) (j:=n0 + n1),<-cut2 (l:=cs.drop (n0 + n1)) (by simp; omega)]
  have q2:(cs.drop n0).take n1++cs.drop (n0 + n1)=cs.drop n0:=by rw [<-List.drop_drop,List.take_append_drop]
  rw [q1,q2,List.take_append_drop]
 rw [hy,hcut]
 exact RC.append (by simpa using ra) (RC.append rb (RC.append rd re))
theorem open_op {r:Reach} {b0:Nat} {t:TypeId} {v:Value} {d:DataW H} {p:List MemPlace} {α:Type} {c:α->List AV} (ho:Opn enc P w t c) (ha:(match P.underlying t with | some (.array _ _) | some (.struct _)=>true | _=>false)=true)
  (hv:Value.okWide P w r b0 t v) (h:DataW.Trod enc P w 0 (fun _=>true) true t v d p):∃ a:α,Rep w (fun _=>False) noLay noH (.agg (c a)) v:=by
 have hagg:∃ cs,v=.agg cs:=by
  unfold Value.okWide at hv
  split at hv
  · obtain ⟨cs,h,_⟩:=hv; exact ⟨cs,h⟩
  · obtain ⟨cs,h,_⟩:=hv; exact ⟨cs,h⟩
  ·
   rename_i h1 h2
   split at ha
   · rename_i hu; exact absurd hu (by simp_all)
   · rename_i hu; exact absurd hu (by simp_all)
   · simp at ha
 obtain ⟨cs,rfl⟩:=hagg
 obtain ⟨fuel,hfu⟩:=h
 obtain ⟨a,ra⟩:=ho fuel _ _ hfu
 exact ⟨a,ra.agg⟩
theorem open_opS {r:Reach} {b0 k:Nat} {t e:TypeId} {v:Value} {d:DataW H} {p:List MemPlace} {α:Type} {c:α->List AV} (ht:P.underlying t=some (.slice e)) (hk:P.cellsOf e=k) (h0:0 < k) (he:Opn enc P w e c)
  (hv:Value.okWide P w r b0 t v) (h:DataW.Trod enc P w 0 (fun _=>true) true t v d p):∃ L:List α,Rep w (fun _=>False) noLay noH (.sl k (rows c L)) v:=by
 obtain ⟨a,len,cap,rfl⟩:=okWide_slice ht hv
 obtain ⟨fuel,hfu⟩:=h
 obtain ⟨L,rl⟩:=op_slice ht hk h0 he fuel _ _ hfu
 exact ⟨L,(rl.2 0 _ _ rfl rfl).1⟩
end
end Go.Proofs.Ytfbooejaabdkoaa.AE
