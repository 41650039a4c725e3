/-
 A plain machine for the code of functions, and its soundness: a map of one's own that counts by pairs of numbers. Conditions: none; every lemma names its own.
-/
import Derived.Test.YtjoaigccapegpaaPc
set_option linter.constructorNameAsVariable false
namespace Go.Proofs.Ytjoaigccapegpaa.AE
open Go Go.RowKit
set_option linter.unusedVariables false
set_option linter.unusedSimpArgs false
def flatV:AV->Bool
 | .u | .int _ _ | .bool _ | .str _ | .nils | .nilp | .nili | .own _ _ | .ref _ _=>true
 | .agg cs=>cs.all light
 | .sl _ L=>L.all fun x=>x.all light
 | _=>false
def flatB:Box->Bool
 | .obj cs=>cs.all light
 | .row _ _ L _=>L.all fun x=>x.all light
 | .dead=>true
theorem light_w {w w':World} {M:Nat->Prop} {μ:Lay} {H:Heap} {v:AV} {x:Value} (hl:light v=true) (h:Rep w M μ H v x):Rep w' M μ H v x:=by
 cases h with
 | int=>exact .int _ _ _
 | bool=>exact .bool _ _
 | str=>exact .str _ _
 | nils=>exact .nils _
 | nilp=>exact .nilp _
 | nili=>exact .nili _
 | sl _ k L a c f hc hm hk hv hr=>
  cases L with
  | nil=>exact .sl _ _ _ _ _ f hc hm (by simp) (by simp) (by simp)
  | cons z L=>simp [light] at hl
 | _=>simp [light] at hl
section
variable {w w':World} {g:Nat} {es:Array MapEntry} {c:Nat}
theorem cellAt_w (hw:∀ i,i ≠ g->w'.heap[i]?=w.heap[i]?) (hg:w.heap[g]?=some (.map es c)) {M:Nat->Prop} {a:Option Addr} {j:Nat} {x:Value} (h:CellAt w M a j x):CellAt w' M a j x:=by
 obtain ⟨b,off,h1,h2,h3,h4⟩:=h
 refine ⟨b,off,h1,h2,?_,h4⟩
 by_cases e:b=g
 ·
  subst e
  simp [World.cell?,hg] at h3
 ·
  rw [World.cell?_of_block (w:=w) (hw b e)]
  exact h3
theorem flat_w (hw:∀ i,i ≠ g->w'.heap[i]?=w.heap[i]?) (hg:w.heap[g]?=some (.map es c)) {M:Nat->Prop} {μ:Lay} {H:Heap} {v:AV} {x:Value} (hl:flatV v=true) (h:Rep w M μ H v x):Rep w' M μ H v x:=by
 cases h with
 | u=>exact .u _ _
 | int=>exact .int _ _ _
 | bool=>exact .bool _ _
 | str=>exact .str _ _
 | nils=>exact .nils _
 | nilp=>exact .nilp _
 | nili=>exact .nili _
 | own _ b n e sz L z hH hn=>exact .own _ _ _ _ _ _ _ hH hn
 | ownd _ b n v hH h1=>exact .ownd _ _ _ _ hH h1
 | ref _ b o cs b' c' hH hμ=>exact .ref _ _ _ _ _ c' hH hμ
 | agg _ cs vs f hs hv hr=>exact .agg _ _ _ f hs hv fun i y hy=>light_w (List.all_eq_true.1 hl y (List.mem_of_getElem? hy)) (hr i y hy)
 | sl _ k L a c' f hc hm hk hv hr=>
  refine .sl _ _ _ _ _ f hc hm hk (fun i j hi hj=>cellAt_w hw hg (hv i j hi hj)) fun i j xs y hi hj=>light_w ?_ (hr i j xs y hi hj)
  exact List.all_eq_true.1 (List.all_eq_true.1 hl xs (List.mem_of_getElem? hi)) y (List.mem_of_getElem? hj)
 | _=>simp [flatV] at hl
end
theorem ofL_or (i:Nat):∀ (tl:List (Nat × AV)),ofL tl i=.u\/∃ p ∈ tl,p.1=i/\ofL tl i=p.2
 | []=>.inl rfl
 | (d,v) :: tl=>by
  simp only [ofL,fput]
  by_cases e:i=d
  · exact .inr ⟨(d,v),by simp,e.symm,by rw [if_pos e]⟩
  ·
   rw [if_neg e]
   rcases ofL_or i tl with h | ⟨p,h1,h2,h3⟩
   · exact .inl h
   · exact .inr ⟨p,by simp [h1],h2,h3⟩
section
variable {Γ:Ctx} {s:St} {μ:Lay} {a:Act} {w:World} {env:Env} {Q:X->St->Prop}
def hlOK:List (Bid × Box)->Bool
 | []=>true
 | (_,x) :: l=>flatB x && hlOK l
theorem hlOK_mem:∀ {l:List (Bid × Box)},hlOK l=true->∀ p ∈ l,flatB p.2=true
 | (i,v) :: l,h,p,hp=>by
  simp only [hlOK,Bool.and_eq_true] at h
  rcases List.mem_cons.1 hp with rfl | hp
  · exact h.1
  · exact hlOK_mem h.2 p hp
theorem Rel.mapset {w':World} {g:Nat} {es es':Array MapEntry} {c c':Nat} (h:Rel Γ s μ a w) (hH:∀ b x,s.H b=some x->flatB x=true) {t':Nat->AV} (ht:∀ i,t' i=.u\/(flatV (t' i)=true/\s.t i=t' i)\/(t' i=.mpv g es' c'/\s.t i=.mpv g es c))
  (hg0:Γ.w0.heap.size<=g) (hg:w.heap[g]?=some (.map es c)) (hw:∀ i,i ≠ g->w'.heap[i]?=w.heap[i]?) (hg':w'.heap[g]?=some (.map es' c')) (hos:w'.os=w.os) (htp:w'.tape=w.tape) (hou:w'.output=w.output) (hsz:w'.heap.size=w.heap.size) :
  Rel Γ ⟨t',s.H⟩ μ a w':=by
 refine ⟨h.hd.mono fun D _ hD=>hw D (by rintro rfl; rw [hg] at hD; cases hD),h.hn,h.hx,fun i=>?_,fun b x hb=>?_,h.hi,h.hf,?_,h.hp⟩
 ·
  show Rep w' (forb Γ.Mx μ s.H) μ s.H (t' i) _
  have hi:=h.ht i
  rcases ht i with e | ⟨q1,q2⟩ | ⟨q1,q2⟩
  · rw [e]; exact .u _ _
  ·
   rw [q2] at hi
   exact flat_w hw hg q1 hi
  ·
   rw [q2] at hi
   rw [q1]
   generalize a.tmps.getD i undef=v at hi
   cases hi with
   | mpv _ _ _ _ hM hg=>exact .mpv _ _ _ _ hM hg'
 ·
  have hfb:flatB x=true:=hH b x hb
  rcases h.hb b x hb with q | ⟨k,n,cur,e,q1,q2,q3⟩ | q
  · exact .inl q
  ·
   refine .inr (.inl ⟨k,n,cur,e,q1,(hw k (by rintro rfl; rw [hg] at q2; cases q2)).trans q2,?_⟩)
   cases x with
   | obj cs=>
    refine ⟨q3.1,fun i y hy=>?_⟩
    obtain ⟨v,v1,v2,v3⟩:=q3.2 i y hy
    exact ⟨v,v1,v2,light_w (List.all_eq_true.1 hfb y (List.mem_of_getElem? hy)) v3⟩
   | row e' sz L z=>
    obtain ⟨p1,p2,p3,p4,p5,p6,p7⟩:=q3
    refine ⟨p1,p2,p3,p4,p5,p6,fun i j xs y hi hj=>?_⟩
    obtain ⟨v,v1,v2,v3⟩:=p7 i j xs y hi hj
    exact ⟨v,v1,v2,light_w (List.all_eq_true.1 (List.all_eq_true.1 hfb xs (List.mem_of_getElem? hi)) y (List.mem_of_getElem? hj)) v3⟩
   | dead=>exact q3.elim
  · exact .inr (.inr q)
 ·
  refine ⟨hos.trans h.hw.os,htp.trans h.hw.tape,hou.trans h.hw.output,hsz ▸ h.hw.size,fun k hk hn=>?_⟩
  rw [hw k (by omega)]
  exact h.hw.block k hk hn
theorem Rel.any {t:Nat->AV} {H:Heap} (h:Rel Γ ⟨t,H⟩ μ a w) {d:Option Tmp} (hd:∀ i,d=some i->i < Γ.n/\t i=.u) (x:Value):Rel Γ ⟨t,H⟩ μ (a.put d x) w:=by
 have:=h.put (fun i hi=>(hd i hi).1) (x:=x) (.u _ _)
 have e:tput t d .u=t:=by
  funext i
  rw [tput_at]
  split
  · rename_i hi; rw [(hd i hi).2]
  · rfl
 simp only [e] at this
 exact this
theorem opsW_mkmap {ops:Array Oper} {o:Oper} {l:List Oper} {t:TypeId} (ho:o.op=.makeMap t none) (hg:o.guard=none)
  (h:∀ g,Γ.w0.heap.size<=g->opsW Γ env ops l ⟨tput s.t o.dst (.mpv g #[] 0),s.H⟩ Q):opsW Γ env ops (o :: l) s Q:=by
 intro henv hok μ a w hR
 refine wpList_step fun K hK=>?_
 rw [if_pos (by simp [Region.wanted,hg])]
 have hrun:(execOp a.eval o).run Γ.P w=.ok (.value (.map (some w.heap.size))) (w.alloc (.map #[] 0)):=by
  simp [execOp,ho,Instr.makeMap]
 refine wp_value hrun (hK _ _ ?_)
 have hgr:Rel Γ s μ a (w.alloc (.map #[] 0)):=hR.grow ⟨rfl,rfl,rfl,by show w.heap.size<=(w.heap.push _).size; simp,fun k hk=>by show (w.heap.push _)[k]?=_; rw [Array.getElem?_push,if_neg (by omega)]⟩
 refine h w.heap.size hR.hw.size henv (fun o ho=>hok o (by simp [ho])) μ _ _ (hgr.put (opOK_dst (hok o (by simp))) (.mpv _ _ _ _ ?_ (by show (w.heap.push _)[w.heap.size]?=_; simp)))
 rintro (hx | ⟨b,x,n,h1,h2,h3⟩)
 ·
  have:=(hR.hx _ hx).1
  have:=hR.hw.size
  omega
 ·
  rcases hR.hb b x h1 with rfl | ⟨k,n',cur,e,q1,q2,q3⟩ | ⟨q,_⟩
  · cases h2
  ·
   rw [q1] at h3
   cases h3
   have:=(Array.getElem?_eq_some_iff.1 q2).1
   omega
  · rw [q] at h3; cases h3
end
abbrev CM:=List ((Int × Int) × Int)
def idV (k:Int × Int):Value:=.agg #[.int .i64 k.1,.int .i64 k.2]
def mkE:CM->Nat->List MapEntry
 | [],_=>[]
 | (k,n) :: r,i=>⟨idV k,.int .i64 n,i⟩ :: mkE r (i + 1)
theorem mkE_len:∀ (m:CM) (i:Nat),(mkE m i).length=m.length
 | [],i=>rfl
 | (k,n) :: r,i=>by simp [mkE,mkE_len r (i + 1)]
theorem mkE_get:∀ (m:CM) (i j:Nat),(mkE m i)[j]?=(m[j]?).map fun p=>⟨idV p.1,.int .i64 p.2,i + j⟩
 | [],i,j=>by simp [mkE]
 | (k,n) :: r,i,0=>by simp [mkE]
 | (k,n) :: r,i,j + 1=>by
  simp only [mkE,List.getElem?_cons_succ,mkE_get r (i + 1) j]
  rw [show i + 1 + j=i + (j + 1) by omega]
theorem mkE_snoc:∀ (m:CM) (i:Nat) (p:(Int × Int) × Int),mkE (m++[p]) i=mkE m i++[⟨idV p.1,.int .i64 p.2,i + m.length⟩]
 | [],i,(k,n)=>by simp [mkE]
 | (k,n) :: r,i,p=>by
  simp only [List.cons_append,mkE,mkE_snoc r (i + 1) p,List.length_cons]
  rw [show i + 1 + r.length=i + (r.length + 1) by omega]
def getM:CM->Int × Int->Int
 | [],_=>0
 | (k',n) :: r,k=>if k=k' then n else getM r k
def posM:CM->Int × Int->Nat
 | [],_=>0
 | (k',_) :: r,k=>if k=k' then 0 else posM r k + 1
def hasM:CM->Int × Int->Bool
 | [],_=>false
 | (k',_) :: r,k=>decide (k=k') || hasM r k
def entM (m:CM) (k:Int × Int):CM:=if hasM m k=true then m else m++[(k,0)]
def updM:CM->Int × Int->Int->CM
 | [],k,v=>[(k,v)]
 | (k',n) :: r,k,v=>if k=k' then (k,v) :: r else (k',n) :: updM r k v
theorem getM_upd:∀ (m:CM) (k k':Int × Int) (v:Int),getM (updM m k v) k'=if k'=k then v else getM m k'
 | [],k,k',v=>rfl
 | (q,n) :: r,k,k',v=>by
  simp only [updM]
  by_cases h:k=q
  ·
   subst h
   rw [if_pos rfl]
   simp only [getM]
   split <;> rfl
  ·
   rw [if_neg h]
   simp only [getM,getM_upd r]
   by_cases h2:k'=q
   ·
    subst h2
    rw [if_pos rfl,if_pos rfl,if_neg (fun e=>h e.symm)]
   · rw [if_neg h2,if_neg h2]
theorem posM_lt:∀ {m:CM} {k:Int × Int},hasM m k=true->posM m k < m.length/\m[posM m k]?=some (k,getM m k)
 | (q,n) :: r,k,h=>by
  simp only [posM,getM]
  by_cases e:k=q
  · subst e; simp
  ·
   simp only [hasM,e,decide_false,Bool.false_or] at h
   obtain ⟨h1,h2⟩:=posM_lt h
   simp only [if_neg e,List.length_cons,List.getElem?_cons_succ]
   exact ⟨by omega,h2⟩
theorem noM:∀ {m:CM} {k:Int × Int},hasM m k=false->posM m k=m.length/\getM m k=0
 | [],k,h=>⟨rfl,rfl⟩
 | (q,n) :: r,k,h=>by
  simp only [hasM,Bool.or_eq_false_iff,decide_eq_false_iff_not] at h
  obtain ⟨h1,h2⟩:=noM h.2
  simp only [posM,getM,if_neg h.1,List.length_cons,h1,h2,and_self]
theorem upd_set:∀ (m:CM) (k:Int × Int) (v:Int),(entM m k).set (posM m k) (k,v)=updM m k v
 | [],k,v=>rfl
 | (q,n) :: r,k,v=>by
  have ih:=upd_set r k v
  unfold entM at ih ⊢
  by_cases e:k=q
  ·
   subst e
   simp [hasM,posM,updM]
  ·
   simp only [hasM,e,decide_false,Bool.false_or,posM,updM,if_false]
   split
   · rename_i h; rw [if_pos h] at ih; simp [ih]
   · rename_i h; rw [if_neg h] at ih; simp [ih]
theorem hasM_snoc:∀ (m:CM) (k q:Int × Int) (n:Int),hasM (m++[(q,n)]) k=(hasM m k || decide (k=q))
 | [],k,q,n=>by simp [hasM]
 | (p,j) :: r,k,q,n=>by simp [hasM,hasM_snoc r,Bool.or_assoc]
theorem ent_get (m:CM) (k:Int × Int):getM (entM m k) k=getM m k/\hasM (entM m k) k=true/\posM (entM m k) k=posM m k:=by
 unfold entM
 split
 · exact ⟨rfl,by assumption,rfl⟩
 ·
  rename_i h
  have key:∀ (m:CM),hasM m k=false->getM (m++[(k,0)]) k=0/\posM (m++[(k,0)]) k=m.length:=by
   intro m
   induction m with
   | nil=>intro _; simp [getM,posM]
   | cons p r ih=>
    intro h
    obtain ⟨q,n⟩:=p
    simp only [hasM,Bool.or_eq_false_iff,decide_eq_false_iff_not] at h
    obtain ⟨h1,h2⟩:=ih h.2
    simp only [List.cons_append,getM,posM,if_neg h.1,h1,h2,List.length_cons,and_self]
  have h':hasM m k=false:=by simpa using h
  obtain ⟨h1,h2⟩:=key m h'
  obtain ⟨h3,h4⟩:=noM h'
  exact ⟨by rw [h1,h4],by rw [hasM_snoc]; simp,by rw [h2,h3]⟩
structure IdMap (P:Program) (T kt et:TypeId):Prop where
 ut:P.underlying T=some (.map kt et)
 kd:∃ fs,P.underlying kt=some (.struct fs)
 zero:∀ w,(zeroValue et).run P w=.ok (.int .i64 0) w
 check:∀ (e:Bool) (k:Int × Int) (w:World),(Instr.checkKey e 10000 kt (idV k)).run P w=.ok () w
 eq:∀ (k k':Int × Int) (w:World),(Op.equal kt (idV k) (idV k')).run P w=.ok (decide (k=k')) w
theorem idMap_of {P:Program} {T kt et:TypeId} {f1 f2:Field} (h1:P.underlying T=some (.map kt et)) (h2:P.underlying kt=some (.struct #[f1,f2])) (o1:f1.offset=0) (o2:f2.offset=1) (u1:P.underlying f1.type=some (.int .i64)) (u2:P.underlying f2.type=some (.int .i64))
  (hz:(P.info? et).bind (·.zero)=some (.int .i64 0)) (hk:kindsAt P 3 kt=some [.int .i64,.int .i64]):IdMap P T kt et:=by
 refine ⟨h1,⟨_,h2⟩,fun w=>?_,fun e k w=>?_,fun k k' w=>?_⟩
 ·
  cases hq:P.info? et with
  | none=>rw [hq] at hz; cases hz
  | some q=>rw [hq] at hz; exact run_zero' hq hz
 ·
  obtain ⟨r,s⟩:=k
  have key:∀ n,(Instr.checkKey e (n + 1 + 1) kt (.agg #[.int .i64 r,.int .i64 s])).run P w=.ok () w:=by
   intro n
   have c1:(Instr.checkKey e (n + 1) f1.type (.int .i64 r)).run P w=.ok () w:=by simp [Instr.checkKey,run_underlying u1]
   have c2:(Instr.checkKey e (n + 1) f2.type (.int .i64 s)).run P w=.ok () w:=by simp [Instr.checkKey,run_underlying u2]
   have p1:(part f1.type #[.int .i64 r,.int .i64 s] f1.offset).run P w=.ok (.int .i64 r) w:=by simp [part,isAgg,run_underlying u1,o1]
   have p2:(part f2.type #[.int .i64 r,.int .i64 s] f2.offset).run P w=.ok (.int .i64 s) w:=by simp [part,isAgg,run_underlying u2,o2]
   generalize hm:n + 1=m at c1 c2
   unfold Instr.checkKey
   simp only [Sem.run_bind,run_underlying h2,Result.andThen_ok]
   rw [<-Array.forIn_toList]
   simp only [List.forIn_cons,List.forIn_nil,Sem.run_bind,apply_ite]
   split <;> split <;> simp [p1,p2,c1,c2]
  exact key 9998
 ·
  have:=equal_k (P:=P) (w:=w) 9997 3 kt [.int .i64,.int .i64] [.int .i64 k.1,.int .i64 k.2] [.int .i64 k'.1,.int .i64 k'.2] (k.1 == k'.1 && k.2 == k'.2) hk rfl (by simp [eqvs,eqv,both])
  have e:decide (k=k')=(k.1 == k'.1 && k.2 == k'.2):=by
   rw [Bool.eq_iff_iff]
   simp [Prod.ext_iff]
  rw [e]
  simpa [valK,h2,toV,idV,Op.equal,Op.maxDepth] using this
section
variable {P:Program} {T kt et:TypeId}
theorem run_asking (I:IdMap P T kt et) (k:Int × Int) (w:World):∀ (m:CM) (i j:Nat),(Instr.findAsking kt (idV k) (mkE m i) j).run P w=.ok (if hasM m k=true then some (j + posM m k,.int .i64 (getM m k)) else none) w
 | [],i,j=>by simp [mkE,Instr.findAsking,hasM]
 | (q,n) :: r,i,j=>by
  simp only [mkE,Instr.findAsking,Sem.run_bind,I.eq,Result.andThen_ok]
  by_cases e:k=q
  ·
   subst e
   simp [hasM,posM,getM]
  ·
   simp only [e,decide_false,Bool.false_eq_true,if_false,run_asking I k w r (i + 1) (j + 1),hasM,Bool.false_or,posM,getM]
   split
   · rw [show j + 1 + posM r k=j + (posM r k + 1) by omega]
   · rfl
theorem run_find (I:IdMap P T kt et) (k:Int × Int) (w:World) (m:CM) (i:Nat):(Instr.findKey kt (idV k) (mkE m i)).run P w=.ok (if hasM m k=true then some (posM m k,.int .i64 (getM m k)) else none) w:=by
 obtain ⟨fs,hk⟩:=I.kd
 have hr:=run_asking I k w m i 0
 simp only [Nat.zero_add] at hr
 cases m with
 | nil=>simp [Instr.findKey,run_underlying hk,mkE,Instr.findNow,hasM]
 | cons p r=>
  obtain ⟨q,n⟩:=p
  simp only [Instr.findKey,Sem.run_bind,run_underlying hk,Result.andThen_ok,mkE,Instr.findNow,Instr.sameNow]
  exact hr
theorem run_lookupM (I:IdMap P T kt et) {w:World} {g:Nat} {m:CM} {c:Nat} (hg:w.heap[g]?=some (.map (mkE m 0).toArray c)) (k:Int × Int):(Instr.lookup T (.map (some g)) (idV k) false).run P w=.ok (.int .i64 (getM m k)) w:=by
 have hf:=run_find I k w m 0
 simp only [Instr.lookup,Sem.run_bind,run_underlying I.ut,Result.andThen_ok,Go.MapKept.run_getObj_map hg,Sem.run_pure,I.check,hf]
 cases h:hasM m k with
 | true=>simp
 | false=>
  simp only [Bool.false_eq_true,if_false,Sem.run_bind,I.zero,Result.andThen_ok,Sem.run_pure]
  rw [(noM h).2]
theorem stays_idV (k:Int × Int) (w:World):(Instr.keyThatStays (idV k) (idV k)).run P w=.ok (idV k) w:=by
 have:Instr.sameBits 10000 (idV k) (idV k)=true:=by simp [idV,Instr.sameBits]
 simp [Instr.keyThatStays,this]
theorem modify_same {es:Array MapEntry} {i:Nat} {e:MapEntry} (h:es[i]?=some e):es.modify i (fun x=>{ x with key:=e.key })=es:=by
 apply Array.ext_getElem?
 intro j
 rw [Array.getElem?_modify]
 split
 ·
  rename_i hj
  subst hj
  rw [h]; rfl
 · rfl
theorem run_entryM (I:IdMap P T kt et) {w:World} {g:Nat} {m:CM} (hg:w.heap[g]?=some (.map (mkE m 0).toArray m.length)) (k:Int × Int) :
  ∃ w',(Instr.mapEntry T (.map (some g)) (idV k)).run P w=.ok (.tuple #[.int .i64 (getM m k),goInt (posM m k)]) w'/\w'={ w with heap:=w.heap.setIfInBounds g (.map (mkE (entM m k) 0).toArray (entM m k).length) }:=by
 have hf:=run_find I k w m 0
 refine ⟨_,?_,rfl⟩
 simp only [Instr.mapEntry,Sem.run_bind,run_underlying I.ut,Result.andThen_ok,Go.MapKept.run_getObj_map hg,I.check,hf]
 cases h:hasM m k with
 | true=>
  obtain ⟨h1,h2⟩:=posM_lt h
  have hget:(mkE m 0).toArray[posM m k]?=some ⟨idV k,.int .i64 (getM m k),posM m k⟩:=by
   simp [mkE_get,h2]
  simp only [if_true,Sem.run_bind,hget,Option.map_some,Option.getD_some,stays_idV,Result.andThen_ok,Go.MapKept.run_setObj_map _ hg,Sem.run_pure,entM,h]
  have:=modify_same hget
  simp only at this
  rw [this]
 | false=>
  obtain ⟨h3,h4⟩:=noM h
  simp only [Bool.false_eq_true,if_false,Sem.run_bind,I.zero,Result.andThen_ok,Go.MapKept.run_setObj_map _ hg,Sem.run_pure,entM,h,mkE_snoc,h3,h4,Nat.zero_add,List.length_append,List.length_singleton,List.push_toArray]
theorem findIdx_born (m:CM) {j:Nat} (h:j < m.length):(mkE m 0).toArray.findIdx? (fun e=>(e.born:Int) == (j:Int))=some j:=by
 rw [List.findIdx?_toArray,List.findIdx?_eq_some_iff_getElem]
 refine ⟨by rw [mkE_len]; exact h,?_,fun i hi=>?_⟩
 ·
  have:=mkE_get m 0 j
  rw [List.getElem?_eq_getElem (by rw [mkE_len]; exact h),List.getElem?_eq_getElem h] at this
  simp only [Option.map_some,Option.some.injEq,Nat.zero_add] at this
  rw [this]; simp
 ·
  have:=mkE_get m 0 i
  rw [List.getElem?_eq_getElem (by rw [mkE_len]; omega),List.getElem?_eq_getElem (by omega)] at this
  simp only [Option.map_some,Option.some.injEq,Nat.zero_add] at this
  rw [this]; simp; omega
theorem mkE_set:∀ (m:CM) (i j:Nat) (p:(Int × Int) × Int),(∃ n,m[j]?=some (p.1,n))->(mkE m i).modify j (fun e=>{ e with val:=.int .i64 p.2 })=mkE (m.set j p) i
 | [],i,j,p,h=>by obtain ⟨n,hn⟩:=h; simp at hn
 | (k,n) :: r,i,0,(k',v),h=>by
  obtain ⟨n',hn⟩:=h
  simp only [List.getElem?_cons_zero,Option.some.injEq,Prod.mk.injEq] at hn
  obtain ⟨rfl,_⟩:=hn
  rfl
 | (k,n) :: r,i,j + 1,p,h=>by
  have:=mkE_set r (i + 1) j p (by simpa using h)
  simp only [mkE,List.set_cons_succ,List.modify_succ_cons,this]
theorem run_storeM {w:World} {g:Nat} {m:CM} {c:Nat} (hg:w.heap[g]?=some (.map (mkE m 0).toArray c)) {j:Nat} {k:Int × Int} {n v:Int} (hj:m[j]?=some (k,n)) :
  (Instr.entryStore T (.map (some g)) (goInt j) (.int .i64 v)).run P w=.ok () { w with heap:=w.heap.setIfInBounds g (.map (mkE (m.set j (k,v)) 0).toArray c) }:=by
 have hlt:=(List.getElem?_eq_some_iff.1 hj).1
 simp only [Instr.entryStore,Sem.run_bind,Go.MapKept.run_getObj_map hg,Result.andThen_ok,goInt,asInt,asIntOf,Sem.run_pure,findIdx_born m hlt,Go.MapKept.run_setObj_map _ hg]
 rw [List.modify_toArray,mkE_set m 0 j (k,v) ⟨n,hj⟩]
end
section
variable {Γ:Ctx} {s:St} {μ:Lay} {a:Act} {w:World} {env:Env} {Q:X->St->Prop}
theorem rep_idV {M:Nat->Prop} {H:Heap} {r q:Int} {x:Value} (h:Rep w M μ H (.agg [.int .i64 r,.int .i64 q]) x):x=idV (r,q):=by
 cases h with
 | agg _ _ vs f hs hv hr=>
  have h0:=hr 0 _ rfl
  have h1:=hr 1 _ rfl
  have e0:=(hv 0 (by simp)).1
  have e1:=(hv 1 (by simp)).1
  rw [h0.int_inv] at e0
  rw [h1.int_inv] at e1
  simp only [idV,Value.agg.injEq]
  apply Array.ext_getElem?
  intro i
  match i with
  | 0=>rw [e0]; rfl
  | 1=>rw [e1]; rfl
  | i + 2=>rw [Array.getElem?_eq_none (by rw [hs]; simp),Array.getElem?_eq_none (by simp)]
theorem rep_mpv {M:Nat->Prop} {H:Heap} {g:Nat} {es:Array MapEntry} {c:Nat} {x:Value} (h:Rep w M μ H (.mpv g es c) x):x=.map (some g)/\w.heap[g]?=some (.map es c)/\¬ M g:=by
 cases h with
 | mpv _ _ _ _ hM hg=>exact ⟨rfl,hg,hM⟩
theorem opsW_lookup {T kt et:TypeId} (I:IdMap Γ.P T kt et) {ops:Array Oper} {o:Oper} {l:List Oper} {x y:Operand} {g:Nat} {m:CM} {c:Nat} {r q:Int} (ho:o.op=.lookup T x y false) (hg:o.guard=none)
  (hx:eva s.t x=.mpv g (mkE m 0).toArray c) (hy:eva s.t y=.agg [.int .i64 r,.int .i64 q]) (h:opsW Γ env ops l ⟨tput s.t o.dst (.int .i64 (getM m (r,q))),s.H⟩ Q):opsW Γ env ops (o :: l) s Q:=by
 refine opsW_sim (r:=⟨.int .i64 (getM m (r,q)),[],[],[],none⟩) hg (fun μ a w hok hR=>?_) (H1:=s.H) rfl rfl h
 have h1:=eva_rep hR x
 have h2:=eva_rep hR y
 rw [hx] at h1
 rw [hy] at h2
 obtain ⟨e1,e2,_⟩:=rep_mpv h1
 refine simV hR (opOK_dst hok) ?_ (.int _ _ _)
 simp only [execOp,ho,e1,rep_idV h2]
 simp [run_lookupM I e2]
theorem opsK_step {ops:Array Oper} {o:Oper} {l:List Oper} {K:St->Trace->Prop} (h:opsK Γ env ops (o :: l) s K (fun _ _=>False)):∃ s1 c f,aStep (TI.of Γ.P) env ops o s=some ⟨s1,c,f,none⟩/\opsK Γ env ops l s1 (fun s' tr=>K s' ((c,f) :: tr)) (fun _ _=>False):=by
 unfold opsK aRun at h
 cases hs:aStep (TI.of Γ.P) env ops o s with
 | none=>rw [hs] at h; exact h.elim
 | some x=>
  obtain ⟨s',c,f,pan⟩:=x
  rw [hs] at h
  cases pan with
  | some v=>exact h.elim
  | none=>
   refine ⟨s',c,f,rfl,?_⟩
   unfold opsK
   simp only at h
   cases hr:aRun (TI.of Γ.P) env ops l s' with
   | done s2 tr=>rw [hr] at h; exact h
   | pan s2 v=>rw [hr] at h; exact h.elim
   | bad=>rw [hr] at h; exact h.elim
theorem wpOp_step {ops:Array Oper} {o:Oper} {i:Nat} {Q0:Exit->Act->World->Prop} (hR:Rel Γ s μ a w) (henv:EnvOK Γ.P env) (hok:opOK Γ.P Γ.n o=true) (hi:ops[i]?=some o) (hg:o.guard=none) {s1:St} {c f:List Bid} (hs:aStep (TI.of Γ.P) env ops o s=some ⟨s1,c,f,none⟩)
  {K:Act->World->Prop} (h:∀ μ' a' w',Rel Γ s1 μ' a' w'->K a' w'):wpOp Γ.P ops Q0 i K a w:=by
 unfold wpOp
 have hw:Region.wanted o (yielded ops a.tmps)=true:=by simp [Region.wanted,hg]
 simp only [hi,hw,if_true]
 have:=sim_step (K:=K) (Q:=Q0) hR hok henv hs ⟨fun _ μ' a' w' hR'=>h μ' a' w' hR',fun v hp=>by cases hp⟩
 rw [if_pos hw] at this
 exact .inl this
theorem wpOp_val {P:Program} {ops:Array Oper} {o:Oper} {i:Nat} {Q0:Exit->Act->World->Prop} (hi:ops[i]?=some o) (hg:o.guard=none) {w':World} {x:Value} (hrun:(execOp a.eval o).run P w=.ok (.value x) w')
  {K:Act->World->Prop} (h:K (a.put o.dst x) w'):wpOp P ops Q0 i K a w:=by
 unfold wpOp
 have hw:Region.wanted o (yielded ops a.tmps)=true:=by simp [Region.wanted,hg]
 simp only [hi,hw,if_true,Oper.wp,hrun,Oper.upon]
 exact .inl h
theorem wpOp_skip {P:Program} {ops:Array Oper} {o:Oper} {i:Nat} {Q0:Exit->Act->World->Prop} (hi:ops[i]?=some o) (hg:o.guard=none) {w':World} (hrun:(execOp a.eval o).run P w=.ok .skip w')
  {K:Act->World->Prop} (h:K (a.put o.dst undef) w'):wpOp P ops Q0 i K a w:=by
 unfold wpOp
 have hw:Region.wanted o (yielded ops a.tmps)=true:=by simp [Region.wanted,hg]
 simp only [hi,hw,if_true,Oper.wp,hrun,Oper.upon]
 exact .inl h
structure CountOps (T:TypeId) (l:List Oper) (o4 o5 o6 o7 o8:Oper):Prop where
 sz:l.length=9
 i4:l[4]?=some o4
 i5:l[5]?=some o5
 i6:l[6]?=some o6
 i7:l[7]?=some o7
 i8:l[8]?=some o8
 e4:o4.op=.lookup T (.tmp 28) (.tmp 31) false/\o4.dst=some 32/\o4.guard=none
 e5:(∃ t t',o5.op=.binOp .add t (.tmp 32) (.const (.int .i64 1)) t')/\o5.dst=some 33/\o5.guard=none
 e6:o6.op=.mapEntry T (.tmp 28) (.tmp 31)/\o6.dst=some 34/\o6.guard=none
 e7:o7.op=.extract (.tmp 34) 1/\o7.dst=some 35/\o7.guard=none
 e8:o8.op=.entryStore T (.tmp 28) (.tmp 35) (.tmp 33)/\o8.dst=none/\o8.guard=none
def lst (l:List Bool):Array Bool:=l.toArray
structure CountRdy (ops:Array Oper):Prop where
 r4:Region.ready .any ops (lst [true,true,true,true,false,false,false,false,false])=[4,6]
 r5:Region.ready .any ops (lst [true,true,true,true,true,false,false,false,false])=[5,6]
 r6:Region.ready .any ops (lst [true,true,true,true,true,true,false,false,false])=[6]
 r7:Region.ready .any ops (lst [true,true,true,true,true,false,true,false,false])=[5,7]
 r8:Region.ready .any ops (lst [true,true,true,true,true,true,true,false,false])=[7]
 r9:Region.ready .any ops (lst [true,true,true,true,true,true,true,true,false])=[8]
 q5:Region.ready .any ops (lst [true,true,true,true,false,false,true,false,false])=[4,7]
 q6:Region.ready .any ops (lst [true,true,true,true,false,false,true,true,false])=[4]
 q7:Region.ready .any ops (lst [true,true,true,true,true,false,true,true,false])=[5]
 rz:Region.ready .any ops (lst [true,true,true,true,true,true,true,true,true])=[]
theorem ev_ne {a:Act} {d i:Nat} {v:Value} (h:d ≠ i):(a.put (some d) v).eval (.tmp i)=a.eval (.tmp i):=by
 show (a.put (some d) v).tmps.getD i undef=a.tmps.getD i undef
 simp only [Act.put,Array.getD_eq_getD_getElem?,Array.getElem?_setIfInBounds]
 rw [if_neg h]
theorem ev_eq {a:Act} {d:Nat} {v:Value} (h:d < a.tmps.size):(a.put (some d) v).eval (.tmp d)=v:=by
 show (a.put (some d) v).tmps.getD d undef=v
 simp [Act.put,Array.getD_eq_getD_getElem?,h]
def tS (fl:List (Nat × AV)) (g:Nat) (m:CM):Nat->AV:=fput (ofL fl) 3 (.mpv g (mkE m 0).toArray m.length)
section
variable {T kt et:TypeId} {l:List Oper} {o4 o5 o6 o7 o8:Oper} {g:Nat} {m:CM} {k:Int × Int} {fl:List (Nat × AV)} {H:Heap} {Q0:Exit->Act->World->Prop}
structure CountEnv (Γ:Ctx) (T kt et:TypeId) (l:List Oper) (o4 o5 o6 o7 o8:Oper) (g:Nat) (fl:List (Nat × AV)) (H:Heap):Prop where
 I:IdMap Γ.P T kt et
 O:CountOps T l o4 o5 o6 o7 o8
 R:CountRdy l.toArray
 g0:Γ.w0.heap.size<=g
 hH:∀ b x,H b=some x->flatB x=true
 hf:∀ i,ofL fl i=.u\/flatV (ofL fl i)=true
 n:35 < Γ.n
 u:∀ d,28<=d->d<=35->ofL fl d=.u
theorem CountEnv.keep (E:CountEnv Γ T kt et l o4 o5 o6 o7 o8 g fl H) (h:Rel Γ ⟨tS fl g m,H⟩ μ a w) (d:Nat) (h1:28<=d) (h2:d<=35) (x:Value):Rel Γ ⟨tS fl g m,H⟩ μ (a.put (some d) x) w:=
 h.any (fun i hi=>by obtain rfl:d=i:=Option.some.inj hi; exact ⟨Nat.lt_of_le_of_lt h2 E.n,by simp only [tS,fput]; rw [if_neg (show d ≠ 3 by rintro rfl; exact absurd h1 (by decide))]; exact E.u d h1 h2⟩) x
theorem CountEnv.map (E:CountEnv Γ T kt et l o4 o5 o6 o7 o8 g fl H) (h:Rel Γ ⟨tS fl g m,H⟩ μ a w):w.heap[g]?=some (.map (mkE m 0).toArray m.length):=by
 have:=h.ht 3
 simp only [tS,fput,if_true] at this
 exact (rep_mpv this).2.1
theorem CountEnv.set (E:CountEnv Γ T kt et l o4 o5 o6 o7 o8 g fl H) (h:Rel Γ ⟨tS fl g m,H⟩ μ a w) (m':CM):Rel Γ ⟨tS fl g m',H⟩ μ a { w with heap:=w.heap.setIfInBounds g (.map (mkE m' 0).toArray m'.length) }:=by
 have hg:=E.map h
 have hlt:=(Array.getElem?_eq_some_iff.1 hg).1
 refine h.mapset (s:=⟨tS fl g m,H⟩) (es':=(mkE m' 0).toArray) (c':=m'.length) E.hH (fun i=>?_) E.g0 hg (fun i hi=>?_) ?_ rfl rfl rfl (by simp)
 ·
  simp only [tS,fput]
  by_cases e:i=3
  · rw [if_pos e,if_pos e]; exact .inr (.inr ⟨rfl,rfl⟩)
  ·
   rw [if_neg e,if_neg e]
   rcases E.hf i with q | q
   · exact .inl q
   · exact .inr (.inl ⟨q,rfl⟩)
 ·
  simp only [Array.getElem?_setIfInBounds]
  rw [if_neg (fun e=>hi e.symm)]
 · simp [Array.getElem?_setIfInBounds,hlt]
theorem count8 (E:CountEnv Γ T kt et l o4 o5 o6 o7 o8 g fl H) (hQ:∀ μ a w,Rel Γ ⟨tS fl g (updM m k (IntKind.i64.wrap (getM m k + 1))),H⟩ μ a w->Q0 .normal a w)
  (h:Rel Γ ⟨tS fl g (entM m k),H⟩ μ a w) (h28:a.eval (.tmp 28)=.map (some g)) (h33:a.eval (.tmp 33)=.int .i64 (IntKind.i64.wrap (getM m k + 1))) (h35:a.eval (.tmp 35)=goInt (posM m k)) :
  wpAny Γ.P .any l.toArray Q0 1 (lst [true,true,true,true,true,true,true,true,false]) a w:=by
 refine wpAny_all E.R.r9 (by simp) fun i hi=>?_
 rw [List.mem_singleton] at hi
 subst hi
 obtain ⟨q1,q2,q3⟩:=ent_get m k
 obtain ⟨p1,p2⟩:=posM_lt q2
 rw [q3,q1] at p2
 have hst:=run_storeM (T:=T) (P:=Γ.P) (E.map h) (v:=IntKind.i64.wrap (getM m k + 1)) p2
 rw [upd_set] at hst
 refine wpOp_skip (o:=o8) (by simpa using E.O.i8) E.O.e8.2.2 (by simp only [execOp,E.O.e8.1,h28,h33,h35,Sem.run_bind,hst,Result.andThen_ok,Sem.run_pure]; rfl) ?_
 refine wpAny_done ?_ ?_ _
 · exact E.R.rz
 ·
  rw [E.O.e8.2.1]
  have hlen:(updM m k (IntKind.i64.wrap (getM m k + 1))).length=(entM m k).length:=by rw [<-upd_set]; simp
  have:=E.set h (updM m k (IntKind.i64.wrap (getM m k + 1)))
  rw [hlen] at this
  exact hQ _ _ _ this
theorem CountEnv.run4 (E:CountEnv Γ T kt et l o4 o5 o6 o7 o8 g fl H) (h:Rel Γ ⟨tS fl g m,H⟩ μ a w) (h28:a.eval (.tmp 28)=.map (some g)) (h31:a.eval (.tmp 31)=idV k):(execOp a.eval o4).run Γ.P w=.ok (.value (.int .i64 (getM m k))) w:=by
 simp only [execOp,E.O.e4.1,h28,h31]
 simp [run_lookupM E.I (E.map h)]
theorem CountEnv.run5 (E:CountEnv Γ T kt et l o4 o5 o6 o7 o8 g fl H) {n:Int} (h32:a.eval (.tmp 32)=.int .i64 n) (w:World):(execOp a.eval o5).run Γ.P w=.ok (.value (.int .i64 (IntKind.i64.wrap (n + 1)))) w:=by
 obtain ⟨⟨t,t',e⟩,_⟩:=E.O.e5
 have hc:a.eval (.const (.int .i64 1))=.int .i64 1:=rfl
 simp [execOp,e,h32,hc,eqGuard,binOp,Op.intArith]
theorem CountEnv.run6 (E:CountEnv Γ T kt et l o4 o5 o6 o7 o8 g fl H) (h:Rel Γ ⟨tS fl g m,H⟩ μ a w) (h28:a.eval (.tmp 28)=.map (some g)) (h31:a.eval (.tmp 31)=idV k) :
  (execOp a.eval o6).run Γ.P w=.ok (.value (.tuple #[.int .i64 (getM m k),goInt (posM m k)])) { w with heap:=w.heap.setIfInBounds g (.map (mkE (entM m k) 0).toArray (entM m k).length) }:=by
 obtain ⟨w',h1,rfl⟩:=run_entryM E.I (E.map h) k
 simp only [execOp,E.O.e6.1,h28,h31,Sem.run_bind,h1,Result.andThen_ok,Sem.run_pure]
theorem CountEnv.run7 (E:CountEnv Γ T kt et l o4 o5 o6 o7 o8 g fl H) {x:Value} {n:Nat} (h34:a.eval (.tmp 34)=.tuple #[x,goInt n]) (w:World):(execOp a.eval o7).run Γ.P w=.ok (.value (goInt n)) w:=by
 simp [execOp,E.O.e7.1,h34,Instr.extract]
theorem count7 (E:CountEnv Γ T kt et l o4 o5 o6 o7 o8 g fl H) (hQ:∀ μ a w,Rel Γ ⟨tS fl g (updM m k (IntKind.i64.wrap (getM m k + 1))),H⟩ μ a w->Q0 .normal a w)
  (h:Rel Γ ⟨tS fl g (entM m k),H⟩ μ a w) (h28:a.eval (.tmp 28)=.map (some g)) (h33:a.eval (.tmp 33)=.int .i64 (IntKind.i64.wrap (getM m k + 1))) (h34:a.eval (.tmp 34)=.tuple #[.int .i64 (getM m k),goInt (posM m k)]) :
  wpAny Γ.P .any l.toArray Q0 2 (lst [true,true,true,true,true,true,true,false,false]) a w:=by
 refine wpAny_all E.R.r8 (by simp) fun i hi=>?_
 rw [List.mem_singleton] at hi
 subst hi
 refine wpOp_val (o:=o7) (by simpa using E.O.i7) E.O.e7.2.2 (E.run7 h34 w) ?_
 rw [E.O.e7.2.1]
 exact count8 E hQ (E.keep h 35 (by omega) (by omega) _) ((ev_ne (by decide)).trans h28) ((ev_ne (by decide)).trans h33) (ev_eq (by rw [h.hn]; exact E.n))
theorem count5 (E:CountEnv Γ T kt et l o4 o5 o6 o7 o8 g fl H) (hQ:∀ μ a w,Rel Γ ⟨tS fl g (updM m k (IntKind.i64.wrap (getM m k + 1))),H⟩ μ a w->Q0 .normal a w)
  (h:Rel Γ ⟨tS fl g (entM m k),H⟩ μ a w) (h28:a.eval (.tmp 28)=.map (some g)) (h32:a.eval (.tmp 32)=.int .i64 (getM m k)) (h35:a.eval (.tmp 35)=goInt (posM m k)) :
  wpAny Γ.P .any l.toArray Q0 2 (lst [true,true,true,true,true,false,true,true,false]) a w:=by
 refine wpAny_all E.R.q7 (by simp) fun i hi=>?_
 rw [List.mem_singleton] at hi
 subst hi
 refine wpOp_val (o:=o5) (by simpa using E.O.i5) E.O.e5.2.2 (E.run5 h32 w) ?_
 rw [E.O.e5.2.1]
 exact count8 E hQ (E.keep h 33 (by omega) (by omega) _) ((ev_ne (by decide)).trans h28) (ev_eq (by rw [h.hn]; have:=E.n; omega)) ((ev_ne (by decide)).trans h35)
theorem count57 (E:CountEnv Γ T kt et l o4 o5 o6 o7 o8 g fl H) (hQ:∀ μ a w,Rel Γ ⟨tS fl g (updM m k (IntKind.i64.wrap (getM m k + 1))),H⟩ μ a w->Q0 .normal a w)
  (h:Rel Γ ⟨tS fl g (entM m k),H⟩ μ a w) (h28:a.eval (.tmp 28)=.map (some g)) (h32:a.eval (.tmp 32)=.int .i64 (getM m k)) (h34:a.eval (.tmp 34)=.tuple #[.int .i64 (getM m k),goInt (posM m k)]) :
  wpAny Γ.P .any l.toArray Q0 3 (lst [true,true,true,true,true,false,true,false,false]) a w:=by
 refine wpAny_all E.R.r7 (by simp) fun i hi=>?_
 simp only [List.mem_cons,List.not_mem_nil,or_false] at hi
 rcases hi with rfl | rfl
 ·
  refine wpOp_val (o:=o5) (by simpa using E.O.i5) E.O.e5.2.2 (E.run5 h32 w) ?_
  rw [E.O.e5.2.1]
  exact count7 E hQ (E.keep h 33 (by omega) (by omega) _) ((ev_ne (by decide)).trans h28) (ev_eq (by rw [h.hn]; have:=E.n; omega)) ((ev_ne (by decide)).trans h34)
 ·
  refine wpOp_val (o:=o7) (by simpa using E.O.i7) E.O.e7.2.2 (E.run7 h34 w) ?_
  rw [E.O.e7.2.1]
  exact count5 E hQ (E.keep h 35 (by omega) (by omega) _) ((ev_ne (by decide)).trans h28) ((ev_ne (by decide)).trans h32) (ev_eq (by rw [h.hn]; exact E.n))
theorem count4 (E:CountEnv Γ T kt et l o4 o5 o6 o7 o8 g fl H) (hQ:∀ μ a w,Rel Γ ⟨tS fl g (updM m k (IntKind.i64.wrap (getM m k + 1))),H⟩ μ a w->Q0 .normal a w)
  (h:Rel Γ ⟨tS fl g m,H⟩ μ a w) (h28:a.eval (.tmp 28)=.map (some g)) (h31:a.eval (.tmp 31)=idV k) :
  wpAny Γ.P .any l.toArray Q0 5 (lst [true,true,true,true,false,false,false,false,false]) a w:=by
 have hn:a.tmps.size=Γ.n:=h.hn
 have n35:=E.n
 refine wpAny_all E.R.r4 (by simp) fun i hi=>?_
 simp only [List.mem_cons,List.not_mem_nil,or_false] at hi
 rcases hi with rfl | rfl
 ·
  refine wpOp_val (o:=o4) (by simpa using E.O.i4) E.O.e4.2.2 (E.run4 h h28 h31) ?_
  rw [E.O.e4.2.1]
  have h':=E.keep h 32 (by omega) (by omega) (.int .i64 (getM m k))
  have k28:(a.put (some 32) (.int .i64 (getM m k))).eval (.tmp 28)=.map (some g):=(ev_ne (by decide)).trans h28
  have k31:(a.put (some 32) (.int .i64 (getM m k))).eval (.tmp 31)=idV k:=(ev_ne (by decide)).trans h31
  have k32:(a.put (some 32) (.int .i64 (getM m k))).eval (.tmp 32)=.int .i64 (getM m k):=ev_eq (by rw [hn]; omega)
  refine wpAny_all (listed:=lst [true,true,true,true,true,false,false,false,false]) E.R.r5 (by simp) fun i hi=>?_
  simp only [List.mem_cons,List.not_mem_nil,or_false] at hi
  rcases hi with rfl | rfl
  ·
   refine wpOp_val (o:=o5) (by simpa using E.O.i5) E.O.e5.2.2 (E.run5 k32 w) ?_
   rw [E.O.e5.2.1]
   have h2:=E.keep h' 33 (by omega) (by omega) (.int .i64 (IntKind.i64.wrap (getM m k + 1)))
   refine wpAny_all (listed:=lst [true,true,true,true,true,true,false,false,false]) E.R.r6 (by simp) fun i hi=>?_
   rw [List.mem_singleton] at hi
   subst hi
   refine wpOp_val (o:=o6) (by simpa using E.O.i6) E.O.e6.2.2 (E.run6 h2 ((ev_ne (by decide)).trans k28) ((ev_ne (by decide)).trans k31)) ?_
   rw [E.O.e6.2.1]
   exact count7 E hQ (E.keep (E.set h2 (entM m k)) 34 (by omega) (by omega) _) ((ev_ne (by decide)).trans ((ev_ne (by decide)).trans k28)) ((ev_ne (by decide)).trans (ev_eq (by rw [h'.hn]; omega))) (ev_eq (by rw [h2.hn]; show 34 < Γ.n; omega))
  ·
   refine wpOp_val (o:=o6) (by simpa using E.O.i6) E.O.e6.2.2 (E.run6 h' k28 k31) ?_
   rw [E.O.e6.2.1]
   exact count57 E hQ (E.keep (E.set h' (entM m k)) 34 (by omega) (by omega) _) ((ev_ne (by decide)).trans k28) ((ev_ne (by decide)).trans k32) (ev_eq (by rw [h'.hn]; show 34 < Γ.n; omega))
 ·
  refine wpOp_val (o:=o6) (by simpa using E.O.i6) E.O.e6.2.2 (E.run6 h h28 h31) ?_
  rw [E.O.e6.2.1]
  have h':=E.keep (E.set h (entM m k)) 34 (by omega) (by omega) (.tuple #[.int .i64 (getM m k),goInt (posM m k)])
  generalize ht:Value.tuple #[.int .i64 (getM m k),goInt (posM m k)]=tv at h'
  have k28:(a.put (some 34) tv).eval (.tmp 28)=.map (some g):=(ev_ne (by decide)).trans h28
  have k31:(a.put (some 34) tv).eval (.tmp 31)=idV k:=(ev_ne (by decide)).trans h31
  have k34:(a.put (some 34) tv).eval (.tmp 34)=.tuple #[.int .i64 (getM m k),goInt (posM m k)]:=(ev_eq (by rw [hn]; omega)).trans ht.symm
  have hg:getM (entM m k) k=getM m k:=(ent_get m k).1
  refine wpAny_all (listed:=lst [true,true,true,true,false,false,true,false,false]) E.R.q5 (by simp) fun i hi=>?_
  simp only [List.mem_cons,List.not_mem_nil,or_false] at hi
  rcases hi with rfl | rfl
  ·
   refine wpOp_val (o:=o4) (by simpa using E.O.i4) E.O.e4.2.2 (E.run4 h' k28 k31) ?_
   rw [E.O.e4.2.1,hg]
   exact count57 E hQ (E.keep h' 32 (by omega) (by omega) _) ((ev_ne (by decide)).trans k28) (ev_eq (by rw [h'.hn]; show 32 < Γ.n; omega)) ((ev_ne (by decide)).trans k34)
  ·
   refine wpOp_val (o:=o7) (by simpa using E.O.i7) E.O.e7.2.2 (E.run7 k34 _) ?_
   rw [E.O.e7.2.1]
   have h2:=E.keep h' 35 (by omega) (by omega) (goInt (posM m k))
   have hn2:=h2.hn
   refine wpAny_all (listed:=lst [true,true,true,true,false,false,true,true,false]) E.R.q6 (by simp) fun i hi=>?_
   rw [List.mem_singleton] at hi
   subst hi
   refine wpOp_val (o:=o4) (by simpa using E.O.i4) E.O.e4.2.2 (E.run4 h2 ((ev_ne (by decide)).trans k28) ((ev_ne (by decide)).trans k31)) ?_
   rw [E.O.e4.2.1,hg]
   exact count5 E hQ (E.keep h2 32 (by omega) (by omega) _) ((ev_ne (by decide)).trans ((ev_ne (by decide)).trans k28)) (ev_eq (by rw [hn2]; show 32 < Γ.n; omega)) ((ev_ne (by decide)).trans (ev_eq (by rw [h'.hn]; show 35 < Γ.n; omega)))
end
def flOK (t:Nat->AV):List (Nat × AV)->Prop
 | []=>True
 | (i,v) :: l=>(flatV v=true/\t i=v)/\flOK t l
theorem flOK_mem {t:Nat->AV}:∀ {l:List (Nat × AV)},flOK t l->∀ p ∈ l,flatV p.2=true/\t p.1=p.2
 | (i,v) :: l,h,p,hp=>by
  rcases List.mem_cons.1 hp with rfl | hp
  · exact h.1
  · exact flOK_mem h.2 p hp
def flU (fl:List (Nat × AV)):Bool:=fl.all fun p=>decide (p.1 < 28) || decide (35 < p.1)
@[go_sem] theorem tS_at (fl g m) (i:Nat):tS fl g m i=if i=3 then .mpv g (mkE m 0).toArray m.length else ofL fl i:=rfl
structure CountHead (l:List Oper) (o0 o1 o2 o3:Oper):Prop where
 i0:l[0]?=some o0
 i1:l[1]?=some o1
 i2:l[2]?=some o2
 i3:l[3]?=some o3
 e0:o0.op=.move (.tmp 3)/\o0.dst=some 28/\o0.guard=none
 gs:o1.guard=none/\o2.guard=none/\o3.guard=none
 sel:Region.noSelect l.toArray=true
 fr:Region.free .any l.toArray (lst [false,false,false,false,false,false,false,false,false]) 0=true
 r0:(Region.ready .any l.toArray (lst [false,false,false,false,false,false,false,false,false])).contains 0=true
 r1:Region.ready .any l.toArray (lst [true,false,false,false,false,false,false,false,false])=[1]
 r2:Region.ready .any l.toArray (lst [true,true,false,false,false,false,false,false,false])=[2]
 r3:Region.ready .any l.toArray (lst [true,true,true,false,false,false,false,false,false])=[3]
theorem awp_count {T kt et:TypeId} {id:Nat} {l:List Oper} {o0 o1 o2 o3 o4 o5 o6 o7 o8:Oper} {g:Nat} (I:IdMap Γ.P T kt et) (O:CountOps T l o4 o5 o6 o7 o8) (R:CountRdy l.toArray) (A:CountHead l o0 o1 o2 o3) (g0:Γ.w0.heap.size<=g) (n35:35 < Γ.n)
  (h:opsK Γ env l.toArray [o1,o2,o3] ⟨fput s.t 28 (s.t 3),s.H⟩ (fun s4 _=>∃ m r q fl hl,s4.H=hOf hl/\hlOK hl=true/\s4.t 28=.mpv g (mkE m 0).toArray m.length/\s4.t 3=.mpv g (mkE m 0).toArray m.length/\s4.t 31=.agg [.int .i64 r,.int .i64 q]/\flOK s4.t fl/\flU fl=true /\
   Q .normal ⟨tS fl g (updM m (r,q) (IntKind.i64.wrap (getM m (r,q) + 1))),s4.H⟩) (fun _ _=>False)):awp Γ env (.region id l.toArray true) Q s:=by
 intro henv hok μ a w hR
 simp only [codeOK,Bool.and_eq_true,Bool.not_true,Bool.false_or] at hok
 obtain ⟨hall,hdraw,hmix⟩:=hok
 have hopk:∀ {o:Oper} {i:Nat},l[i]?=some o->opOK Γ.P Γ.n o=true:=fun {o i} hi=>List.all_eq_true.1 hall o (by simpa using List.mem_of_getElem? hi)
 let Q0:Exit->Act->World->Prop:=fun e a w=>match e with
  | .normal=>∃ s μ,Rel Γ s μ a w/\Q .normal s
  | _=>False
 refine Code.wp_mono (Q:=Q0) (fun e a w he=>?_) ?_
 · cases e <;> first | exact he | exact False.elim he
 refine wp_region_any hmix ?_
 have hsz:l.toArray.size=9:=by simpa using O.sz
 have hrep:Array.replicate l.toArray.size false=lst [false,false,false,false,false,false,false,false,false]:=by rw [hsz]; rfl
 rw [hrep,hsz]
 have hdrew:Rel Γ s μ a { w with drawn:=w.drawn + 1 }:=hR.grow ⟨rfl,rfl,rfl,Nat.le_refl _,fun _ _=>rfl⟩
 refine wpAny_take (v:=a.eval (.tmp 3)) (by simpa using A.i0) A.sel A.fr A.r0 (fun c a w he=>he.elim) (.inl ⟨by simp [Region.wanted,A.e0.2.2],fun w=>by simp [execOp,A.e0.1]⟩) ?_
 have hR0:Rel Γ ⟨fput s.t 28 (s.t 3),s.H⟩ μ (a.put o0.dst (a.eval (.tmp 3))) { w with drawn:=w.drawn + 1 }:=by
  have:=hdrew.put (d:=o0.dst) (fun t ht=>by rw [A.e0.2.1] at ht; obtain rfl:28=t:=Option.some.inj ht; exact Nat.lt_of_le_of_lt (by decide) n35) (eva_rep hdrew (.tmp 3))
  rw [A.e0.2.1] at this ⊢
  exact this
 obtain ⟨s1,c1,f1,e1,h1⟩:=opsK_step h
 obtain ⟨s2,c2,f2,e2,h2⟩:=opsK_step h1
 obtain ⟨s3,c3,f3,e3,h3⟩:=opsK_step h2
 unfold opsK aRun runK at h3
 obtain ⟨m,r,q,fl,hl,k1,k2,k3,k4,k5,k6,k7,k8⟩:=h3
 refine wpAny_all (listed:=lst [true,false,false,false,false,false,false,false,false]) A.r1 (by simp) fun i hi=>?_
 rw [List.mem_singleton] at hi
 subst hi
 refine wpOp_step hR0 henv (hopk A.i1) (by simpa using A.i1) A.gs.1 e1 fun μ1 a1 w1 hR1=>?_
 refine wpAny_all (listed:=lst [true,true,false,false,false,false,false,false,false]) A.r2 (by simp) fun i hi=>?_
 rw [List.mem_singleton] at hi
 subst hi
 refine wpOp_step hR1 henv (hopk A.i2) (by simpa using A.i2) A.gs.2.1 e2 fun μ2 a2 w2 hR2=>?_
 refine wpAny_all (listed:=lst [true,true,true,false,false,false,false,false,false]) A.r3 (by simp) fun i hi=>?_
 rw [List.mem_singleton] at hi
 subst hi
 refine wpOp_step hR2 henv (hopk A.i3) (by simpa using A.i3) A.gs.2.2 e3 fun μ3 a3 w3 hR3=>?_
 have hfo:∀ i,ofL fl i=.u\/flatV (ofL fl i)=true/\s3.t i=ofL fl i:=fun i=>by
  rcases ofL_or i fl with e | ⟨p,p1,p2,p3⟩
  · exact .inl e
  ·
   obtain ⟨q1,q2⟩:=flOK_mem k6 p p1
   rw [p3]
   exact .inr ⟨q1,by rw [<-p2]; exact q2⟩
 have E:CountEnv Γ T kt et l o4 o5 o6 o7 o8 g fl s3.H:=⟨I,O,R,g0,fun b x hb=>hlOK_mem k2 (b,x) (hOf_mem (by rw [<-k1]; exact hb)),fun i=>(hfo i).imp (fun e=>e) And.left,n35,fun d d1 d2=>by
  rcases ofL_or d fl with e | ⟨p,p1,p2,p3⟩
  · exact e
  ·
   have:=List.all_eq_true.1 k7 p p1
   simp only [Bool.or_eq_true,decide_eq_true_eq] at this
   omega⟩
 have hw:Rel Γ ⟨tS fl g m,s3.H⟩ μ3 a3 w3:=by
  refine ⟨hR3.hd,hR3.hn,hR3.hx,fun i=>?_,hR3.hb,hR3.hi,hR3.hf,hR3.hw,hR3.hp⟩
  have hi:=hR3.ht i
  show Rep w3 (forb Γ.Mx μ3 s3.H) μ3 s3.H (tS fl g m i) _
  rw [tS_at]
  split
  · rename_i e; subst e; rw [k4] at hi; exact hi
  ·
   rcases hfo i with e | ⟨_,e⟩
   · rw [e]; exact .u _ _
   · rw [<-e]; exact hi
 have r28:=eva_rep hR3 (.tmp 28)
 have r31:=eva_rep hR3 (.tmp 31)
 rw [eva_tmp,k3] at r28
 rw [eva_tmp,k5] at r31
 exact count4 E (fun μ a w hq=>⟨_,μ,hq,k8⟩) hw (rep_mpv r28).1 (rep_idV r31)
end
end Go.Proofs.Ytjoaigccapegpaa.AE
