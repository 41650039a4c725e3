/-
 Chapter 19, plainly: what is committed, what is tentative, what is known of both. Conditions: none; every lemma names its own.
-/
import Derived.Test.YtjoaigccapegpaaGreatOTe1
import Derived.Test.YtjoaigccapegpaaGreatOFt
set_option linter.constructorNameAsVariable false
namespace Go.Proofs.YtjoaigccapegpaaGreat.AE
open Go Go.Proofs Go.RowKit
set_option linter.unusedVariables false
set_option linter.unusedSimpArgs false
def knownG:List Chg->Vn 4->Vn 4
 | [],v=>v
 | c :: r,v=>knownG r (if 0<=c.id.rep/\c.id.rep < 4 then v.put c.id.rep.toNat (mx (v.at c.id.rep.toNat) c.id.seq) else v)
def ofRep (r:Int) (l:List Chg):List Chg:=l.filter fun c=>decide (c.id.rep=r)
def seqs:Int->List Chg->Prop
 | k,[]=>True
 | k,c :: r=>c.id.seq=k + 1/\seqs (k + 1) r
theorem seqs_append:∀ {k:Int} {l m:List Chg},seqs k (l++m) ↔ seqs k l/\seqs (k + l.length) m
 | k,[],m=>by simp [seqs]
 | k,c :: r,m=>by
  simp only [List.cons_append,seqs,seqs_append (k:=k + 1) (l:=r),List.length_cons,and_assoc]
  rw [show k + 1 + (r.length:Int)=k + ((r.length + 1:Nat):Int) by push_cast; omega]
theorem seqs_mem:∀ {k:Int} {l:List Chg} {c:Chg},seqs k l->c ∈ l->k < c.id.seq/\c.id.seq<=k + l.length
 | k,[],c,_,h=>by cases h
 | k,d :: r,c,hs,h=>by
  simp only [seqs] at hs
  rcases List.mem_cons.1 h with rfl | h
  · simp only [List.length_cons]; omega
  ·
   have:=seqs_mem hs.2 h
   simp only [List.length_cons]
   omega
structure LgI (done rest:List Chg) (v u:Vn 4):Prop where
 rep:∀ c ∈ done++rest,0<=c.id.rep/\c.id.rep < 4
 sq:∀ r:Int,0<=r->r < 4->seqs 0 (ofRep r (done++rest))/\v.at r.toNat=(ofRep r (done++rest)).length
 tm:∀ c ∈ done++rest,1<=c.time/\c.time<=u.at c.id.rep.toNat
 tz:∀ i,i < 4->0<=u.at i/\(u.at i=0\/∃ c ∈ done++rest,c.id.rep=(i:Int)/\c.time=u.at i)
 len:(done++rest).length<=48
theorem ofRep_append (r:Int) (l m:List Chg):ofRep r (l++m)=ofRep r l++ofRep r m:=by simp [ofRep]
theorem ofRep_mem {r:Int} {l:List Chg} {c:Chg}:c ∈ ofRep r l ↔ c ∈ l/\c.id.rep=r:=by simp [ofRep]
theorem ofRep_cons_eq {r:Int} {c:Chg} (l:List Chg) (h:c.id.rep=r):ofRep r (c :: l)=c :: ofRep r l:=by simp [ofRep,h]
theorem ofRep_cons_ne {r:Int} {c:Chg} (l:List Chg) (h:c.id.rep ≠ r):ofRep r (c :: l)=ofRep r l:=by simp [ofRep,h]
theorem at_zV (i:Nat):(zV 4).at i=0:=zV_at 4 i
theorem lgput_len (c:Chg) (l:List Chg):(cputL c l).length=l.length + 1:=by have:=putAt_le c l; simp [cputL]; omega
theorem LgI.zero:LgI [] [] (zV 4) (zV 4):=by
 refine ⟨by simp,fun r _ _=>⟨trivial,?_⟩,by simp,fun i _=>⟨by rw [at_zV]; exact Int.le_refl _,.inl (at_zV i)⟩,by simp⟩
 rw [at_zV]; rfl
theorem putG_all:∀ (c:Chg) (l:List Chg) (n k:Nat),∃ j,putG c l n k=j/\(j=k\/∃ i x,l[i]?=some x/\j=n + i + 1)/\∀ i x,l[i]?=some x->n + i + 1 > j->lessChg c x=true
 | c,[],n,k=>⟨k,rfl,.inl rfl,fun i x h=>by simp at h⟩
 | c,y :: r,n,k=>by
  obtain ⟨j,h1,h2,h3⟩:=putG_all c r (n + 1) (if lessChg c y=true then k else n + 1)
  refine ⟨j,h1,?_,?_⟩
  ·
   rcases h2 with h2 | ⟨i,x,hx,hj⟩
   ·
    split at h2
    · exact .inl h2
    · exact .inr ⟨0,y,rfl,by omega⟩
   · exact .inr ⟨i + 1,x,by simpa using hx,by omega⟩
  ·
   intro i x hx hj
   cases i with
   | zero=>
    simp only [List.getElem?_cons_zero,Option.some.injEq] at hx
    subst hx
    by_cases hl:lessChg c y=true
    · exact hl
    ·
     exfalso
     rw [if_neg hl] at h2
     rcases h2 with h2 | ⟨i,x,_,hj'⟩ <;> omega
   | succ i=>exact h3 i x (by simpa using hx) (by omega)
theorem cputL_form (c:Chg) (l:List Chg):∃ A B,l=A++B/\cputL c l=A++[c]++B/\∀ x ∈ B,lessChg c x=true:=by
 obtain ⟨j,h1,h2,h3⟩:=putG_all c l 0 0
 refine ⟨l.take j,l.drop j,(List.take_append_drop _ _).symm,?_,fun x hx=>?_⟩
 ·
  unfold cputL putAt
  rw [h1]
 ·
  obtain ⟨i,hi⟩:=List.getElem?_of_mem hx
  rw [List.getElem?_drop] at hi
  exact h3 (j + i) x hi (by omega)
theorem ofRep_put {c:Chg} {l:List Chg} (h:∀ x ∈ l,x.id.rep=c.id.rep->x.time < c.time) (r:Int):ofRep r (cputL c l)=if c.id.rep=r then ofRep r l++[c] else ofRep r l:=by
 obtain ⟨A,B,rfl,hp,hB⟩:=cputL_form c l
 rw [hp,ofRep_append,ofRep_append,ofRep_append]
 by_cases hr:c.id.rep=r
 ·
  rw [if_pos hr]
  have hb:ofRep r B=[]:=by
   rw [ofRep,List.filter_eq_nil_iff]
   intro x hx he
   simp only [decide_eq_true_eq] at he
   have h1:=h x (by simp [hx]) (by rw [he,hr])
   have h2:=hB x hx
   rw [<-lessCR_eq] at h2
   simp only [lessCR,decide_eq_true_eq] at h2
   omega
  rw [hb]
  simp [ofRep,hr]
 ·
  rw [if_neg hr]
  simp [ofRep,hr]
theorem cputL_mem (c:Chg) (l:List Chg) (x:Chg):x ∈ cputL c l ↔ x=c\/x ∈ l:=by
 obtain ⟨A,B,rfl,hp,_⟩:=cputL_form c l
 rw [hp]
 simp only [List.mem_append,List.mem_singleton]
 constructor
 · rintro ((h | h) | h) <;> simp [h]
 · rintro (h | h | h) <;> simp [h]
theorem vput_at (v:Vn 4) (i j:Nat) (x:Int) (hi:i < 4):(v.put i x).at j=if j=i then x else v.at j:=by
 simp only [Vn.at,Vn.put]
 rw [List.getD_eq_getElem?_getD,List.getElem?_set]
 by_cases h:i=j
 ·
  subst h
  simp [v.h,hi]
 ·
  rw [if_neg h,if_neg (fun e=>h e.symm)]
  simp
theorem LgI.put {d r:List Chg} {v u:Vn 4} (h:LgI d r v u) {c:Chg} (h0:0<=c.id.rep) (h4:c.id.rep < 4) (hs:c.id.seq=v.at c.id.rep.toNat + 1) (ht1:1<=c.time) (ht:u.at c.id.rep.toNat < c.time) (hn:(d++r).length < 48) :
  LgI d (cputL c r) (v.put c.id.rep.toNat c.id.seq) (u.put c.id.rep.toNat c.time):=by
 have hlt:∀ x ∈ r,x.id.rep=c.id.rep->x.time < c.time:=fun x hx he=>by
  have:=(h.tm x (by simp [hx])).2
  rw [he] at this
  omega
 have hi:c.id.rep.toNat < 4:=by omega
 have hmem:∀ x,x ∈ d++cputL c r ↔ x=c\/x ∈ d++r:=by
  intro x
  simp only [List.mem_append,cputL_mem]
  constructor
  · rintro (h | h | h) <;> simp [h]
  · rintro (h | h | h) <;> simp [h]
 refine ⟨fun x hx=>?_,fun k k0 k4=>?_,fun x hx=>?_,fun i hi4=>?_,?_⟩
 ·
  rcases (hmem x).1 hx with rfl | hx
  · exact ⟨h0,h4⟩
  · exact h.rep x hx
 ·
  obtain ⟨q1,q2⟩:=h.sq k k0 k4
  rw [ofRep_append,ofRep_put hlt,vput_at _ _ _ _ hi]
  by_cases hk:c.id.rep=k
  ·
   subst hk
   rw [if_pos rfl,if_pos rfl,<-List.append_assoc,<-ofRep_append]
   refine ⟨seqs_append.2 ⟨q1,?_,trivial⟩,?_⟩
   · rw [hs,q2]; omega
   · rw [hs,q2]; simp
  ·
   rw [if_neg hk,if_neg (by omega),<-ofRep_append]
   exact ⟨q1,q2⟩
 ·
  rw [vput_at _ _ _ _ hi]
  rcases (hmem x).1 hx with rfl | hx
  · rw [if_pos rfl]; exact ⟨ht1,Int.le_refl _⟩
  ·
   have:=h.tm x hx
   split
   ·
    rename_i e
    rw [e] at this
    omega
   · exact this
 ·
  rw [vput_at _ _ _ _ hi]
  split
  ·
   rename_i e
   exact ⟨by omega,.inr ⟨c,(hmem c).2 (.inl rfl),by omega,rfl⟩⟩
  ·
   obtain ⟨q1,q2⟩:=h.tz i hi4
   refine ⟨q1,?_⟩
   rcases q2 with q2 | ⟨x,hx,q3,q4⟩
   · exact .inl q2
   · exact .inr ⟨x,(hmem x).2 (.inr hx),q3,q4⟩
 ·
  have:=lgput_len c r
  simp only [List.length_append] at hn ⊢
  omega
theorem LgI.new {d r:List Chg} {v u:Vn 4} (h:LgI d r v u) {a:Id} (h0:0<=a.rep) (h4:a.rep < 4) (hs:v.at a.rep.toNat < a.seq):∀ x ∈ d++r,x.id ≠ a:=by
 rintro x hx rfl
 obtain ⟨q1,q2⟩:=h.sq x.id.rep h0 h4
 have:=(seqs_mem q1 (ofRep_mem.2 ⟨hx,rfl⟩)).2
 omega
theorem withoutL_at {l:List Chg} {k:Nat} (h:k < l.length):withoutL l (k:Int)=l.take k++l.drop (k + 1):=by
 unfold withoutL
 rw [if_neg (by omega)]
 simp
theorem LgI.commit {d r:List Chg} {v u:Vn 4} (h:LgI d r v u) {c:Chg} {k:Nat} (hk:r[k]?=some c) (hf:∀ x ∈ r,x.id.rep=c.id.rep->¬ x.id.seq < c.id.seq):LgI (d++[c]) (withoutL r (k:Int)) v u:=by
 have hkl:=(List.getElem?_eq_some_iff.1 hk).1
 have hr:r=r.take k++c :: r.drop (k + 1):=by
  have:c=r[k]:=((List.getElem?_eq_some_iff.1 hk).2).symm
  rw [this,<-List.drop_eq_getElem_cons hkl,List.take_append_drop]
 rw [withoutL_at hkl]
 generalize hA:r.take k=A at hr
 generalize hB:r.drop (k + 1)=B at hr
 subst hr
 have hmem:∀ x,x ∈ (d++[c])++(A++B) ↔ x ∈ d++(A++c :: B):=by
  intro x
  simp only [List.mem_append,List.mem_cons,List.not_mem_nil,or_false]
  constructor
  ·
   rintro ((q | q) | (q | q))
   · exact .inl q
   · exact .inr (.inr (.inl q))
   · exact .inr (.inl q)
   · exact .inr (.inr (.inr q))
  ·
   rintro (q | q | q | q)
   · exact .inl (.inl q)
   · exact .inr (.inl q)
   · exact .inl (.inr q)
   · exact .inr (.inr q)
 have hof:∀ k,0<=k->k < 4->ofRep k ((d++[c])++(A++B))=ofRep k (d++(A++c :: B)):=by
  intro k k0 k4
  by_cases hk:c.id.rep=k
  ·
   have hA0:ofRep k A=[]:=by
    obtain ⟨q1,_⟩:=h.sq k k0 k4
    rw [ofRep_append,ofRep_append] at q1
    have q2:=(seqs_append.1 q1).2
    have q3:=seqs_append.1 q2
    cases hoA:ofRep k A with
    | nil=>rfl
    | cons y Y=>
     exfalso
     have hy:y ∈ ofRep k A:=by rw [hoA]; simp
     have hy2:=ofRep_mem.1 hy
     have h1:=(seqs_mem q3.1 hy).2
     have h2:=(seqs_mem q3.2 (ofRep_mem.2 ⟨List.mem_cons_self ..,hk⟩:c ∈ ofRep k (c :: B))).1
     exact hf y (by simp [hy2.1]) (by rw [hy2.2,hk]) (by omega)
   simp only [ofRep_append,hA0,List.nil_append,ofRep_cons_eq B hk]
   simp [ofRep,hk]
  ·
   simp only [ofRep_append,ofRep_cons_ne B hk]
   simp [ofRep,hk]
 refine ⟨fun x hx=>h.rep x ((hmem x).1 hx),fun k k0 k4=>?_,fun x hx=>h.tm x ((hmem x).1 hx),fun i hi=>?_,?_⟩
 · rw [hof k k0 k4]; exact h.sq k k0 k4
 ·
  obtain ⟨q1,q2⟩:=h.tz i hi
  refine ⟨q1,?_⟩
  rcases q2 with q2 | ⟨x,hx,q3,q4⟩
  · exact .inl q2
  · exact .inr ⟨x,(hmem x).2 hx,q3,q4⟩
 ·
  have:=h.len
  simp only [List.length_append,List.length_cons,List.length_nil] at this ⊢
  omega
theorem freeC_at {l:List Chg} {a:Id} (h:freeC l a=true):∃ (k:Nat) (c:Chg),placeC l a=(k:Int)/\k < l.length/\l[k]?=some c/\c.id=a/\takeC l a=c/\takeL l a=withoutL l (k:Int)/\∀ x ∈ l,x.id.rep=a.rep->¬ x.id.seq < a.seq:=by
 have h1:=h
 simp only [freeC,Bool.and_eq_true,decide_eq_true_eq,Bool.not_eq_true',List.any_eq_false] at h1
 obtain ⟨hp,hn⟩:=h1
 rcases placeC_at l a with h2 | ⟨k,c,hk,hpk,hc,hid⟩
 · omega
 ·
  refine ⟨k,c,hpk,hk,hc,hid,by simp [takeC,h,hpk,hc],by rw [takeL,if_pos h,hpk],fun x hx he hlt=>?_⟩
  have:=hn x hx
  simp [aheadC,he,hlt] at this
end Go.Proofs.YtjoaigccapegpaaGreat.AE
