/-
 Chapter 34, plainly: what is expected, in any order that keeps each change's own, is what is left of it. Conditions: none; every lemma names its own.
-/
import Derived.Test.YtjoaigccapegpaaORq7
set_option linter.constructorNameAsVariable false
namespace Go.Proofs.Ytjoaigccapegpaa.AE
open Go Go.Proofs Go.RowKit
set_option linter.unusedVariables false
set_option linter.unusedSimpArgs false
def idF (a:Id) (l:List Req):List Req:=l.filter fun x=>decide (x.key.id=a)
theorem idF_append (a:Id) (l m:List Req):idF a (l++m)=idF a l++idF a m:=by simp [idF]
theorem idF_cons_ne {a:Id} {x:Req} (l:List Req) (h:x.key.id ≠ a):idF a (x :: l)=idF a l:=by simp [idF,h]
theorem idF_cons_eq {a:Id} {x:Req} (l:List Req) (h:x.key.id=a):idF a (x :: l)=x :: idF a l:=by simp [idF,h]
theorem idF_none {a:Id} {l:List Req} (h:∀ x ∈ l,x.key.id ≠ a):idF a l=[]:=by
 rw [idF,List.filter_eq_nil_iff]
 intro x hx
 simpa using h x hx
theorem idF_all {a:Id} {l:List Req} (h:∀ x ∈ l,x.key.id=a):idF a l=l:=by
 rw [idF,List.filter_eq_self]
 intro x hx
 simpa using h x hx
theorem cntId_idF (a:Id) (l:List Req):cntId a l=(idF a l).length:=List.countP_eq_length_filter
section
variable {p:Req->Req->Int}
theorem filter_putO (ho:Ordr p) (f:Req->Bool) (x:Req):∀ {l:List Req},Srt p l->(putO p x l).filter f=if f x=true then putO p x (l.filter f) else l.filter f
 | [],_=>by simp only [putO,List.filter_cons,List.filter_nil]
 | y :: r,h=>by
  obtain ⟨h1,h2⟩:=List.pairwise_cons.1 h
  by_cases hyx:p y x < 0
  ·
   simp only [putO,if_pos hyx,List.filter_cons,filter_putO ho f x h2]
   cases hx:f x <;> cases hy:f y <;> simp [putO,hyx]
  ·
   have hall:∀ z ∈ y :: r,¬ p z x < 0:=by
    intro z hz
    rcases List.mem_cons.1 hz with rfl | hz
    · exact hyx
    · exact ho.tr x y z hyx (h1 z hz)
   have hput:∀ {m:List Req},(∀ z ∈ m,¬ p z x < 0)->putO p x m=x :: m:=by
    intro m hm
    cases m with
    | nil=>rfl
    | cons z m=>simp only [putO,if_neg (hm z (by simp))]
   rw [hput hall,hput (m:=(y :: r).filter f) (fun z hz=>hall z (List.mem_filter.1 hz).1)]
   simp only [List.filter_cons]
theorem filter_ordL (ho:Ordr p) (f:Req->Bool):∀ l:List Req,(ordL p l).filter f=ordL p (l.filter f)
 | []=>rfl
 | x :: r=>by
  simp only [ordL,filter_putO ho f x (ordL_srt ho r),filter_ordL ho f r,List.filter_cons]
  split <;> rfl
theorem ordL_swap (ho:Ordr p) {x y:Req} (h:p x y < 0\/p y x < 0):∀ (A B:List Req),ordL p (A++x :: y :: B)=ordL p (A++y :: x :: B)
 | [],B=>by
  simp only [List.nil_append,ordL]
  rcases h with h | h
  · exact (putO_comm ho h (ordL_srt ho B)).symm
  · exact putO_comm ho h (ordL_srt ho B)
 | z :: A,B=>by simp only [List.cons_append,ordL,ordL_swap ho h A B]
theorem ordL_move (ho:Ordr p) {x:Req}:∀ {R:List Req} (A B:List Req),(∀ y ∈ R,p x y < 0\/p y x < 0)->ordL p (A++x :: (R++B))=ordL p (A++(R++x :: B))
 | [],A,B,_=>rfl
 | y :: R,A,B,h=>by
  have h1:=ordL_move ho (R:=R) (A++[y]) B fun z hz=>h z (by simp [hz])
  simp only [List.append_assoc,List.cons_append,List.nil_append] at h1 ⊢
  rw [ordL_swap ho (h y (by simp)) A (R++B),h1]
end
theorem ord_ne {x y:Req} (h:y.key.id ≠ x.key.id):ordReq x y < 0\/ordReq y x < 0:=by
 rw [ordReq_neg,ordReq_neg]
 obtain ⟨⟨⟨a,b⟩,c,d⟩,_⟩:=x
 obtain ⟨⟨⟨a',b'⟩,c',d'⟩,_⟩:=y
 simp only [lexKey]
 have:¬ (a'=a/\b'=b):=fun ⟨h1,h2⟩=>h (by rw [h1,h2])
 omega
def nmb:Nat->List Req->Prop
 | _,[]=>True
 | k,q :: r=>q.key.undo=false/\q.key.ord=(k:Int) + 1/\nmb (k + 1) r
theorem nmb_reqW (a:Id):∀ (w:List Eff) (k:Nat),nmb k (reqW a w k)
 | [],k=>trivial
 | e :: r,k=>⟨rfl,rfl,nmb_reqW a r (k + 1)⟩
theorem reqW_id (a:Id):∀ (w:List Eff) (k:Nat),∀ x ∈ reqW a w k,x.key.id=a
 | [],k,x,h=>by simp [reqW] at h
 | e :: r,k,x,h=>by
  simp only [reqW,List.mem_cons] at h
  rcases h with rfl | h
  · rfl
  · exact reqW_id a r (k + 1) x h
theorem reqW_ord (a:Id):∀ (w:List Eff) (k:Nat),∀ x ∈ reqW a w k,(k:Int) < x.key.ord/\x.key.undo=false
 | [],k,x,h=>by simp [reqW] at h
 | e :: r,k,x,h=>by
  simp only [reqW,List.mem_cons] at h
  rcases h with rfl | h
  · simp; omega
  ·
   have:=reqW_ord a r (k + 1) x h
   push_cast at this
   exact ⟨by omega,this.2⟩
theorem reqW_srt (a:Id):∀ (w:List Eff) (k:Nat),Srt ordReq (reqW a w k)
 | [],k=>List.Pairwise.nil
 | e :: r,k=>by
  refine List.pairwise_cons.2 ⟨fun x hx=>?_,reqW_srt a r (k + 1)⟩
  rw [ordReq_neg]
  have h1:=reqW_id a r (k + 1) x hx
  have h2:=reqW_ord a r (k + 1) x hx
  simp only [lexKey,h1]
  simp
  push_cast at h2
  omega
theorem expA_id:∀ {cs:List Chg} {os:List Outc} {x:Req},x ∈ expA cs os->∃ c ∈ cs,x.key.id=c.id
 | c :: cs,o :: os,x,h=>by
  simp only [expA,List.mem_append] at h
  rcases h with h | h
  · exact ⟨c,by simp,reqW_id _ _ _ x h⟩
  ·
   obtain ⟨d,hd,he⟩:=expA_id h
   exact ⟨d,by simp [hd],he⟩
 | [],_,x,h=>by simp [expA] at h
 | _ :: _,[],x,h=>by simp [expA] at h
theorem idF_expA (a:Id):∀ {cs:List Chg} {os:List Outc},(cs.map (·.id)).Nodup->nmb 0 (idF a (expA cs os))/\Srt ordReq (idF a (expA cs os))
 | c :: cs,o :: os,h=>by
  simp only [List.map_cons,List.nodup_cons] at h
  simp only [expA,idF_append]
  by_cases hc:c.id=a
  ·
   rw [idF_all (fun x hx=>(reqW_id _ _ _ x hx).trans hc),idF_none (l:=expA cs os) (fun x hx he=>?_),List.append_nil]
   · exact ⟨nmb_reqW _ _ _,reqW_srt _ _ _⟩
   ·
    obtain ⟨d,hd,hid⟩:=expA_id hx
    exact h.1 (List.mem_map.2 ⟨d,hd,by rw [<-hid,he,hc]⟩)
  ·
   rw [idF_none (fun x hx he=>hc ((reqW_id _ _ _ x hx).symm.trans he)),List.nil_append]
   exact idF_expA a h.2
 | [],_,_=>by simp [expA,idF,nmb,Srt]
 | _ :: _,[],_=>by simp [expA,idF,nmb,Srt]
theorem idF_W {M:List Chg} (h:(M.map (·.id)).Nodup) (a:Id):nmb 0 (idF a (ordL ordReq (expL M))):=by
 obtain ⟨h1,h2⟩:=idF_expA a (os:=ouL (zBk,[]) M) h
 have h3:idF a (ordL ordReq (expL M))=idF a (expL M):=by
  unfold idF
  rw [filter_ordL ordr_req,ordL_self ordr_req]
  exact h2
 rw [h3]
 exact h1
theorem nmb_app:∀ {k:Nat} {l m:List Req},nmb k (l++m)->nmb (k + l.length) m
 | k,[],m,h=>h
 | k,q :: r,m,h=>by
  have:=nmb_app (l:=r) h.2.2
  simpa [Nat.add_assoc,Nat.add_comm 1] using this
theorem net_fine (t:List Req):∀ (l A:List Req),(∀ a,nmb 0 (idF a (A++l)))->(∀ q ∈ l,∀ x ∈ t,x.key ≠ other q.key)->netR A (l++t)=netR (A++l) t
 | [],A,_,_=>by simp
 | q :: r,A,hn,ht=>by
  have hq:=hn q.key.id
  rw [idF_append,idF_cons_eq r rfl] at hq
  have hq2:=nmb_app hq
  rw [Nat.zero_add] at hq2
  obtain ⟨u1,u2,u3⟩:=hq2
  have hund:∀ x ∈ r,x.key.undo=false:=by
   intro x hx
   have hx':=hn x.key.id
   have hmem:x ∈ idF x.key.id (A++q :: r):=by simp [idF,hx]
   have key:∀ (k:Nat) (m:List Req),nmb k m->∀ y ∈ m,y.key.undo=false:=by
    intro k m
    induction m generalizing k with
    | nil=>intro _ y hy; simp at hy
    | cons z m ih=>
     intro h y hy
     rcases List.mem_cons.1 hy with rfl | hy
     · exact h.1
     · exact ih (k + 1) h.2.2 y hy
   exact key 0 _ hx' x hmem
  have hlost:lostQ q (r++t)=false:=by
   simp only [lostQ,u1,Bool.false_or,List.any_eq_false]
   intro x hx
   simp only [isUn,decide_eq_true_eq]
   rcases List.mem_append.1 hx with hx | hx
   ·
    intro he
    have:=hund x hx
    rw [he] at this
    simp [other,u1] at this
   · exact ht q (by simp) x hx
  have hstep:netS A q (r++t)=A++[q]:=by
   unfold netS
   rw [if_neg (by simp [hlost])]
   congr 1
   obtain ⟨⟨i,n,b⟩,w⟩:=q
   simp only at u1 u2
   subst u1
   rw [u2,cntId_idF]
  simp only [List.cons_append,netR,hstep]
  have:=net_fine t r (A++[q]) (fun a=>by simpa using hn a) fun x hx=>ht x (by simp [hx])
  rw [this]
  simp
theorem net_self {l:List Req} (h:∀ a,nmb 0 (idF a l)):netL l=l:=by
 have:=net_fine [] l [] (by simpa using h) (by simp)
 simpa [netL,netR] using this
theorem net_more {l:List Req} (h:∀ a,nmb 0 (idF a l)) {q:Req} (hq:q.key.undo=false) (hn:∀ x ∈ l,x.key ≠ q.key) (e:Eff):netL (l++[q,⟨other q.key,e⟩])=l:=by
 have key:∀ (k:Nat) (m:List Req),nmb k m->∀ y ∈ m,y.key.undo=false:=by
  intro k m
  induction m generalizing k with
  | nil=>intro _ y hy; simp at hy
  | cons z m ih=>
   intro h y hy
   rcases List.mem_cons.1 hy with rfl | hy
   · exact h.1
   · exact ih (k + 1) h.2.2 y hy
 have hu:∀ x ∈ l,x.key.undo=false:=fun x hx=>key 0 _ (h x.key.id) x (by simp [idF,hx])
 have:=net_fine [q,⟨other q.key,e⟩] l [] (by simpa using h) (fun x hx y hy he=>by
  simp only [List.mem_cons,List.not_mem_nil,or_false] at hy
  rcases hy with rfl | rfl
  ·
   rw [he] at hq
   simp [other,hu x hx] at hq
  ·
   simp only [other,Key.mk.injEq] at he
   obtain ⟨h1,h2,h3⟩:=he
   refine hn x hx ?_
   obtain ⟨⟨i,n,b⟩,w⟩:=x
   obtain ⟨⟨i',n',b'⟩,w'⟩:=q
   simp only at h1 h2 h3 ⊢
   subst h1 h2
   have:b=b':=by revert h3; cases b <;> cases b' <;> simp
   rw [this])
 unfold netL
 rw [this,List.nil_append]
 have l1:lostQ q [⟨other q.key,e⟩]=true:=by simp [lostQ,isUn]
 have l2:lostQ ⟨other q.key,e⟩ []=true:=by simp [lostQ,other,hq]
 simp [netR,netS,l1,l2]
structure Tk (W a r:List Req):Prop where
 o:ordL ordReq (a++r)=W
 f:∀ i,idF i (a++r)=idF i W
theorem Tk.init (l:List Req):Tk (ordL ordReq l) [] (ordL ordReq l):=⟨ordL_idem ordr_req l,fun _=>rfl⟩
theorem Tk.len {W a r:List Req} (h:Tk W a r):a.length + r.length=W.length:=by
 rw [<-h.o,ordL_len]
 simp
theorem Tk.next {W a r:List Req} (h:Tk W a r) {k:Nat} {x:Req} (hx:r[k]?=some x) (hf:∀ (j:Nat) (y:Req),j < k->r[j]?=some y->y.key.id ≠ x.key.id):Tk W (a++[x]) (r.take k++r.drop (k + 1)):=by
 have hk:=(List.getElem?_eq_some_iff.1 hx).1
 have hr:r=r.take k++x :: r.drop (k + 1):=by
  have:x=r[k]:=((List.getElem?_eq_some_iff.1 hx).2).symm
  rw [this,<-List.drop_eq_getElem_cons hk,List.take_append_drop]
 have hne:∀ y ∈ r.take k,y.key.id ≠ x.key.id:=by
  intro y hy
  obtain ⟨j,hj⟩:=List.getElem?_of_mem hy
  rw [List.getElem?_take] at hj
  split at hj
  · rename_i hjk; exact hf j y hjk hj
  · cases hj
 generalize r.take k=R at hr hne
 generalize r.drop (k + 1)=B at hr
 subst hr
 refine ⟨?_,fun i=>?_⟩
 ·
  rw [<-h.o,List.append_assoc,List.singleton_append]
  exact ordL_move ordr_req a B fun y hy=>ord_ne (hne y hy)
 ·
  rw [<-h.f i]
  simp only [idF_append,List.append_assoc]
  congr 1
  by_cases hi:x.key.id=i
  ·
   rw [idF_none (l:=R) (fun y hy=>by rw [<-hi]; exact hne y hy),idF_cons_eq _ hi,idF_cons_eq _ hi]
   simp [idF]
  ·
   rw [idF_cons_ne _ hi,idF_cons_ne _ hi]
   simp [idF]
theorem Tk.last {W a:List Req} (h:Tk W a []) (hW:∀ i,nmb 0 (idF i W)):ordL ordReq a=W/\∀ i,nmb 0 (idF i a):=by
 have h1:=h.o
 have h2:=h.f
 simp only [List.append_nil] at h1 h2
 exact ⟨h1,fun i=>by rw [h2 i]; exact hW i⟩
end Go.Proofs.Ytjoaigccapegpaa.AE
