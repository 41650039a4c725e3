/-
 Chapter 19, plainly: what is known, and the greatest times, told in two ways. Conditions: none; every lemma names its own.
-/
import Derived.Test.YtjoaigccapegpaaGreatOLg0
import Derived.Test.YtjoaigccapegpaaGreatOCk
set_option linter.constructorNameAsVariable false
namespace Go.Proofs.YtjoaigccapegpaaGreat.AE
open Go Go.Proofs Go.RowKit
set_option linter.unusedVariables false
set_option linter.unusedSimpArgs false
def lastT (r:Int):List Chg->Int->Int
 | [],t=>t
 | c :: l,t=>lastT r l (if c.id.rep=r/\t < c.time then c.time else t)
theorem lastT_spec (r:Int):∀ (l:List Chg) (t:Int),t<=lastT r l t/\(∀ c ∈ l,c.id.rep=r->c.time<=lastT r l t)/\(lastT r l t=t\/∃ c ∈ l,c.id.rep=r/\c.time=lastT r l t)
 | [],t=>⟨Int.le_refl _,fun c h=>by simp at h,.inl rfl⟩
 | c :: l,t=>by
  obtain ⟨h1,h2,h3⟩:=lastT_spec r l (if c.id.rep=r/\t < c.time then c.time else t)
  simp only [lastT]
  generalize lastT r l (if c.id.rep=r/\t < c.time then c.time else t)=q at h1 h2 h3
  refine ⟨?_,fun x hx hr=>?_,?_⟩
  · split at h1 <;> omega
  ·
   rcases List.mem_cons.1 hx with rfl | hx
   · split at h1 <;> omega
   · exact h2 x hx hr
  ·
   rcases h3 with h3 | ⟨x,hx,hr,he⟩
   ·
    split at h3
    ·
     rename_i hc
     exact .inr ⟨c,by simp,hc.1,h3.symm⟩
    · exact .inl h3
   · exact .inr ⟨x,by simp [hx],hr,he⟩
theorem LgI.last {d r:List Chg} {v u:Vn 4} (h:LgI d r v u) {i:Nat} (hi:i < 4):lastT (i:Int) (d++r) 0=u.at i:=by
 obtain ⟨h1,h2,h3⟩:=lastT_spec (i:Int) (d++r) 0
 obtain ⟨h4,h5⟩:=h.tz i hi
 have h6:∀ c ∈ d++r,c.id.rep=(i:Int)->c.time<=u.at i:=fun c hc hr=>by
  have:=(h.tm c hc).2
  rw [hr] at this
  simpa using this
 generalize lastT (i:Int) (d++r) 0=q at h1 h2 h3
 rcases h5 with h5 | ⟨c,hc,hr,ht⟩
 ·
  rcases h3 with h3 | ⟨x,hx,hr,he⟩
  · omega
  ·
   have:=h6 x hx hr
   omega
 ·
  have h7:=h2 c hc hr
  rcases h3 with h3 | ⟨x,hx,hr,he⟩
  · omega
  ·
   have:=h6 x hx hr
   omega
def knownR:List Chg->Vn 4->Vn 4
 | [],v=>v
 | c :: l,v=>knownR l (if v.at c.id.rep.toNat < c.id.seq then v.put c.id.rep.toNat c.id.seq else v)
theorem put_self {v:Vn 4} {i:Nat} (hi:i < 4):v.put i (v.at i)=v:=by
 apply Vn.ext_at
 intro j hj
 rw [AE.put_at _ _ _ _ hi]
 split
 · subst i; rfl
 · rfl
theorem knownR_eq:∀ {l:List Chg} (v:Vn 4),(∀ c ∈ l,0<=c.id.rep/\c.id.rep < 4)->knownR l v=knownG l v
 | [],v,_=>rfl
 | c :: l,v,h=>by
  have h0:=h c (by simp)
  simp only [knownR,knownG,if_pos h0]
  rw [knownR_eq _ fun x hx=>h x (by simp [hx])]
  congr 1
  by_cases hq:v.at c.id.rep.toNat < c.id.seq
  · rw [if_pos hq,mx,if_pos hq]
  · rw [if_neg hq,mx,if_neg (by omega),put_self (by omega)]
theorem known_at (i:Nat) (hi:i < 4):∀ {l:List Chg} (v:Vn 4),(∀ c ∈ l,0<=c.id.rep/\c.id.rep < 4)->(knownG l v).at i=(ofRep (i:Int) l).foldl (fun m c=>mx m c.id.seq) (v.at i)
 | [],v,_=>rfl
 | c :: l,v,h=>by
  have h0:=h c (by simp)
  have ih:=fun v=>known_at i hi (l:=l) v fun x hx=>h x (by simp [hx])
  simp only [knownG,if_pos h0]
  rw [ih,AE.put_at _ _ _ _ (by omega)]
  by_cases hr:c.id.rep=(i:Int)
  ·
   rw [ofRep_cons_eq _ hr,if_pos (by omega)]
   simp only [List.foldl_cons]
   rw [show c.id.rep.toNat=i by omega]
  · rw [ofRep_cons_ne _ hr,if_neg (by omega)]
theorem foldl_seqs:∀ {k:Int} {l:List Chg},seqs k l->l.foldl (fun m c=>mx m c.id.seq) k=k + l.length
 | k,[],_=>by simp
 | k,c :: l,h=>by
  simp only [seqs] at h
  simp only [List.foldl_cons,List.length_cons]
  rw [h.1,show mx k (k + 1)=k + 1 by simp only [mx]; split <;> omega,foldl_seqs h.2]
  push_cast
  omega
theorem LgI.known {d r:List Chg} {v u:Vn 4} (h:LgI d r v u):knownG (d++r) (zV 4)=v:=by
 apply Vn.ext_at
 intro i hi
 rw [known_at i hi _ h.rep]
 obtain ⟨h1,h2⟩:=h.sq (i:Int) (by omega) (by omega)
 rw [zV_at,foldl_seqs h1]
 simp only [Int.toNat_natCast] at h2
 omega
theorem LgI.knownR {d r:List Chg} {v u:Vn 4} (h:LgI d r v u):AE.knownR (d++r) (zV 4)=v:=by rw [knownR_eq _ h.rep,h.known]
end Go.Proofs.YtjoaigccapegpaaGreat.AE
