/-
 Cuts as octets, and back: plain. Conditions: none; every lemma names its own.
-/
import Derived.Test.YtfbooejaabdkoaaOOc0
set_option linter.constructorNameAsVariable false
namespace Go.Proofs.Ytfbooejaabdkoaa.AE
open Go Go.Proofs Go.RowKit
set_option linter.unusedVariables false
def fillV (v:Vn 8) (r:Rd):Nat->Vn 8
 | 0=>v
 | i + 1=>(fillV v r i).put i (tk 8 (rdRs 8 r i))
where
 rdRs (z:Nat) (r:Rd):Nat->Rd
 | 0=>r
 | i + 1=>rdR z (rdRs z r i)
def rdRs (z:Nat) (r:Rd) (i:Nat):Rd:=fillV.rdRs z r i
theorem rdRs_zero (z r):rdRs z r 0=r:=rfl
theorem rdRs_succ (z r i):rdRs z r (i + 1)=rdR z (rdRs z r i):=rfl
theorem fillV_succ (v r i):fillV v r (i + 1)=(fillV v r i).put i (tk 8 (rdRs 8 r i)):=rfl
def fillK (r:Rd):Nat->Vn 4
 | 0=>zV 4
 | i + 1=>(fillK r i).put i (tk 2 (rdRs 2 r i))
theorem rdRs_good {z:Nat} {r:Rd} {n:Nat} (h:Oct r.2) (hl:r.2.length<=n):∀ i,Oct (rdRs z r i).2/\(rdRs z r i).2.length<=n
 | 0=>⟨h,hl⟩
 | i + 1=>by
  obtain ⟨h1,h2⟩:=rdRs_good (z:=z) h hl i
  rw [rdRs_succ]
  exact ⟨rdR_oct h1,Nat.le_trans (rdR_len _ _) h2⟩
def ordG (r:Rd):Ord × Rd:=
 let r1:=rdR 1 r
 let r2:=rdR 2 r1
 let r3:=rdR 1 r2
 let r4:=rdR 1 r3
 let r5:=rdR 8 r4
 let r6:=rdR 8 r5
 (⟨⟨tk 1 r,tk 2 r1⟩,tk 1 r2,tk 1 r3,tk 8 r4,tk 8 r5,tk 1 r6⟩,rdR 1 r6)
theorem ordG_good {r:Rd} {n:Nat} (h:Oct r.2) (hl:r.2.length<=n):Oct (ordG r).2.2/\(ordG r).2.2.length<=n:=by
 have key:∀ (z:Nat) {r:Rd},Oct r.2/\r.2.length<=n->Oct (rdR z r).2/\(rdR z r).2.length<=n:=fun z r ⟨h1,h2⟩=>⟨rdR_oct h1,Nat.le_trans (rdR_len _ _) h2⟩
 exact key 1 (key 8 (key 8 (key 1 (key 1 (key 2 (key 1 ⟨h,hl⟩))))))
def ordsG (r:Rd):Nat->List Ord × Rd
 | 0=>([],r)
 | i + 1=>((ordsG r i).1++[(ordG (ordsG r i).2).1],(ordG (ordsG r i).2).2)
theorem ordsG_len (r:Rd):∀ i,(ordsG r i).1.length=i
 | 0=>rfl
 | i + 1=>by simp [ordsG,ordsG_len r i]
theorem ordsG_good {r:Rd} {n:Nat} (h:Oct r.2) (hl:r.2.length<=n):∀ i,Oct (ordsG r i).2.2/\(ordsG r i).2.2.length<=n
 | 0=>⟨h,hl⟩
 | i + 1=>by
  obtain ⟨h1,h2⟩:=ordsG_good h hl i
  exact ordG_good h1 h2
structure CutS where
 n:Int
 k:Vn 4
 b:Bk
 os:List Ord
 deriving DecidableEq
def zCut:CutS:=⟨0,zV 4,zBk,[]⟩
def cCutS (c:CutS):List AV:=cCut c.n c.k c.b (.sl 7 (rows cOrd c.os))
def mayC (a:Id):Bool:=decide (0<=a.rep/\a.rep < 4/\1<=a.seq/\a.seq<=65535)
def octB (x:Int):Bool:=decide (0<=x/\x<=255)
def wideB (x:Int):Bool:=decide (0<=x/\x<=65535)
def risesB (os:List Ord) (i:Nat) (o:Ord):Bool:=decide (i=0) || (match os[i - 1]? with | some p=>lessId p.id o.id | none=>true)
def ordB (os:List Ord) (i:Nat) (o:Ord):Bool:=risesB os i o && (mayC o.id && (octB o.buyer && (octB o.item && octB o.state)))
def ordsB (os:List Ord):Nat->Bool
 | 0=>true
 | i + 1=>ordsB os i && (match os[i]? with | some o=>ordB os i o | none=>true)
def knB (v:Vn 4):Nat->Bool
 | 0=>true
 | i + 1=>knB v i && wideB (v.at i)
def checkC (c:CutS):Bool:=decide (0<=c.n/\c.n<=48) && (decide (c.os.length<=32) && (knB c.k 4 && ordsB c.os c.os.length))
def octO (o:Ord):List Int:=be 1 o.id.rep++(be 2 o.id.seq++(be 1 o.buyer++(be 1 o.item++(be 8 o.qty++(be 8 o.cost++be 1 o.state)))))
def octV {n:Nat} (z:Nat) (v:Vn n):Nat->List Int
 | 0=>[]
 | i + 1=>octV z v i++be z (v.at i)
def octs (c:CutS):List Int:=be 1 c.n++(octV 2 c.k 4++(octV 8 c.b.st 8++(octV 8 c.b.pr 8++(octV 8 c.b.pu 8++(be 1 c.os.length++c.os.flatMap octO)))))
theorem octV_oct {n:Nat} (z:Nat) (v:Vn n):∀ i,Oct (octV z v i)
 | 0=>Oct.nil
 | i + 1=>(octV_oct z v i).app (be_oct _ _)
theorem octV_len {n:Nat} (z:Nat) (v:Vn n):∀ i,(octV z v i).length=z * i
 | 0=>rfl
 | i + 1=>by simp [octV,octV_len z v i,be_len,Nat.mul_succ]
theorem octO_oct (o:Ord):Oct (octO o):=(be_oct _ _).app ((be_oct _ _).app ((be_oct _ _).app ((be_oct _ _).app ((be_oct _ _).app ((be_oct _ _).app (be_oct _ _))))))
theorem octO_len (o:Ord):(octO o).length=22:=by simp [octO,be_len]
theorem octOs_oct (os:List Ord):Oct (os.flatMap octO):=by
 induction os with
 | nil=>exact Oct.nil
 | cons o os ih=>exact (octO_oct o).app ih
theorem octOs_len (os:List Ord):(os.flatMap octO).length=22 * os.length:=by
 induction os with
 | nil=>rfl
 | cons o os ih=>simp only [List.flatMap_cons,List.length_append,octO_len,ih,List.length_cons]; omega
theorem octs_oct (c:CutS):Oct (octs c):=(be_oct _ _).app ((octV_oct _ _ _).app ((octV_oct _ _ _).app ((octV_oct _ _ _).app ((octV_oct _ _ _).app ((be_oct _ _).app (octOs_oct _))))))
theorem octs_len (c:CutS):(octs c).length=202 + 22 * c.os.length:=by
 simp only [octs,List.length_append,be_len,octV_len,octOs_len]
 omega
def getG (b:List Int):CutS:=
 let r0:Rd:=(false,b)
 let ra:=rdR 1 r0
 let rb:=rdRs 2 ra 4
 let rc:=rdRs 8 rb 8
 let rd:=rdRs 8 rc 8
 let re:=rdRs 8 rd 8
 ⟨tk 1 r0,fillK ra 4,⟨fillV (zV 8) rb 8,fillV (zV 8) rc 8,fillV (zV 8) rd 8⟩,(ordsG (rdR 1 re) (mn (tk 1 re) 32).toNat).1⟩
def getB (b:List Int):Bool:=checkC (getG b) && decide (octs (getG b)=b)
def getC (b:List Int):CutS:=if getB b=true then getG b else zCut
theorem fillV_back (v u:Vn 8) (hv:∀ i,i < 8->-9223372036854775808<=v.at i/\v.at i<=9223372036854775807):∀ (i j:Nat) (t:List Int),i + j=8 ->
  ∃ s,s++t=s++t/\rdRs 8 (false,octV 8 v i++t) i=(false,t)/\∀ k,k < 8->(fillV u (false,octV 8 v i++t) i).at k=if k < i then v.at k else u.at k
 | 0,j,t,h=>⟨[],rfl,rfl,fun k hk=>by simp [fillV]⟩
 | i + 1,j,t,h=>by
  obtain ⟨_,_,h1,h2⟩:=fillV_back v u hv i (j + 1) (be 8 (v.at i)++t) (by omega)
  refine ⟨[],rfl,?_,fun k hk=>?_⟩
  · rw [rdRs_succ,octV,List.append_assoc,h1,rdR_be]
  ·
   rw [fillV_succ,octV,List.append_assoc,h1,put_at _ _ _ _ (by omega),h2 k hk,tk8 (hv i (by omega))]
   by_cases e:i=k
   · subst e; simp
   ·
    rw [if_neg e]
    by_cases e2:k < i
    · rw [if_pos e2,if_pos (by omega)]
    · rw [if_neg e2,if_neg (by omega)]
theorem fillK_back (v:Vn 4) (hv:∀ i,i < 4->0<=v.at i/\v.at i<=65535):∀ (i j:Nat) (t:List Int),i + j=4 ->
  rdRs 2 (false,octV 2 v i++t) i=(false,t)/\∀ k,k < 4->(fillK (false,octV 2 v i++t) i).at k=if k < i then v.at k else 0
 | 0,j,t,h=>⟨rfl,fun k hk=>by simp [fillK,zV_at]⟩
 | i + 1,j,t,h=>by
  obtain ⟨h1,h2⟩:=fillK_back v hv i (j + 1) (be 2 (v.at i)++t) (by omega)
  refine ⟨?_,fun k hk=>?_⟩
  · rw [rdRs_succ,octV,List.append_assoc,h1,rdR_be]
  ·
   rw [fillK,octV,List.append_assoc,h1,put_at _ _ _ _ (by omega),h2 k hk,tk2 (hv i (by omega))]
   by_cases e:i=k
   · subst e; simp
   ·
    rw [if_neg e]
    by_cases e2:k < i
    · rw [if_pos e2,if_pos (by omega)]
    · rw [if_neg e2,if_neg (by omega)]
def I64n (x:Int):Prop:=-9223372036854775808<=x/\x<=9223372036854775807
theorem ordG_back {o:Ord} (h1:mayC o.id=true) (h2:octB o.buyer=true) (h3:octB o.item=true) (h4:octB o.state=true) (h5:I64n o.qty) (h6:I64n o.cost) (t:List Int):ordG (false,octO o++t)=(o,(false,t)):=by
 simp only [mayC,octB,decide_eq_true_eq] at h1 h2 h3 h4
 simp only [ordG,octO,List.append_assoc,rdR_be,tk1 (show 0<=o.id.rep/\o.id.rep<=255 by omega),tk2 (show 0<=o.id.seq/\o.id.seq<=65535 by omega),tk1 h2,tk1 h3,tk1 h4,tk8 h5,tk8 h6]
theorem ordsB_at {os:List Ord}:∀ {n:Nat},ordsB os n=true->∀ (i:Nat) (o:Ord),i < n->os[i]?=some o->ordB os i o=true
 | 0,_,i,o,hi,_=>by omega
 | n + 1,h,i,o,hi,ho=>by
  simp only [ordsB,Bool.and_eq_true] at h
  by_cases e:i=n
  ·
   subst e
   have:=h.2
   rw [ho] at this
   exact this
  · exact ordsB_at h.1 i o (by omega) ho
theorem knB_at {v:Vn 4}:∀ {n:Nat},knB v n=true->∀ i,i < n->0<=v.at i/\v.at i<=65535
 | 0,_,i,hi=>by omega
 | n + 1,h,i,hi=>by
  simp only [knB,Bool.and_eq_true,wideB,decide_eq_true_eq] at h
  by_cases e:i=n
  · subst e; exact h.2
  · exact knB_at h.1 i (by omega)
theorem ordsG_back {os:List Ord} (hb:ordsB os os.length=true) (hi:∀ o ∈ os,I64n o.qty/\I64n o.cost):∀ (k:Nat) (t:List Int),k<=os.length->ordsG (false,(os.take k).flatMap octO++t) k=(os.take k,(false,t))
 | 0,t,_=>by simp [ordsG]
 | k + 1,t,h=>by
  obtain ⟨o,ho⟩:∃ o,os[k]?=some o:=⟨_,List.getElem?_eq_getElem (by omega)⟩
  have e:os.take (k + 1)=os.take k++[o]:=by rw [List.take_add_one,ho]; rfl
  have hB:=ordsB_at hb k o (by omega) ho
  simp only [ordB,Bool.and_eq_true] at hB
  have hI:=hi o (List.mem_of_getElem? ho)
  have e2:(os.take (k + 1)).flatMap octO++t=(os.take k).flatMap octO++(octO o++t):=by rw [e]; simp
  rw [e2]
  simp only [ordsG]
  rw [ordsG_back hb hi k _ (by omega),ordG_back hB.2.1 hB.2.2.1 hB.2.2.2.1 hB.2.2.2.2 hI.1 hI.2,e]
def CutI (c:CutS):Prop:=(∀ i,i < 8->I64n (c.b.st.at i))/\(∀ i,i < 8->I64n (c.b.pr.at i))/\(∀ i,i < 8->I64n (c.b.pu.at i))/\∀ o ∈ c.os,I64n o.qty/\I64n o.cost
theorem getG_back {c:CutS} (hc:checkC c=true) (hi:CutI c):getG (octs c)=c:=by
 obtain ⟨i1,i2,i3,i4⟩:=hi
 simp only [checkC,Bool.and_eq_true,decide_eq_true_eq] at hc
 obtain ⟨h1,h2,h3,h4⟩:=hc
 obtain ⟨n,k,⟨st,pr,pu⟩,os⟩:=c
 simp only at h1 h2 h3 h4 i1 i2 i3 i4
 have z8:∀ (v u:Vn 8),(∀ k,k < 8->u.at k=if k < 8 then v.at k else (zV 8).at k)->u=v:=fun v u h=>Vn.ext_at fun k hk=>by rw [h k hk,if_pos hk]
 unfold getG octs
 simp only [rdR_be,tk1 (show 0<=n/\n<=255 by omega)]
 obtain ⟨a1,a2⟩:=fillK_back k (knB_at h3) 4 0 (octV 8 st 8++(octV 8 pr 8++(octV 8 pu 8++(be 1 (os.length:Int)++os.flatMap octO)))) rfl
 rw [a1]
 obtain ⟨_,_,b1,b2⟩:=fillV_back st (zV 8) i1 8 0 (octV 8 pr 8++(octV 8 pu 8++(be 1 (os.length:Int)++os.flatMap octO))) rfl
 rw [b1]
 obtain ⟨_,_,c1,c2⟩:=fillV_back pr (zV 8) i2 8 0 (octV 8 pu 8++(be 1 (os.length:Int)++os.flatMap octO)) rfl
 rw [c1]
 obtain ⟨_,_,d1,d2⟩:=fillV_back pu (zV 8) i3 8 0 (be 1 (os.length:Int)++os.flatMap octO) rfl
 rw [d1,rdR_be,tk1 (show 0<=(os.length:Int)/\(os.length:Int)<=255 by omega),show (mn (os.length:Int) 32).toNat=os.length by unfold mn; split <;> omega]
 have o1:=ordsG_back h4 i4 os.length [] (Nat.le_refl _)
 rw [List.take_length,List.append_nil] at o1
 rw [o1,z8 st _ b2,z8 pr _ c2,z8 pu _ d2,show fillK _ 4=k from Vn.ext_at fun j hj=>by rw [a2 j hj,if_pos hj]]
theorem getC_back {c:CutS} (hc:checkC c=true) (hi:CutI c):getB (octs c)=true/\getC (octs c)=c:=by
 have h:=getG_back hc hi
 have hb:getB (octs c)=true:=by
  rw [getB,h,hc]
  simp
 exact ⟨hb,by rw [getC,if_pos hb,h]⟩
end Go.Proofs.Ytfbooejaabdkoaa.AE
