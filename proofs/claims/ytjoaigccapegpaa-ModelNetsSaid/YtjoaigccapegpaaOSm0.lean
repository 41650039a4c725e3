/-
 Stable sorting, plainly: putting in, merging, sorting by blocks. Conditions: none; every lemma names its own.
-/
import Derived.Test.YtjoaigccapegpaaPe
set_option linter.constructorNameAsVariable false
namespace Go.Proofs.Ytjoaigccapegpaa.AE
open Go Go.Proofs Go.RowKit
set_option linter.unusedVariables false
set_option linter.unusedSimpArgs false
structure Ordr {α:Type} (p:α->α->Int):Prop where
 tr:∀ x y z,¬ p y x < 0->¬ p z y < 0->¬ p z x < 0
 asym:∀ x y,p x y < 0->¬ p y x < 0
section
variable {α:Type} {p:α->α->Int}
theorem Ordr.rf (h:Ordr p) (x:α):¬ p x x < 0:=fun hx=>h.asym x x hx hx
theorem Ordr.lt1 (h:Ordr p) {x y z:α} (h1:¬ p y x < 0) (h2:p y z < 0):p x z < 0:=by
 by_cases hc:p x z < 0
 · exact hc
 · exact absurd h2 (h.tr z x y hc h1)
theorem Ordr.lt2 (h:Ordr p) {x y z:α} (h1:p x y < 0) (h2:¬ p z y < 0):p x z < 0:=by
 by_cases hc:p x z < 0
 · exact hc
 · exact absurd h1 (h.tr y z x h2 hc)
def Srt (p:α->α->Int) (l:List α):Prop:=l.Pairwise fun x y=>¬ p y x < 0
def putO (p:α->α->Int) (x:α):List α->List α
 | []=>[x]
 | y :: r=>if p y x < 0 then y :: putO p x r else x :: y :: r
def ordL (p:α->α->Int):List α->List α
 | []=>[]
 | x :: r=>putO p x (ordL p r)
def mrg (p:α->α->Int) (X Y:List α):List α:=X.foldr (putO p) Y
theorem mrg_nil (Y:List α):mrg p [] Y=Y:=rfl
theorem mrg_cons (x:α) (X Y:List α):mrg p (x :: X) Y=putO p x (mrg p X Y):=rfl
theorem mrg_append (X X' Y:List α):mrg p (X++X') Y=mrg p X (mrg p X' Y):=by simp [mrg]
theorem ordL_mrg (l:List α):ordL p l=mrg p l []:=by
 induction l with
 | nil=>rfl
 | cons x r ih=>rw [ordL,ih]; rfl
theorem ordL_append (X Y:List α):ordL p (X++Y)=mrg p X (ordL p Y):=by
 rw [ordL_mrg,ordL_mrg,mrg_append]
theorem putO_len (x:α):∀ l:List α,(putO p x l).length=l.length + 1
 | []=>rfl
 | y :: r=>by
  unfold putO
  split
  · simp [putO_len x r]
  · simp
theorem mrg_len:∀ X Y:List α,(mrg p X Y).length=X.length + Y.length
 | [],Y=>by simp [mrg]
 | x :: X,Y=>by rw [mrg_cons,putO_len,mrg_len X Y]; simp; omega
theorem ordL_len (l:List α):(ordL p l).length=l.length:=by rw [ordL_mrg,mrg_len]; rfl
theorem putO_mem (x:α):∀ (l:List α) (z:α),z ∈ putO p x l ↔ z=x\/z ∈ l
 | [],z=>by simp [putO]
 | y :: r,z=>by
  unfold putO
  split
  ·
   simp only [List.mem_cons,putO_mem x r z]
   constructor
   · rintro (h | h | h) <;> simp [h]
   · rintro (h | h | h) <;> simp [h]
  · simp
theorem mrg_mem:∀ (X Y:List α) (z:α),z ∈ mrg p X Y ↔ z ∈ X\/z ∈ Y
 | [],Y,z=>by simp [mrg]
 | x :: X,Y,z=>by
  rw [mrg_cons,putO_mem,mrg_mem X Y z,List.mem_cons,or_assoc]
theorem putO_srt (h:Ordr p) (x:α):∀ {l:List α},Srt p l->Srt p (putO p x l)
 | [],_=>by simp [putO,Srt]
 | y :: r,hl=>by
  have h1:∀ {z:α},z ∈ r->¬ p z y < 0:=fun hz=>List.rel_of_pairwise_cons hl hz
  have h2:Srt p r:=List.Pairwise.of_cons hl
  unfold putO
  split
  ·
   rename_i hy
   refine List.Pairwise.cons (fun z hz=>?_) (putO_srt h x h2)
   rcases (putO_mem x r z).1 hz with rfl | hz
   · exact h.asym _ _ hy
   · exact h1 hz
  ·
   rename_i hy
   refine List.Pairwise.cons (fun z hz=>?_) hl
   rcases List.mem_cons.1 hz with rfl | hz
   · exact hy
   · exact h.tr _ _ _ hy (h1 hz)
theorem mrg_srt (h:Ordr p):∀ (X:List α) {Y:List α},Srt p Y->Srt p (mrg p X Y)
 | [],Y,hY=>hY
 | x :: X,Y,hY=>putO_srt h x (mrg_srt h X hY)
theorem ordL_srt (h:Ordr p) (l:List α):Srt p (ordL p l):=by
 rw [ordL_mrg]
 exact mrg_srt h l (List.Pairwise.nil)
theorem putO_at (x:α):∀ {U V:List α},(∀ u ∈ U,p u x < 0)->(∀ v ∈ V.head?,¬ p v x < 0)->putO p x (U++V)=U++x :: V
 | [],V,_,hV=>by
  cases V with
  | nil=>rfl
  | cons v r=>
   have:=hV v (by simp)
   simp only [List.nil_append,putO]
   rw [if_neg this]
 | u :: U,V,hU,hV=>by
  simp only [List.cons_append,putO]
  rw [if_pos (hU u (by simp)),putO_at x (fun z hz=>hU z (by simp [hz])) hV]
theorem putO_left (x:α):∀ {Y Z:List α},(∀ y ∈ Y,p y x < 0)->putO p x (Y++Z)=Y++putO p x Z
 | [],Z,_=>rfl
 | y :: Y,Z,h=>by
  simp only [List.cons_append,putO]
  rw [if_pos (h y (by simp)),putO_left x fun z hz=>h z (by simp [hz])]
theorem putO_right (x:α):∀ {W Z:List α},(∀ z ∈ Z,¬ p z x < 0)->putO p x (W++Z)=putO p x W++Z
 | [],Z,h=>by
  cases Z with
  | nil=>rfl
  | cons z r=>
   simp only [List.nil_append,putO]
   rw [if_neg (h z (by simp))]
   rfl
 | w :: W,Z,h=>by
  simp only [List.cons_append,putO]
  split
  · rw [putO_right x h]; rfl
  · rfl
theorem mrg_split {X1 X2 Y1 Y2:List α} (hx:∀ x ∈ X1,∀ z ∈ X2,¬ p z x < 0) (h1:∀ x ∈ X1,∀ y ∈ Y2,¬ p y x < 0) (h2:∀ y ∈ Y1,∀ x ∈ X2,p y x < 0) :
  mrg p (X1++X2) (Y1++Y2)=mrg p X1 Y1++mrg p X2 Y2:=by
 rw [mrg_append]
 have e:mrg p X2 (Y1++Y2)=Y1++mrg p X2 Y2:=by
  clear hx h1
  induction X2 with
  | nil=>rfl
  | cons x X ih=>
   rw [mrg_cons,ih (fun y hy z hz=>h2 y hy z (by simp [hz])),putO_left x fun y hy=>h2 y hy x (by simp)]
   rfl
 rw [e]
 have hz:∀ x ∈ X1,∀ z ∈ mrg p X2 Y2,¬ p z x < 0:=fun x hxm z hz=>by
  rcases (mrg_mem X2 Y2 z).1 hz with h | h
  · exact hx x hxm z h
  · exact h1 x hxm z h
 generalize mrg p X2 Y2=Z at hz
 clear e hx h1 h2
 induction X1 with
 | nil=>rfl
 | cons x X ih=>
  rw [mrg_cons,ih (fun y hy=>hz y (by simp [hy])),putO_right x (hz x (by simp))]
  rfl
theorem mrg_self (h:Ordr p):∀ {X:List α},Srt p X->mrg p X []=X
 | [],_=>rfl
 | x :: X,hX=>by
  have h1:∀ {z:α},z ∈ X->¬ p z x < 0:=fun hz=>List.rel_of_pairwise_cons hX hz
  rw [mrg_cons,mrg_self h (List.Pairwise.of_cons hX)]
  have:=putO_at (p:=p) x (U:=[]) (V:=X) (fun u hu=>by cases hu) (fun v hv=>h1 (List.mem_of_mem_head? hv))
  simpa using this
theorem ordL_self (h:Ordr p) {X:List α} (hX:Srt p X):ordL p X=X:=by rw [ordL_mrg,mrg_self h hX]
theorem putO_comm (h:Ordr p) {x y:α} (hyx:p y x < 0):∀ {L:List α},Srt p L->putO p x (putO p y L)=putO p y (putO p x L)
 | [],_=>by
  simp only [putO]
  rw [if_pos hyx,if_neg (h.asym _ _ hyx)]
 | z :: r,hL=>by
  by_cases h1:p z y < 0
  ·
   have h2:p z x < 0:=h.lt1 (h.asym _ _ h1) hyx |> fun q=>by
    by_cases hc:p z x < 0
    · exact hc
    · exact absurd hyx (fun hh=>hc (h.lt2 h1 (h.asym _ _ hh)))
   simp only [putO]
   rw [if_pos h1,if_pos h2]
   simp only [putO]
   rw [if_pos h1,if_pos h2,putO_comm h hyx (List.Pairwise.of_cons hL)]
  ·
   by_cases h2:p z x < 0
   ·
    simp only [putO]
    rw [if_neg h1,if_pos h2]
    simp only [putO]
    rw [if_pos hyx,if_neg h1,if_pos h2]
   ·
    simp only [putO]
    rw [if_neg h1,if_neg h2]
    simp only [putO]
    rw [if_pos hyx,if_neg h2,if_neg (h.asym _ _ hyx)]
theorem mrg_putO (h:Ordr p) (x:α):∀ (A:List α) {Y:List α},Srt p Y->mrg p (putO p x A) Y=putO p x (mrg p A Y)
 | [],Y,hY=>rfl
 | z :: A,Y,hY=>by
  have e:putO p x (z :: A)=if p z x < 0 then z :: putO p x A else x :: z :: A:=rfl
  rw [e]
  split
  ·
   rename_i hz
   rw [mrg_cons,mrg_putO h x A hY,mrg_cons,<-putO_comm h hz (mrg_srt h A hY)]
  · rfl
theorem mrg_ordL (h:Ordr p):∀ (X:List α) {Y:List α},Srt p Y->mrg p (ordL p X) Y=mrg p X Y
 | [],Y,hY=>rfl
 | x :: X,Y,hY=>by rw [ordL,mrg_putO h x _ hY,mrg_ordL h X hY]; rfl
theorem ordL_two (h:Ordr p) (X Y:List α):mrg p (ordL p X) (ordL p Y)=ordL p (X++Y):=by
 rw [mrg_ordL h X (ordL_srt h Y),ordL_append]
theorem ordL_idem (h:Ordr p) (X:List α):ordL p (ordL p X)=ordL p X:=ordL_self h (ordL_srt h X)
theorem mrg_one (h:Ordr p) {U V:List α} {y:α} (hs:Srt p (U++V)) (hU:∀ u ∈ U,¬ p y u < 0) (hV:∀ v ∈ V,p y v < 0):mrg p (U++V) [y]=U++y :: V:=by
 have h1:=List.pairwise_append.1 hs
 have:=mrg_split (p:=p) (X1:=U) (X2:=V) (Y1:=[y]) (Y2:=[]) (fun x hx z hz=>h1.2.2 x hx z hz) (fun x _ y hy=>by cases hy) (fun z hz x hx=>by
  simp only [List.mem_singleton] at hz
  subst hz
  exact hV x hx)
 simp only [List.append_nil] at this
 rw [this,mrg_self h h1.2.1]
 have h2:=mrg_split (p:=p) (X1:=U) (X2:=[]) (Y1:=[]) (Y2:=[y]) (fun x hx z hz=>by cases hz) (fun x hx z hz=>by
  simp only [List.mem_singleton] at hz
  subst hz
  exact hU x hx) (fun z hz=>by cases hz)
 simp only [List.append_nil,List.nil_append] at h2
 rw [h2,mrg_self h h1.1,mrg_nil]
 simp
def bubG (p:α->α->Int) (a:Nat):Nat->List α->List α
 | 0,L=>L
 | j + 1,L=>if a < j + 1 then match L[j + 1]?,L[j]? with
  | some x,some y=>if p x y < 0 then bubG p a j ((L.set (j + 1) y).set j x) else L
  | _,_=>L else L
def insG (p:α->α->Int) (a:Nat):Nat->Nat->List α->List α
 | 0,_,L=>L
 | n + 1,i,L=>insG p a n (i + 1) (bubG p a i L)
theorem get_mid (A Z:List α) (x:α):(A++x :: Z)[A.length]?=some x:=by simp
theorem get_mid1 (A Z:List α) (x y:α):(A++x :: y :: Z)[A.length + 1]?=some y:=by
 rw [List.getElem?_append_right (by omega)]; simp
theorem set_mid (A Z:List α) (x y:α):(A++x :: Z).set A.length y=A++y :: Z:=by
 rw [List.set_append_right _ _ (by omega)]; simp
theorem set_mid2 (A Z:List α) (x y u v:α):((A++x :: y :: Z).set (A.length + 1) u).set A.length v=A++v :: u :: Z:=by
 rw [List.set_append_right _ _ (by omega),List.set_append_right _ _ (by omega)]; simp
theorem bubG_at (h:Ordr p) (x:α):∀ (n:Nat) (A P Z:List α),P.length=n->Srt p P->bubG p A.length (A.length + n) (A++P++x :: Z)=A++mrg p P [x]++Z:=by
 intro n
 induction n with
 | zero=>
  intro A P Z hP _
  obtain rfl:=List.eq_nil_of_length_eq_zero hP
  have:bubG p A.length A.length (A++x :: Z)=A++x :: Z:=by
   cases hA:A.length with
   | zero=>rfl
   | succ k=>unfold bubG; rw [if_neg (by omega)]
  simpa [mrg] using this
 | succ n ih=>
  intro A P Z hP hs
  obtain ⟨Q,y,rfl⟩:∃ Q y,P=Q++[y]:=by
   have hne:P ≠ []:=by intro hh; rw [hh] at hP; simp at hP
   exact ⟨P.dropLast,P.getLast hne,(List.dropLast_concat_getLast hne).symm⟩
  have hQ:Q.length=n:=by simp at hP; omega
  have hsp:=List.pairwise_append.1 hs
  have hAQ:(A++Q).length=A.length + n:=by simp [hQ]
  have e1:A++(Q++[y])++x :: Z=(A++Q)++y :: x :: Z:=by simp
  rw [e1,<-Nat.add_assoc]
  show (if A.length < A.length + n + 1 then match ((A++Q)++y :: x :: Z)[A.length + n + 1]?,((A++Q)++y :: x :: Z)[A.length + n]? with
   | some x',some y'=>if p x' y' < 0 then bubG p A.length (A.length + n) ((((A++Q)++y :: x :: Z).set (A.length + n + 1) y').set (A.length + n) x') else (A++Q)++y :: x :: Z
   | _,_=>(A++Q)++y :: x :: Z else (A++Q)++y :: x :: Z)=_
  rw [if_pos (by omega),<-hAQ,get_mid1,get_mid]
  simp only
  split
  ·
   rename_i hlt
   rw [set_mid2,hAQ,ih A Q (y :: Z) hQ hsp.1]
   rw [mrg_append]
   have:mrg p [y] [x]=x :: [y]:=by
    show putO p y [x]=_
    simp only [putO]
    rw [if_pos hlt]
   rw [this]
   have h3:=mrg_split (p:=p) (X1:=Q) (X2:=[]) (Y1:=[x]) (Y2:=[y]) (fun a _ z hz=>by cases hz) (fun q hq z hz=>by
    simp only [List.mem_singleton] at hz
    subst hz
    exact hsp.2.2 q hq z (by simp)) (fun z _ q hq=>by cases hq)
   simp only [List.append_nil,mrg_nil] at h3
   have h4:mrg p Q (x :: [y])=mrg p Q [x]++[y]:=h3
   rw [h4]
   simp
  ·
   rename_i hlt
   have:mrg p (Q++[y]) [x]=(Q++[y])++[x]:=by
    have:=mrg_one h (U:=Q++[y]) (V:=[]) (y:=x) (by simpa using hs) (fun u hu=>by
     rcases List.mem_append.1 hu with hu | hu
     · exact h.tr _ _ _ (hsp.2.2 u hu y (by simp)) hlt
     · simp only [List.mem_singleton] at hu; subst hu; exact hlt) (fun v hv=>by cases hv)
    simpa using this
   rw [this]
   simp
theorem insG_at (h:Ordr p):∀ (Q A P Z:List α),Srt p P->insG p A.length Q.length (A.length + P.length) (A++P++Q++Z)=A++mrg p P (ordL p Q)++Z
 | [],A,P,Z,hs=>by
  simp only [List.length_nil,insG,List.append_nil,ordL,mrg_self h hs]
 | x :: Q,A,P,Z,hs=>by
  simp only [List.length_cons,insG]
  have e:A++P++x :: Q++Z=A++P++x :: (Q++Z):=by simp
  rw [e,bubG_at h x P.length A P (Q++Z) rfl hs]
  have hl:A.length + P.length + 1=A.length + (mrg p P [x]).length:=by rw [mrg_len]; simp; omega
  have hs2:Srt p (mrg p P [x]):=mrg_srt h P (List.pairwise_singleton _ _)
  rw [hl,show A++mrg p P [x]++(Q++Z)=A++mrg p P [x]++Q++Z by simp,insG_at h Q A (mrg p P [x]) Z hs2]
  have:mrg p (mrg p P [x]) (ordL p Q)=mrg p P (ordL p (x :: Q)):=by
   have e1:mrg p P [x]=ordL p (P++[x]):=by rw [ordL_append]; rfl
   rw [e1,mrg_ordL h _ (ordL_srt h Q),mrg_append]
   rfl
  rw [this]
theorem insG_seg (h:Ordr p) (A Q Z:List α):insG p A.length (Q.length - 1) (A.length + 1) (A++Q++Z)=A++ordL p Q++Z:=by
 cases Q with
 | nil=>simp [insG,ordL]
 | cons x Q=>
  have:=insG_at h Q A [x] Z (List.pairwise_singleton _ _)
  have e:A++[x]++Q++Z=A++x :: Q++Z:=by simp
  rw [e] at this
  simp only [List.length_singleton] at this
  simp only [List.length_cons,List.length_nil,Nat.add_sub_cancel]
  rw [this]
  rfl
def blk (p:α->α->Int) (k:Nat):Nat->List α->List α
 | 0,l=>l
 | j + 1,l=>ordL p (l.take k)++blk p k j (l.drop k)
theorem blk_len (k:Nat):∀ (j:Nat) (l:List α),(blk p k j l).length=l.length
 | 0,l=>rfl
 | j + 1,l=>by simp [blk,ordL_len,blk_len k j]; omega
theorem blk_nil (k:Nat):∀ j,blk p k j []=[]
 | 0=>rfl
 | j + 1=>by simp [blk,ordL,blk_nil k j]
theorem blk_succ (k:Nat):∀ (j:Nat) (l:List α),j * k<=l.length->∃ A,A.length=j * k/\blk p k j l=A++l.drop (j * k)/\blk p k (j + 1) l=A++ordL p ((l.drop (j * k)).take k)++l.drop (j * k + k)
 | 0,l,_=>⟨[],by simp,by simp [blk],by simp [blk]⟩
 | j + 1,l,h=>by
  have hk:k<=l.length:=by
   have:(j + 1) * k=j * k + k:=by rw [Nat.add_mul]; omega
   omega
  obtain ⟨A,h1,h2,h3⟩:=blk_succ k j (l.drop k) (by simp; rw [Nat.add_mul] at h; omega)
  refine ⟨ordL p (l.take k)++A,by simp [ordL_len,h1,Nat.add_mul]; omega,?_,?_⟩
  ·
   show ordL p (l.take k)++blk p k j (l.drop k)=_
   rw [h2,List.drop_drop,List.append_assoc,Nat.add_mul]
   congr 3
   omega
  ·
   show ordL p (l.take k)++blk p k (j + 1) (l.drop k)=_
   rw [h3,List.drop_drop,List.drop_drop]
   simp only [List.append_assoc,Nat.add_mul]
   congr 3
   · congr 3; omega
   · congr 1; omega
theorem blk_all (k:Nat):∀ (j:Nat) (l:List α),l.length<=j * k->∀ i,j<=i->blk p k i l=blk p k j l
 | 0,l,h,i,_=>by
  obtain rfl:=List.eq_nil_of_length_eq_zero (by omega:l.length=0)
  rw [blk_nil,blk_nil]
 | j + 1,l,h,0,hi=>by omega
 | j + 1,l,h,i + 1,hi=>by
  show _++blk p k i (l.drop k)=_++blk p k j (l.drop k)
  rw [blk_all k j (l.drop k) (by simp; rw [Nat.add_mul] at h; omega) i (by omega)]
theorem blk_one (k:Nat) (l:List α) (h:l.length<=k):blk p k 1 l=ordL p l:=by
 simp [blk,List.take_of_length_le h,List.drop_eq_nil_of_le h]
def mix (p:α->α->Int) (k i:Nat) (l:List α):List α:=blk p (2 * k) i (l.take (i * (2 * k)))++blk p k l.length (l.drop (i * (2 * k)))
theorem mix_len (k i:Nat) (l:List α):(mix p k i l).length=l.length:=by simp [mix,blk_len]; omega
theorem mix_zero (k:Nat) (l:List α):mix p k 0 l=blk p k l.length l:=by simp [mix,blk]
theorem blk_any (k:Nat) (hk:0 < k) (l:List α) {i j:Nat} (hi:l.length<=i) (hj:l.length<=j):blk p k i l=blk p k j l:=by
 have e:∀ i,l.length<=i->blk p k i l=blk p k l.length l:=fun i hi=>blk_all k l.length l (Nat.le_mul_of_pos_right _ hk) i hi
 rw [e i hi,e j hj]
theorem mix_step (h:Ordr p) (k i:Nat) (l:List α) (hk:0 < k) (hi:i * (2 * k) + k < l.length) :
  ∃ A X Y Z,A.length=i * (2 * k)/\X.length=k/\Y.length=min k (l.length - (i * (2 * k) + k))/\Srt p X/\Srt p Y/\mix p k i l=A++X++Y++Z/\mix p k (i + 1) l=A++mrg p X Y++Z:=by
 have hb:∃ n,l.length=n + 2:=⟨l.length - 2,by omega⟩
 obtain ⟨n,hn⟩:=hb
 have hd:(l.drop (i * (2 * k))).length<=n + 2:=by simp; omega
 have e1:blk p k l.length (l.drop (i * (2 * k)))=ordL p ((l.drop (i * (2 * k))).take k)++(ordL p (((l.drop (i * (2 * k))).drop k).take k)++blk p k n ((l.drop (i * (2 * k))).drop (2 * k))):=by
  rw [hn]
  have hdd:((l.drop (i * (2 * k))).drop k).drop k=(l.drop (i * (2 * k))).drop (2 * k):=by rw [List.drop_drop (l:=l.drop (i * (2 * k)))]; congr 1; omega
  show ordL p _++(ordL p _++blk p k n (((l.drop (i * (2 * k))).drop k).drop k))=_
  rw [hdd]
 obtain ⟨A,a1,a2,a3⟩:=blk_succ (p:=p) (2 * k) i (l.take ((i + 1) * (2 * k))) (by simp [Nat.add_mul]; omega)
 have hA:blk p (2 * k) i (l.take (i * (2 * k)))=A:=by
  have:∀ (j:Nat) (u v:List α),u.length=j * (2 * k)->blk p (2 * k) j (u++v)=blk p (2 * k) j u++v:=by
   intro j
   induction j with
   | zero=>intro u v hu; obtain rfl:=List.eq_nil_of_length_eq_zero (by omega:u.length=0); simp [blk]
   | succ j ih=>
    intro u v hu
    have hu2:2 * k<=u.length:=by rw [hu,Nat.add_mul]; omega
    simp only [blk]
    rw [List.take_append_of_le_length hu2,List.drop_append_of_le_length hu2,ih _ _ (by simp; rw [hu,Nat.add_mul]; omega),List.append_assoc]
  have h1:=this i (l.take (i * (2 * k))) ((l.take ((i + 1) * (2 * k))).drop (i * (2 * k))) (by simp; omega)
  have h2:l.take (i * (2 * k))++(l.take ((i + 1) * (2 * k))).drop (i * (2 * k))=l.take ((i + 1) * (2 * k)):=by
   have:l.take (i * (2 * k))=(l.take ((i + 1) * (2 * k))).take (i * (2 * k)):=by rw [List.take_take]; congr 1; rw [Nat.add_mul]; omega
   rw [this,List.take_append_drop]
  rw [h2,a2] at h1
  exact (List.append_inj h1 (by rw [blk_len,a1]; simp; omega)).1.symm
 have hs:(l.take ((i + 1) * (2 * k))).drop (i * (2 * k))=(l.drop (i * (2 * k))).take (2 * k):=by
  rw [List.drop_take,Nat.add_mul]; congr 1; omega
 have e2:blk p (2 * k) (i + 1) (l.take ((i + 1) * (2 * k)))=A++ordL p ((l.drop (i * (2 * k))).take (2 * k)):=by
  have hnil:(l.take ((i + 1) * (2 * k))).drop (i * (2 * k) + 2 * k)=[]:=List.drop_eq_nil_of_le (by rw [List.length_take,Nat.add_mul]; omega)
  rw [a3,hs,hnil,List.append_nil,List.take_take,Nat.min_self]
 refine ⟨A,ordL p ((l.drop (i * (2 * k))).take k),ordL p (((l.drop (i * (2 * k))).drop k).take k),blk p k n ((l.drop (i * (2 * k))).drop (2 * k)),a1,by simp [ordL_len]; omega,by simp [ordL_len,Nat.sub_sub],ordL_srt h _,ordL_srt h _,?_,?_⟩
 ·
  unfold mix
  rw [hA,e1]
  simp only [List.append_assoc]
 ·
  unfold mix
  rw [e2,ordL_two h]
  have h3:(l.drop (i * (2 * k))).take k++((l.drop (i * (2 * k))).drop k).take k=(l.drop (i * (2 * k))).take (2 * k):=by
   rw [Nat.two_mul,List.take_add]
  rw [h3]
  congr 1
  rw [List.drop_drop,show i * (2 * k) + 2 * k=(i + 1) * (2 * k) by rw [Nat.add_mul]; omega]
  refine blk_any k hk _ (by simp) ?_
  simp [Nat.add_mul]
  omega
theorem mix_last (h:Ordr p) (k i:Nat) (l:List α) (hk:0 < k) (hi:l.length<=i * (2 * k) + k):mix p k i l=blk p (2 * k) l.length l:=by
 by_cases hle:l.length<=i * (2 * k)
 ·
  unfold mix
  rw [List.take_of_length_le hle,List.drop_eq_nil_of_le hle,blk_nil,List.append_nil]
  by_cases hil:i<=l.length
  · exact (blk_all (2 * k) i l hle _ hil).symm
  · exact blk_all (2 * k) l.length l (Nat.le_mul_of_pos_right _ (by omega)) i (by omega)
 ·
  have hlt:i * (2 * k) < l.length:=by omega
  obtain ⟨A,a1,a2,a3⟩:=blk_succ (p:=p) (2 * k) i l (by omega)
  have e0:blk p (2 * k) l.length l=blk p (2 * k) (i + 1) l:=by
   have h1:i + 1<=l.length:=by
    have:i<=i * (2 * k):=Nat.le_mul_of_pos_right _ (by omega)
    omega
   exact blk_all (2 * k) (i + 1) l (by rw [Nat.add_mul]; omega) _ h1
  rw [e0,a3,List.drop_eq_nil_of_le (by omega:l.length<=i * (2 * k) + 2 * k),List.append_nil,List.take_of_length_le (by simp; omega:(l.drop (i * (2 * k))).length<=2 * k)]
  unfold mix
  have hA:blk p (2 * k) i (l.take (i * (2 * k)))=A:=by
   have:∀ (j:Nat) (u v:List α),u.length=j * (2 * k)->blk p (2 * k) j (u++v)=blk p (2 * k) j u++v:=by
    intro j
    induction j with
    | zero=>intro u v hu; obtain rfl:=List.eq_nil_of_length_eq_zero (by omega:u.length=0); simp [blk]
    | succ j ih=>
     intro u v hu
     have hu2:2 * k<=u.length:=by rw [hu,Nat.add_mul]; omega
     simp only [blk]
     rw [List.take_append_of_le_length hu2,List.drop_append_of_le_length hu2,ih _ _ (by simp; rw [hu,Nat.add_mul]; omega),List.append_assoc]
   have h1:=this i (l.take (i * (2 * k))) (l.drop (i * (2 * k))) (by simp; omega)
   rw [List.take_append_drop,a2] at h1
   exact (List.append_inj h1 (by rw [blk_len,a1]; simp; omega)).1.symm
  rw [hA]
  congr 1
  have:blk p k l.length (l.drop (i * (2 * k)))=blk p k 1 (l.drop (i * (2 * k))):=blk_all k 1 _ (by simp; omega) _ (by omega)
  rw [this,blk_one _ _ (by simp; omega)]
theorem blk_done (k:Nat) (l:List α) (hk:0 < k) (h:l.length<=k):blk p k l.length l=ordL p l:=by
 by_cases h0:l.length=0
 · obtain rfl:=List.eq_nil_of_length_eq_zero h0; rfl
 · rw [blk_all k 1 l (by omega) l.length (by omega),blk_one k l h]
end
end Go.Proofs.Ytjoaigccapegpaa.AE
