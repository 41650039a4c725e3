/-
 Go's symmetric merge, plainly: the parts come to the whole. Conditions: none; every lemma names its own.
-/
import Derived.Test.YtjoaigccapegpaaOSm1
set_option linter.constructorNameAsVariable false
namespace Go.Proofs.Ytjoaigccapegpaa.AE
open Go Go.Proofs Go.RowKit
set_option linter.unusedVariables false
set_option linter.unusedSimpArgs false
section
variable {α:Type} {p:α->α->Int}
def seg (lo hi:Nat) (L:List α):List α:=(L.drop lo).take (hi - lo)
theorem seg_len {lo hi:Nat} {L:List α} (h1:lo<=hi) (h2:hi<=L.length):(seg lo hi L).length=hi - lo:=by simp [seg]; omega
theorem seg_get {lo hi i:Nat} {L:List α} (h:lo + i < hi):(seg lo hi L)[i]?=L[lo + i]?:=by
 simp only [seg,List.getElem?_take,List.getElem?_drop]
 rw [if_pos (by omega)]
theorem seg_at (A B C:List α):seg A.length (A.length + B.length) (A++B++C)=B:=by
 simp [seg]
theorem seg_at' {lo hi:Nat} {A B C:List α} (h1:A.length=lo) (h2:lo + B.length=hi):seg lo hi (A++B++C)=B:=by
 subst h1 h2; exact seg_at A B C
theorem seg_mem {lo hi:Nat} {L:List α} {x:α} (h:x ∈ seg lo hi L):∃ i,lo<=i/\i < hi/\L[i]?=some x:=by
 obtain ⟨i,hi'⟩:=List.getElem?_of_mem h
 have hl:=(List.getElem?_eq_some_iff.1 hi').1
 simp only [seg,List.length_take,List.length_drop] at hl
 rw [seg_get (by omega)] at hi'
 exact ⟨lo + i,by omega,by omega,hi'⟩
theorem seg_two {lo mid hi:Nat} (L:List α) (h1:lo<=mid) (h2:mid<=hi):seg lo hi L=seg lo mid L++seg mid hi L:=by
 unfold seg
 rw [show hi - lo=(mid - lo) + (hi - mid) by omega,List.take_add,List.drop_drop,show lo + (mid - lo)=mid by omega]
theorem srt_at {lo hi:Nat} {L:List α} (hs:Srt p (seg lo hi L)) (h:Ordr p) {i j:Nat} {x y:α} (h1:lo<=i) (h2:i<=j) (h3:j < hi) (hx:L[i]?=some x) (hy:L[j]?=some y):¬ p y x < 0:=by
 rcases Nat.eq_or_lt_of_le h2 with rfl | hlt
 · rw [hx] at hy; cases hy; exact h.rf x
 ·
  have ex:(seg lo hi L)[i - lo]?=some x:=by rw [seg_get (by omega),show lo + (i - lo)=i by omega]; exact hx
  have ey:(seg lo hi L)[j - lo]?=some y:=by rw [seg_get (by omega),show lo + (j - lo)=j by omega]; exact hy
  obtain ⟨l1,e1⟩:=List.getElem?_eq_some_iff.1 ex
  obtain ⟨l2,e2⟩:=List.getElem?_eq_some_iff.1 ey
  have:=List.pairwise_iff_getElem.1 hs (i - lo) (j - lo) l1 l2 (by omega)
  rw [e1,e2] at this
  exact this
theorem srt_sub {lo hi lo' hi':Nat} {L:List α} (hs:Srt p (seg lo hi L)) (h1:lo<=lo') (h2:hi'<=hi):Srt p (seg lo' hi' L):=by
 rcases Nat.le_total lo' hi' with h3 | h3
 ·
  have e:seg lo hi L=seg lo lo' L++(seg lo' hi' L++seg hi' hi L):=by
   rw [<-seg_two L h3 h2,<-seg_two L h1 (by omega)]
  rw [e] at hs
  exact (List.pairwise_append.1 (List.pairwise_append.1 hs).2.1).1
 ·
  have:seg lo' hi' L=[]:=by unfold seg; rw [show hi' - lo'=0 by omega]; rfl
  rw [this]
  exact List.Pairwise.nil
def symL (p:α->α->Int) (a m b:Nat) (L:List α):List α:=L.take a++mrg p (seg a m L) (seg m b L)++L.drop b
theorem symL_at (A X Y Z:List α):symL p A.length (A.length + X.length) (A.length + X.length + Y.length) (A++X++Y++Z)=A++mrg p X Y++Z:=by
 unfold symL
 rw [show A++X++Y++Z=A++(X++Y++Z) by simp,List.take_left]
 have h1:seg A.length (A.length + X.length) (A++(X++Y++Z))=X:=by
  rw [show A++(X++Y++Z)=A++X++(Y++Z) by simp]; exact seg_at _ _ _
 have h2:seg (A.length + X.length) (A.length + X.length + Y.length) (A++(X++Y++Z))=Y:=by
  rw [show A++(X++Y++Z)=(A++X)++Y++Z by simp]; exact seg_at' (by simp) (by simp)
 have h3:(A++(X++Y++Z)).drop (A.length + X.length + Y.length)=Z:=by
  rw [show A++(X++Y++Z)=(A++X++Y)++Z by simp,show A.length + X.length + Y.length=(A++X++Y).length by simp [Nat.add_assoc],List.drop_left]
 rw [h1,h2,h3]
theorem symL_at' {a m b:Nat} {A X Y Z:List α} (h1:A.length=a) (h2:a + X.length=m) (h3:m + Y.length=b):symL p a m b (A++X++Y++Z)=A++mrg p X Y++Z:=by
 subst h1 h2 h3; exact symL_at A X Y Z
theorem symL_len {a m b:Nat} {L:List α} (h1:a<=m) (h2:m<=b) (h3:b<=L.length):(symL p a m b L).length=L.length:=by
 simp only [symL,List.length_append,mrg_len,seg_len h1 (Nat.le_trans h2 h3),seg_len h2 h3,List.length_take,List.length_drop]
 omega
theorem three_of {a m b:Nat} (L:List α) (h1:a<=m) (h2:m<=b):L=L.take a++seg a m L++seg m b L++L.drop b:=by
 unfold seg
 rw [show L.take a++(L.drop a).take (m - a)=L.take m by rw [<-List.take_add]; congr 1; omega]
 rw [show L.take m++(L.drop m).take (b - m)=L.take b by rw [<-List.take_add]; congr 1; omega]
 rw [List.take_append_drop]
theorem sym_one (h:Ordr p) {a b i:Nat} {L:List α} {x:α} (hb:b<=L.length) (hx:L[a]?=some x) (hc:Cut2 (fun k=>∃ y,L[k]?=some y/\¬ p y x < 0) (a + 1) b i):upL a (i - 1 - a) L=symL p a (a + 1) b L:=by
 have hal:=(List.getElem?_eq_some_iff.1 hx).1
 have h1:=hc.le
 have h2:=hc.ge
 have hs:seg a (a + 1) L=[x]:=by
  unfold seg
  rw [show a + 1 - a=1 by omega,List.drop_eq_getElem_cons hal,(List.getElem?_eq_some_iff.1 hx).2]
  rfl
 have h3:=three_of L (show a<=a + 1 by omega) (show a + 1<=b by omega)
 have h4:=seg_two L h1 h2
 have hU:(seg (a + 1) i L).length=i - 1 - a:=by rw [seg_len h1 (by omega)]; omega
 have hta:(L.take a).length=a:=by simp; omega
 have hn:∀ u ∈ seg (a + 1) i L,p u x < 0:=fun u hu=>by
  obtain ⟨k,k1,k2,k3⟩:=seg_mem hu
  by_cases hp:p u x < 0
  · exact hp
  · exact absurd ⟨u,k3,hp⟩ (hc.no k k1 k2)
 have hy:∀ v ∈ (seg i b L).head?,¬ p v x < 0:=fun v hv=>by
  obtain ⟨k,k1,k2,k3⟩:=seg_mem (List.mem_of_mem_head? hv)
  obtain ⟨y,q1,q2⟩:=hc.yes k k1 k2
  rw [k3] at q1; cases q1
  exact q2
 have hm:mrg p [x] (seg (a + 1) b L)=seg (a + 1) i L++x :: seg i b L:=by
  rw [h4]
  exact putO_at x hn hy
 unfold symL
 rw [hs,hm]
 have e:L=L.take a++x :: seg (a + 1) i L++(seg i b L++L.drop b):=by
  conv=>lhs; rw [h3,hs,h4]
  simp
 have h5:=upL_at (i - 1 - a) (L.take a) (seg (a + 1) i L) (seg i b L++L.drop b) x hU
 rw [hta] at h5
 conv=>lhs; rw [e]
 rw [h5]
 simp
theorem sym_last (h:Ordr p) {a m i:Nat} {L:List α} {y:α} (hs:Srt p (seg a m L)) (hy:L[m]?=some y) (hc:Cut2 (fun k=>∃ x,L[k]?=some x/\p y x < 0) a m i):downL m (m - i) L=symL p a m (m + 1) L:=by
 have hml:=(List.getElem?_eq_some_iff.1 hy).1
 have h1:=hc.le
 have h2:=hc.ge
 have hs1:seg m (m + 1) L=[y]:=by
  unfold seg
  rw [show m + 1 - m=1 by omega,List.drop_eq_getElem_cons hml,(List.getElem?_eq_some_iff.1 hy).2]
  rfl
 have h3:=three_of L (show a<=m by omega) (show m<=m + 1 by omega)
 have h4:=seg_two L h1 h2
 have hU:(seg i m L).length=m - i:=seg_len h2 (by omega)
 have hta:(L.take a).length=a:=by simp; omega
 have hti:(L.take a++seg a i L).length=i:=by rw [List.length_append,hta,seg_len h1 (by omega)]; omega
 have hm:mrg p (seg a m L) [y]=seg a i L++y :: seg i m L:=by
  rw [h4]
  rw [h4] at hs
  refine mrg_one h hs (fun u hu hp=>?_) fun v hv=>?_
  ·
   obtain ⟨k,k1,k2,k3⟩:=seg_mem hu
   exact hc.no k k1 k2 ⟨u,k3,hp⟩
  ·
   obtain ⟨k,k1,k2,k3⟩:=seg_mem hv
   obtain ⟨x,q1,q2⟩:=hc.yes k k1 k2
   rw [k3] at q1; cases q1
   exact q2
 unfold symL
 rw [hs1,hm]
 have e:L=(L.take a++seg a i L)++seg i m L++y :: L.drop (m + 1):=by
  conv=>lhs; rw [h3,hs1,h4]
  simp
 have h5:=downL_at (m - i) (L.take a++seg a i L) (seg i m L) (L.drop (m + 1)) y hU
 rw [hti,show i + (m - i)=m by omega] at h5
 conv=>lhs; rw [e]
 rw [h5]
 simp
def partF (p:α->α->Int) (L:List α) (n c:Nat):Prop:=∃ x y,L[c]?=some x/\L[n - 1 - c]?=some y/\p y x < 0
theorem sym_facts (h:Ordr p) {a m b lo hi s:Nat} {L:List α} (ha:a < m) (hb:m < b) (hl:b<=L.length) (hX:Srt p (seg a m L)) (hY:Srt p (seg m b L))
  (hlo:if m > (a + b) / 2 then lo=(a + b) / 2 + m - b/\hi=(a + b) / 2 else lo=a/\hi=m) (hc:Cut2 (partF p L ((a + b) / 2 + m)) lo hi s) :
  a<=s/\s<=m/\s<=(a + b) / 2/\m<=(a + b) / 2 + m - s/\(a + b) / 2 + m - s<=b /\
  mrg p (seg a m L) (seg m b L)=mrg p (seg a s L) (seg m ((a + b) / 2 + m - s) L)++mrg p (seg s m L) (seg ((a + b) / 2 + m - s) b L):=by
 generalize hmid:(a + b) / 2=mid at *
 have hm2:2 * mid<=a + b/\a + b<=2 * mid + 1:=by omega
 have h1:=hc.le
 have h2:=hc.ge
 have hb1:a<=s/\s<=m/\s<=mid/\m<=mid + m - s/\mid + m - s<=b:=by
  split at hlo <;> omega
 refine ⟨hb1.1,hb1.2.1,hb1.2.2.1,hb1.2.2.2.1,hb1.2.2.2.2,?_⟩
 rw [seg_two L hb1.1 hb1.2.1,seg_two L hb1.2.2.2.1 hb1.2.2.2.2]
 have gx:∀ k,k < L.length->∃ z,L[k]?=some z:=fun k hk=>⟨L[k],List.getElem?_eq_getElem hk⟩
 refine mrg_split (fun x hx z hz=>?_) (fun x hx y hy=>?_) fun y hy x hx=>?_
 ·
  obtain ⟨i,i1,i2,i3⟩:=seg_mem hx
  obtain ⟨j,j1,j2,j3⟩:=seg_mem hz
  exact srt_at hX h i1 (by omega) j2 i3 j3
 ·
  obtain ⟨i,i1,i2,i3⟩:=seg_mem hx
  obtain ⟨j,j1,j2,j3⟩:=seg_mem hy
  have hlos:lo < s:=by split at hlo <;> omega
  have hno:=hc.no (s - 1) (by omega) (by omega)
  obtain ⟨u,hu⟩:=gx (s - 1) (by omega)
  obtain ⟨v,hv⟩:=gx (mid + m - 1 - (s - 1)) (by omega)
  have huv:¬ p v u < 0:=fun hp=>hno ⟨u,v,hu,hv,hp⟩
  have hxu:=srt_at hX h i1 (show i<=s - 1 by omega) (by omega) i3 hu
  have hvy:=srt_at hY h (show m<=mid + m - 1 - (s - 1) by omega) (show mid + m - 1 - (s - 1)<=j by omega) j2 hv j3
  exact h.tr _ _ _ (h.tr _ _ _ hxu huv) hvy
 ·
  obtain ⟨j,j1,j2,j3⟩:=seg_mem hy
  obtain ⟨i,i1,i2,i3⟩:=seg_mem hx
  have hshi:s < hi:=by split at hlo <;> omega
  obtain ⟨u,v,hu,hv,huv⟩:=hc.yes s (Nat.le_refl _) hshi
  have hyv:=srt_at hY h j1 (show j<=mid + m - 1 - s by omega) (by omega) j3 hv
  have hux:=srt_at hX h (show a<=s by omega) i1 i2 hu i3
  exact h.lt2 (h.lt1 hyv huv) hux
theorem part_mono (h:Ordr p) {a m b lo hi:Nat} {L:List α} (ha:a < m) (hb:m < b) (hl:b<=L.length) (hX:Srt p (seg a m L)) (hY:Srt p (seg m b L))
  (hlo:if m > (a + b) / 2 then lo=(a + b) / 2 + m - b/\hi=(a + b) / 2 else lo=a/\hi=m) {c d:Nat} (h1:lo<=c) (h2:c<=d) (h3:d < hi) (hf:partF p L ((a + b) / 2 + m) c):partF p L ((a + b) / 2 + m) d:=by
 generalize hmid:(a + b) / 2=mid at *
 have hm2:2 * mid<=a + b/\a + b<=2 * mid + 1:=by omega
 have gx:∀ k,k < L.length->∃ z,L[k]?=some z:=fun k hk=>⟨L[k],List.getElem?_eq_getElem hk⟩
 have hb1:a<=c/\d < m/\m<=mid + m - 1 - d/\mid + m - 1 - c < b:=by split at hlo <;> omega
 obtain ⟨x,y,hx,hy,hp⟩:=hf
 obtain ⟨u,hu⟩:=gx d (by omega)
 obtain ⟨v,hv⟩:=gx (mid + m - 1 - d) (by omega)
 have h4:=srt_at hX h hb1.1 h2 hb1.2.1 hx hu
 have h5:=srt_at hY h hb1.2.2.1 (show mid + m - 1 - d<=mid + m - 1 - c by omega) hb1.2.2.2 hv hy
 exact ⟨u,v,hu,hv,h.lt2 (h.lt1 h5 hp) h4⟩
theorem sym_rot {a m b s e:Nat} {L:List α} (h1:a<=s) (h2:s<=m) (h3:m<=e) (h4:e<=b) (h5:b<=L.length) :
  (if s < m/\m < e then rotS m (m - s) (e - m) L else L)=L.take a++seg a s L++seg m e L++(seg s m L++seg e b L++L.drop b):=by
 have hL:L=(L.take a++seg a s L)++seg s m L++seg m e L++(seg e b L++L.drop b):=by
  conv=>lhs; rw [three_of L (show a<=m by omega) (show m<=b by omega),seg_two L h1 h2,seg_two L h3 h4]
  simp
 have hA:(L.take a++seg a s L).length=s:=by rw [List.length_append,seg_len h1 (by omega)]; simp; omega
 split
 ·
  have:=rotS_at (L.take a++seg a s L) (seg s m L) (seg m e L) (seg e b L++L.drop b)
  rw [<-hL,hA,seg_len h2 (by omega),seg_len h3 (by omega),show s + (m - s)=m by omega] at this
  rw [this]
  simp
 ·
  rename_i hn
  have hempty:seg s m L=[]\/seg m e L=[]:=by
   by_cases hsm:s < m
   ·
    right
    exact List.eq_nil_of_length_eq_zero (by rw [seg_len h3 (by omega)]; omega)
   ·
    left
    exact List.eq_nil_of_length_eq_zero (by rw [seg_len h2 (by omega)]; omega)
  conv=>lhs; rw [hL]
  rcases hempty with he | he <;> rw [he] <;> simp
theorem sym_all (h:Ordr p) {a m b lo hi s mid e:Nat} {L L1 L2 L3:List α} (ha:a < m) (hb:m < b) (hl:b<=L.length) (hX:Srt p (seg a m L)) (hY:Srt p (seg m b L))
  (hlo:if m > (a + b) / 2 then lo=(a + b) / 2 + m - b/\hi=(a + b) / 2 else lo=a/\hi=m) (hc:Cut2 (partF p L ((a + b) / 2 + m)) lo hi s) (hmid:mid=(a + b) / 2) (he:e=mid + m - s)
  (h1:L1=if s < m/\m < e then rotS m (m - s) (e - m) L else L) (h2:L2=if a < s/\s < mid then symL p a s mid L1 else L1) (h3:L3=if mid < e/\e < b then symL p mid e b L2 else L2) :
  L1.length=L.length/\Srt p (seg a s L1)/\Srt p (seg s mid L1)/\L2.length=L.length/\Srt p (seg mid e L2)/\Srt p (seg e b L2)/\L3=symL p a m b L:=by
 obtain ⟨q1,q2,q3,q4,q5,q6⟩:=sym_facts h ha hb hl hX hY hlo hc
 rw [<-hmid] at q3 q4 q5 q6
 rw [<-he] at q4 q5 q6
 have hr:=sym_rot q1 q2 q4 q5 hl
 rw [<-h1] at hr
 have l0:(L.take a).length=a:=by simp; omega
 have l1:(seg a s L).length=s - a:=seg_len q1 (by omega)
 have l2:(seg m e L).length=e - m:=seg_len q4 (by omega)
 have l3:(seg s m L).length=m - s:=seg_len q2 (by omega)
 have l4:(seg e b L).length=b - e:=seg_len q5 hl
 have s1:Srt p (seg a s L):=srt_sub hX (Nat.le_refl _) q2
 have s2:Srt p (seg m e L):=srt_sub hY (Nat.le_refl _) q5
 have s3:Srt p (seg s m L):=srt_sub hX q1 (Nat.le_refl _)
 have s4:Srt p (seg e b L):=srt_sub hY q4 (Nat.le_refl _)
 have hs:symL p a m b L=L.take a++(mrg p (seg a s L) (seg m e L)++mrg p (seg s m L) (seg e b L))++L.drop b:=by
  rw [<-q6]; rfl
 rw [hs]
 clear hs q6 h1
 generalize hT:L.take a=T at *
 generalize hX1:seg a s L=X1 at *
 generalize hY1:seg m e L=Y1 at *
 generalize hX2:seg s m L=X2 at *
 generalize hY2:seg e b L=Y2 at *
 generalize hD:L.drop b=D at *
 have lD:D.length=L.length - b:=by rw [<-hD]; simp
 have e1:seg a s L1=X1:=by
  rw [hr,show T++X1++Y1++(X2++Y2++D)=T++X1++(Y1++(X2++Y2++D)) by simp]
  exact seg_at' l0 (by omega)
 have e2:seg s mid L1=Y1:=by
  rw [hr,show T++X1++Y1++(X2++Y2++D)=(T++X1)++Y1++(X2++Y2++D) by simp]
  exact seg_at' (by simp; omega) (by omega)
 have k2:L2=T++mrg p X1 Y1++(X2++Y2++D):=by
  rw [h2]
  split
  ·
   rw [hr]
   exact symL_at' l0 (by omega) (by omega)
  ·
   rename_i hn
   rw [hr]
   by_cases hx:X1=[]
   · rw [hx]; simp [mrg]
   ·
    have hy:Y1=[]:=by
     have:=List.length_pos_iff.2 hx
     exact List.eq_nil_of_length_eq_zero (by omega)
    rw [hy,mrg_self h s1]
    simp
 have lm:(T++mrg p X1 Y1).length=mid:=by rw [List.length_append,mrg_len]; omega
 have e3:seg mid e L2=X2:=by
  rw [k2,show T++mrg p X1 Y1++(X2++Y2++D)=(T++mrg p X1 Y1)++X2++(Y2++D) by simp]
  exact seg_at' lm (by omega)
 have e4:seg e b L2=Y2:=by
  rw [k2,show T++mrg p X1 Y1++(X2++Y2++D)=(T++mrg p X1 Y1++X2)++Y2++D by simp]
  exact seg_at' (by rw [List.length_append,lm]; omega) (by omega)
 refine ⟨by rw [hr]; simp only [List.length_append]; omega,e1 ▸ s1,e2 ▸ s2,by rw [k2]; simp only [List.length_append,mrg_len]; omega,e3 ▸ s3,e4 ▸ s4,?_⟩
 rw [h3]
 split
 ·
  rw [k2,show T++mrg p X1 Y1++(X2++Y2++D)=(T++mrg p X1 Y1)++X2++Y2++D by simp,symL_at' lm (by omega) (by omega)]
  simp
 ·
  rename_i hn
  rw [k2]
  by_cases hx:X2=[]
  · rw [hx]; simp [mrg]
  ·
   have hy:Y2=[]:=by
    have:=List.length_pos_iff.2 hx
    exact List.eq_nil_of_length_eq_zero (by omega)
   rw [hy,mrg_self h s3]
   simp
end
end Go.Proofs.Ytjoaigccapegpaa.AE
