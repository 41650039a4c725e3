/-
 Go's symmetric merge, plainly: ranges swapped, a rotation, a search by halves. Conditions: none; every lemma names its own.
-/
import Derived.Test.YtjoaigccapegpaaOSm0
set_option linter.constructorNameAsVariable false
namespace Go.Proofs.Ytjoaigccapegpaa.AE
open Go Go.Proofs Go.RowKit
set_option linter.unusedVariables false
set_option linter.unusedSimpArgs false
section
variable {α:Type} {p:α->α->Int}
def swL (a b:Nat):Nat->List α->List α
 | 0,L=>L
 | n + 1,L=>match (swL a b n L)[a + n]?,(swL a b n L)[b + n]? with
  | some x,some y=>((swL a b n L).set (a + n) y).set (b + n) x
  | _,_=>swL a b n L
theorem swL_len (a b:Nat):∀ (n:Nat) (L:List α),(swL a b n L).length=L.length
 | 0,L=>rfl
 | n + 1,L=>by
  unfold swL
  split
  · simp [swL_len a b n L]
  · exact swL_len a b n L
theorem swL_succ {a b n:Nat} {L:List α} {x y:α} (hx:(swL a b n L)[a + n]?=some x) (hy:(swL a b n L)[b + n]?=some y):swL a b (n + 1) L=((swL a b n L).set (a + n) y).set (b + n) x:=by
 show (match (swL a b n L)[a + n]?,(swL a b n L)[b + n]? with
  | some x,some y=>((swL a b n L).set (a + n) y).set (b + n) x
  | _,_=>swL a b n L)=_
 rw [hx,hy]
theorem last_of {n:Nat} {P:List α} (h:P.length=n + 1):∃ P' x,P=P'++[x]/\P'.length=n:=by
 have hne:P ≠ []:=by intro hh; rw [hh] at h; simp at h
 exact ⟨P.dropLast,P.getLast hne,(List.dropLast_concat_getLast hne).symm,by simp [h]⟩
theorem swL_at:∀ (n:Nat) (A P M Q Z:List α),P.length=n->Q.length=n->swL A.length (A.length + n + M.length) n (A++P++M++Q++Z)=A++Q++M++P++Z:=by
 suffices ∀ (n:Nat) (A P M Q Z:List α) (b:Nat),P.length=n->Q.length=n->b=A.length + n + M.length->swL A.length b n (A++P++M++Q++Z)=A++Q++M++P++Z from fun n A P M Q Z hP hQ=>this n A P M Q Z _ hP hQ rfl
 intro n
 induction n with
 | zero=>
  intro A P M Q Z b hP hQ _
  obtain rfl:=List.eq_nil_of_length_eq_zero hP
  obtain rfl:=List.eq_nil_of_length_eq_zero hQ
  rfl
 | succ n ih=>
  intro A P M Q Z b hP hQ hb
  obtain ⟨P',x,rfl,hP'⟩:=last_of hP
  obtain ⟨Q',y,rfl,hQ'⟩:=last_of hQ
  have e:A++(P'++[x])++M++(Q'++[y])++Z=A++P'++([x]++M)++Q'++([y]++Z):=by simp
  have h1:=ih A P' ([x]++M) Q' ([y]++Z) b hP' hQ' (by rw [hb]; simp; omega)
  rw [e]
  have hx:(swL A.length b n (A++P'++([x]++M)++Q'++([y]++Z)))[A.length + n]?=some x:=by
   rw [h1,show A++Q'++([x]++M)++P'++([y]++Z)=(A++Q')++x :: (M++P'++y :: Z) by simp,show A.length + n=(A++Q').length by simp [hQ']]
   exact get_mid _ _ _
  have hy:(swL A.length b n (A++P'++([x]++M)++Q'++([y]++Z)))[b + n]?=some y:=by
   rw [h1,show A++Q'++([x]++M)++P'++([y]++Z)=(A++Q'++x :: M++P')++y :: Z by simp,show b + n=(A++Q'++x :: M++P').length by simp [hQ',hP',hb]; omega]
   exact get_mid _ _ _
  rw [swL_succ hx hy,h1]
  rw [show A++Q'++([x]++M)++P'++([y]++Z)=(A++Q')++x :: (M++P'++y :: Z) by simp,show A.length + n=(A++Q').length by simp [hQ'],set_mid]
  rw [show (A++Q')++y :: (M++P'++y :: Z)=(A++Q'++y :: M++P')++y :: Z by simp,show b + n=(A++Q'++y :: M++P').length by simp [hQ',hP',hb]; omega,set_mid]
  simp
def rotS (m i j:Nat) (L:List α):List α:=L.take (m - i)++(L.drop m).take j++(L.drop (m - i)).take i++L.drop (m + j)
theorem rotS_at (A U V Z:List α):rotS (A.length + U.length) U.length V.length (A++U++V++Z)=A++V++U++Z:=by
 unfold rotS
 rw [Nat.add_sub_cancel]
 have e1:(A++U++V++Z).take A.length=A:=by simp
 have e2:(A++U++V++Z).drop (A.length + U.length)=V++Z:=by
  rw [show A++U++V++Z=(A++U)++(V++Z) by simp,show A.length + U.length=(A++U).length by simp,List.drop_left]
 have e3:(A++U++V++Z).drop A.length=U++V++Z:=by
  rw [show A++U++V++Z=A++(U++V++Z) by simp,List.drop_left]
 have e4:(A++U++V++Z).drop (A.length + U.length + V.length)=Z:=by
  rw [show A.length + U.length + V.length=(A++U++V).length by simp [Nat.add_assoc],List.drop_left]
 rw [e1,e2,e3,e4]
 simp
theorem four_of {m i j:Nat} {L:List α} (hi:i<=m) (hj:m + j<=L.length):∃ A U V Z,L=A++U++V++Z/\A.length=m - i/\U.length=i/\V.length=j:=by
 refine ⟨L.take (m - i),(L.drop (m - i)).take i,(L.drop m).take j,L.drop (m + j),?_,by simp; omega,by simp; omega,by simp; omega⟩
 have h1:L.take (m - i)++(L.drop (m - i)).take i=L.take m:=by
  rw [<-List.take_add]; congr 1; omega
 rw [h1,<-List.take_add,List.take_append_drop]
theorem rotS_len {m i j:Nat} {L:List α} (hi:i<=m) (hj:m + j<=L.length):(rotS m i j L).length=L.length:=by
 obtain ⟨A,U,V,Z,rfl,hA,hU,hV⟩:=four_of hi hj
 rw [show m=A.length + U.length by omega,<-hU,<-hV,rotS_at]
 simp; omega
theorem rot_eq {m i:Nat} {L:List α} (hi:i<=m) (hj:m + i<=L.length):swL (m - i) m i L=rotS m i i L:=by
 obtain ⟨A,U,V,Z,rfl,hA,hU,hV⟩:=four_of hi hj
 have h1:=swL_at i A U [] V Z hU hV
 have h2:=rotS_at A U V Z
 rw [hU,hV] at h2
 simp only [List.length_nil,Nat.add_zero,List.append_nil] at h1
 rw [<-hA,show m=A.length + i by omega,h1,h2]
theorem rot_gt {m i j:Nat} {L:List α} (hi:i<=m) (hj:m + j<=L.length) (hl:j < i):rotS m (i - j) j (swL (m - i) m j L)=rotS m i j L:=by
 obtain ⟨A,U,V,Z,rfl,hA,hU,hV⟩:=four_of hi hj
 obtain ⟨U1,U2,rfl,hU1⟩:∃ U1 U2,U=U1++U2/\U1.length=j:=⟨U.take j,U.drop j,(List.take_append_drop _ _).symm,by simp; omega⟩
 have hU2:U2.length=i - j:=by simp at hU; omega
 have h1:=swL_at j A U1 U2 V Z hU1 hV
 have h2:=rotS_at (A++V) U2 U1 Z
 have h3:=rotS_at A (U1++U2) V Z
 rw [hU,hV] at h3
 rw [hU2,hU1] at h2
 rw [show m=A.length + i by omega,h3,show A.length + i - i=A.length by omega]
 rw [show A++(U1++U2)++V++Z=A++U1++U2++V++Z by simp]
 rw [show A.length + j + U2.length=A.length + i by omega] at h1
 rw [h1]
 rw [show (A++V).length + (i - j)=A.length + i by simp [hV]; omega] at h2
 rw [show A++V++U2++U1++Z=(A++V)++U2++U1++Z by simp,h2]
 simp
theorem rot_lt {m i j:Nat} {L:List α} (hi:i<=m) (hj:m + j<=L.length) (hl:i < j):rotS m i (j - i) (swL (m - i) (m + j - i) i L)=rotS m i j L:=by
 obtain ⟨A,U,V,Z,rfl,hA,hU,hV⟩:=four_of hi hj
 obtain ⟨V1,V2,rfl,hV1⟩:∃ V1 V2,V=V1++V2/\V1.length=j - i:=⟨V.take (j - i),V.drop (j - i),(List.take_append_drop _ _).symm,by simp; omega⟩
 have hV2:V2.length=i:=by simp at hV; omega
 have h1:=swL_at i A U V1 V2 Z hU hV2
 have h2:=rotS_at A V2 V1 (U++Z)
 have h3:=rotS_at A U (V1++V2) Z
 rw [hU,hV] at h3
 rw [hV2,hV1] at h2
 rw [show m=A.length + i by omega,h3,show A.length + i - i=A.length by omega,show A.length + i + j - i=A.length + i + V1.length by omega]
 rw [show A++U++(V1++V2)++Z=A++U++V1++V2++Z by simp,h1,show A++V2++V1++U++Z=A++V2++V1++(U++Z) by simp,h2]
 simp
def upL (a:Nat):Nat->List α->List α
 | 0,L=>L
 | n + 1,L=>match (upL a n L)[a + n]?,(upL a n L)[a + n + 1]? with
  | some x,some y=>((upL a n L).set (a + n) y).set (a + n + 1) x
  | _,_=>upL a n L
theorem upL_len (a:Nat):∀ (n:Nat) (L:List α),(upL a n L).length=L.length
 | 0,L=>rfl
 | n + 1,L=>by
  unfold upL
  split
  · simp [upL_len a n L]
  · exact upL_len a n L
theorem upL_succ {a n:Nat} {L:List α} {x y:α} (hx:(upL a n L)[a + n]?=some x) (hy:(upL a n L)[a + n + 1]?=some y):upL a (n + 1) L=((upL a n L).set (a + n) y).set (a + n + 1) x:=by
 show (match (upL a n L)[a + n]?,(upL a n L)[a + n + 1]? with
  | some x,some y=>((upL a n L).set (a + n) y).set (a + n + 1) x
  | _,_=>upL a n L)=_
 rw [hx,hy]
theorem set_pair (A Z:List α) (x y u v:α):((A++x :: y :: Z).set A.length u).set (A.length + 1) v=A++u :: v :: Z:=by
 rw [List.set_append_right _ _ (by omega),List.set_append_right _ _ (by omega)]; simp
theorem upL_at:∀ (n:Nat) (A P Z:List α) (x:α),P.length=n->upL A.length n (A++x :: P++Z)=A++P++x :: Z:=by
 intro n
 induction n with
 | zero=>
  intro A P Z x hP
  obtain rfl:=List.eq_nil_of_length_eq_zero hP
  simp [upL]
 | succ n ih=>
  intro A P Z x hP
  obtain ⟨P',y,rfl,hP'⟩:=last_of hP
  have e:A++x :: (P'++[y])++Z=A++x :: P'++(y :: Z):=by simp
  have h1:=ih A P' (y :: Z) x hP'
  rw [e]
  have e2:A++P'++x :: y :: Z=(A++P')++x :: y :: Z:=rfl
  have hl:A.length + n=(A++P').length:=by simp [hP']
  rw [upL_succ (x:=x) (y:=y) (by rw [h1,hl]; exact get_mid _ _ _) (by rw [h1,hl]; exact get_mid1 _ _ _ _),h1,hl,set_pair]
  simp
def downL (m:Nat):Nat->List α->List α
 | 0,L=>L
 | n + 1,L=>match (downL m n L)[m - n]?,(downL m n L)[m - n - 1]? with
  | some x,some y=>((downL m n L).set (m - n) y).set (m - n - 1) x
  | _,_=>downL m n L
theorem downL_len (m:Nat):∀ (n:Nat) (L:List α),(downL m n L).length=L.length
 | 0,L=>rfl
 | n + 1,L=>by
  unfold downL
  split
  · simp [downL_len m n L]
  · exact downL_len m n L
theorem downL_succ {m n:Nat} {L:List α} {x y:α} (hx:(downL m n L)[m - n]?=some x) (hy:(downL m n L)[m - n - 1]?=some y):downL m (n + 1) L=((downL m n L).set (m - n) y).set (m - n - 1) x:=by
 show (match (downL m n L)[m - n]?,(downL m n L)[m - n - 1]? with
  | some x,some y=>((downL m n L).set (m - n) y).set (m - n - 1) x
  | _,_=>downL m n L)=_
 rw [hx,hy]
theorem downL_at:∀ (n:Nat) (A P Z:List α) (x:α),P.length=n->downL (A.length + n) n (A++P++x :: Z)=A++x :: P++Z:=by
 suffices ∀ (n:Nat) (A P Z:List α) (x:α) (m:Nat),P.length=n->m=A.length + n->downL m n (A++P++x :: Z)=A++x :: P++Z from fun n A P Z x hP=>this n A P Z x _ hP rfl
 intro n
 induction n with
 | zero=>
  intro A P Z x m hP _
  obtain rfl:=List.eq_nil_of_length_eq_zero hP
  simp [downL]
 | succ n ih=>
  intro A P Z x m hP hm
  cases P with
  | nil=>simp at hP
  | cons y P'=>
   have hP':P'.length=n:=by simpa using hP
   have h1:=ih (A++[y]) P' Z x m hP' (by simp; omega)
   have e:A++y :: P'++x :: Z=A++[y]++P'++x :: Z:=by simp
   rw [e]
   have hr:A++[y]++x :: P'++Z=A++y :: x :: (P'++Z):=by simp
   rw [hr] at h1
   have hk:m - n=A.length + 1:=by omega
   have hk1:m - n - 1=A.length:=by omega
   rw [downL_succ (x:=x) (y:=y) (by rw [h1,hk]; exact get_mid1 _ _ _ _) (by rw [h1,hk1]; exact get_mid _ _ _),h1,hk,show A.length + 1 - 1=A.length by omega,set_mid2]
   simp
structure Cut2 (f:Nat->Prop) (lo hi i:Nat):Prop where
 le:lo<=i
 ge:i<=hi
 no:∀ k,lo<=k->k < i->¬ f k
 yes:∀ k,i<=k->k < hi->f k
end
end Go.Proofs.Ytjoaigccapegpaa.AE
