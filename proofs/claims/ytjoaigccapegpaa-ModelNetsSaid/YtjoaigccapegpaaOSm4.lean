/-
 Go's stable sort: its passes over the blocks. Conditions: none.
-/
import Derived.Test.YtjoaigccapegpaaOSm3
set_option linter.constructorNameAsVariable false
namespace Go.Proofs.Ytjoaigccapegpaa.AE
set_option linter.unusedVariables false
set_option linter.unusedSimpArgs false
section
variable {α:Type} {p:α->α->Int}
def Bk1 (p:α->α->Int) (L M:List α) (a:Nat):Prop:=∃ j,a=j * 20/\a<=L.length/\M=blk p 20 j L
theorem Bk1.init (p:α->α->Int) (L:List α):Bk1 p L L 0:=⟨0,by simp,by simp,rfl⟩
theorem Bk1.len {L M:List α} {a:Nat} (h:Bk1 p L M a):M.length=L.length:=by obtain ⟨j,_,_,rfl⟩:=h; exact blk_len _ _ _
theorem Bk1.le {L M:List α} {a:Nat} (h:Bk1 p L M a):a<=L.length:=by obtain ⟨j,_,h,_⟩:=h; exact h
theorem Bk1.next (ho:Ordr p) {L M:List α} {a:Nat} (h:Bk1 p L M a) (ha:a + 20<=L.length):Bk1 p L (insG p a 19 (a + 1) M) (a + 20):=by
 obtain ⟨j,h1,_,rfl⟩:=h
 refine ⟨j + 1,by omega,ha,?_⟩
 obtain ⟨A,a1,a2,a3⟩:=blk_succ (p:=p) 20 j L (by omega)
 rw [a2,a3]
 have hl:((L.drop (j * 20)).take 20).length=20:=by simp; omega
 have hs:L.drop (j * 20)=(L.drop (j * 20)).take 20++L.drop (j * 20 + 20):=by
  rw [<-List.drop_drop,List.take_append_drop]
 have:=insG_seg ho A ((L.drop (j * 20)).take 20) (L.drop (j * 20 + 20))
 rw [hl,a1,<-h1] at this
 rw [<-h1] at hs ⊢
 rw [<-this]
 congr 1
 rw [List.append_assoc,<-hs]
theorem Bk1.last (ho:Ordr p) {L M:List α} {a:Nat} (h:Bk1 p L M a) (ha:L.length < a + 20):insG p a (L.length - (a + 1)) (a + 1) M=blk p 20 L.length L:=by
 obtain ⟨j,h1,h2,rfl⟩:=h
 obtain ⟨A,a1,a2,a3⟩:=blk_succ (p:=p) 20 j L (by omega)
 have e:blk p 20 L.length L=blk p 20 (j + 1) L:=by
  by_cases h0:L.length=0
  ·
   obtain rfl:=List.eq_nil_of_length_eq_zero h0
   rw [blk_nil,blk_nil]
  ·
   have hj:j + 1<=L.length\/L.length=j:=by omega
   rcases hj with hj | hj
   · exact blk_all 20 (j + 1) L (by omega) _ hj
   · omega
 rw [e,a2,a3]
 have hl:((L.drop (j * 20)).take 20)=L.drop (j * 20):=List.take_of_length_le (by simp; omega)
 have hn:L.drop (j * 20 + 20)=[]:=List.drop_eq_nil_of_le (by omega)
 have hd:(L.drop (j * 20)).length=L.length - a:=by simp; omega
 rw [hl,hn]
 have:=insG_seg ho A (L.drop (j * 20)) []
 rw [hd,a1,<-h1] at this
 rw [<-h1]
 simp only [List.append_nil] at this ⊢
 rw [<-this,show L.length - (a + 1)=L.length - a - 1 by omega]
def Mx2 (p:α->α->Int) (L:List α) (k:Nat) (M:List α) (a:Nat):Prop:=∃ i,a=i * (2 * k)/\a<=L.length/\M=mix p k i L
theorem Mx2.init (L:List α) (k:Nat):Mx2 p L k (blk p k L.length L) 0:=⟨0,by simp,by simp,(mix_zero k L).symm⟩
theorem Mx2.len {L M:List α} {k a:Nat} (h:Mx2 p L k M a):M.length=L.length:=by obtain ⟨j,_,_,rfl⟩:=h; exact mix_len _ _ _
theorem Mx2.le {L M:List α} {k a:Nat} (h:Mx2 p L k M a):a<=L.length:=by obtain ⟨j,_,h,_⟩:=h; exact h
theorem Mx2.step (ho:Ordr p) {L M:List α} {k a m b:Nat} (hk:0 < k) (h:Mx2 p L k M a) (hm:m=a + k) (hmL:m < L.length) (hb:b=min (a + 2 * k) L.length) :
  Srt p (seg a m M)/\Srt p (seg m b M)/\(a + 2 * k<=L.length->Mx2 p L k (symL p a m b M) (a + 2 * k))/\(L.length < a + 2 * k->symL p a m b M=blk p (k * 2) L.length L):=by
 obtain ⟨i,h1,h2,rfl⟩:=h
 obtain ⟨A,X,Y,Z,l1,l2,l3,s1,s2,e1,e2⟩:=mix_step ho k i L hk (by omega)
 have la:A.length=a:=by omega
 have lx:a + X.length=m:=by omega
 have ly:m + Y.length=b:=by omega
 rw [e1]
 refine ⟨?_,?_,?_,?_⟩
 · rw [List.append_assoc (A++X),seg_at' la lx]; exact s1
 · rw [seg_at' (A:=A++X) (by simp; omega) ly]; exact s2
 ·
  intro hle
  rw [symL_at' la lx ly,<-e2]
  exact ⟨i + 1,by rw [Nat.add_mul]; omega,hle,rfl⟩
 ·
  intro hlt
  rw [symL_at' la lx ly,<-e2,Nat.mul_comm k 2]
  exact mix_last ho k (i + 1) L hk (by rw [Nat.add_mul]; omega)
theorem Mx2.last (ho:Ordr p) {L M:List α} {k a:Nat} (hk:0 < k) (h:Mx2 p L k M a) (hl:L.length<=a + k):M=blk p (k * 2) L.length L:=by
 obtain ⟨i,h1,h2,rfl⟩:=h
 rw [Nat.mul_comm k 2]
 exact mix_last ho k i L hk (by omega)
end
end Go.Proofs.Ytjoaigccapegpaa.AE
