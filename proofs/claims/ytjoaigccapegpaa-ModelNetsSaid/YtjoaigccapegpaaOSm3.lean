/-
 A search by halves, step by step; sorting by putting in. Conditions: none; every lemma names its own.
-/
import Derived.Test.YtjoaigccapegpaaOSm2
set_option linter.constructorNameAsVariable false
namespace Go.Proofs.Ytjoaigccapegpaa.AE
open Go Go.Proofs Go.RowKit
set_option linter.unusedVariables false
set_option linter.unusedSimpArgs false
section
variable {α:Type} {p:α->α->Int}
structure Sch (f:Nat->Prop) (lo hi i j:Nat):Prop where
 le:lo<=i
 mid:i<=j
 ge:j<=hi
 no:∀ k,lo<=k->k < i->¬ f k
 yes:∀ k,j<=k->k < hi->f k
theorem Sch.init (f:Nat->Prop) {lo hi:Nat} (h:lo<=hi):Sch f lo hi lo hi:=⟨Nat.le_refl _,h,Nat.le_refl _,fun k h1 h2=>by omega,fun k h1 h2=>by omega⟩
theorem Sch.up {f:Nat->Prop} {lo hi i j h:Nat} (s:Sch f lo hi i j) (mono:∀ c d,lo<=c->c<=d->d < hi->f c->f d) (h1:i<=h) (h2:h < j) (hf:¬ f h):Sch f lo hi (h + 1) j:=
 ⟨by have:=s.le; omega,by omega,s.ge,fun k h3 h4 hk=>hf (mono k h h3 (by omega) (by have:=s.ge; omega) hk),s.yes⟩
theorem Sch.down {f:Nat->Prop} {lo hi i j h:Nat} (s:Sch f lo hi i j) (mono:∀ c d,lo<=c->c<=d->d < hi->f c->f d) (h1:i<=h) (h2:h < j) (hf:f h):Sch f lo hi i h:=
 ⟨s.le,h1,by have:=s.ge; omega,s.no,fun k h3 h4=>mono h k (by have:=s.le; omega) h3 h4 hf⟩
theorem Sch.cut {f:Nat->Prop} {lo hi i j:Nat} (s:Sch f lo hi i j) (h:j<=i):Cut2 f lo hi i:=
 ⟨s.le,by have:=s.ge; have:=s.mid; omega,s.no,fun k h1 h2=>s.yes k (by omega) h2⟩
def oneF (p:α->α->Int) (L:List α) (x:α) (k:Nat):Prop:=∃ y,L[k]?=some y/\¬ p y x < 0
def lastF2 (p:α->α->Int) (L:List α) (y:α) (k:Nat):Prop:=∃ x,L[k]?=some x/\p y x < 0
theorem one_mono (h:Ordr p) {m b:Nat} {L:List α} (hb:b<=L.length) (hY:Srt p (seg m b L)) (x:α):∀ c d,m<=c->c<=d->d < b->oneF p L x c->oneF p L x d:=by
 intro c d h1 h2 h3 ⟨y,hy,hp⟩
 have hz:L[d]?=some L[d]:=List.getElem?_eq_getElem (by omega)
 exact ⟨_,hz,h.tr _ _ _ hp (srt_at hY h h1 h2 h3 hy hz)⟩
theorem last_mono (h:Ordr p) {a m:Nat} {L:List α} (hm:m<=L.length) (hX:Srt p (seg a m L)) (y:α):∀ c d,a<=c->c<=d->d < m->lastF2 p L y c->lastF2 p L y d:=by
 intro c d h1 h2 h3 ⟨x,hx,hp⟩
 have hz:L[d]?=some L[d]:=List.getElem?_eq_getElem (by omega)
 exact ⟨_,hz,h.lt2 hp (srt_at hX h h1 h2 h3 hx hz)⟩
theorem one_iff {L:List α} {x y:α} {k:Nat} (hy:L[k]?=some y):oneF p L x k ↔ ¬ p y x < 0:=by
 constructor
 · rintro ⟨z,hz,h⟩; rw [hy] at hz; cases hz; exact h
 · intro h; exact ⟨y,hy,h⟩
theorem last_iff {L:List α} {x y:α} {k:Nat} (hx:L[k]?=some x):lastF2 p L y k ↔ p y x < 0:=by
 constructor
 · rintro ⟨z,hz,h⟩; rw [hx] at hz; cases hz; exact h
 · intro h; exact ⟨x,hx,h⟩
theorem part_iff {L:List α} {n c:Nat} {x y:α} (hx:L[c]?=some x) (hy:L[n - 1 - c]?=some y):partF p L n c ↔ p y x < 0:=by
 constructor
 · rintro ⟨z,u,hz,hu,h⟩; rw [hx] at hz; rw [hy] at hu; cases hz; cases hu; exact h
 · intro h; exact ⟨x,y,hx,hy,h⟩
theorem ordL_snoc (h:Ordr p) (l:List α) (c:α):ordL p (l++[c])=mrg p (ordL p l) [c]:=by
 rw [<-ordL_two h]; rfl
end
end Go.Proofs.Ytjoaigccapegpaa.AE
