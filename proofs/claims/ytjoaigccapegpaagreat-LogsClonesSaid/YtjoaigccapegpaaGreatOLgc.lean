/-
 The cells of logs: what is committed, its outcomes, the booking behind it, what is tentative, what is known, and when. Conditions: none; every lemma names its own.
-/
import Derived.Test.YtjoaigccapegpaaGreatPd
set_option linter.constructorNameAsVariable false
namespace Go.Proofs.YtjoaigccapegpaaGreat.AE
open Go Go.Proofs Go.RowKit
set_option linter.unusedVariables false
def cLg (L O:AV) (b:Bk) (o:AV) (m t:AV) (v u:Vn 4):List AV:=L :: O :: (cBk b o++(m :: t :: (cV v++cV u)))
section
variable (L O L' O':AV) (b d:Bk) (o m t o' m' t':AV) (v u v' u':Vn 4)
theorem cLg_split:cLg L O b o m t v u=[L,O]++(cBk b o++([m,t]++(cV v++cV u))):=rfl
@[go_sem] theorem cLg_len:(cLg L O b o m t v u).length=37:=by simp only [cLg,List.length_append,cBk_len,List.length_cons,cV_len]
@[go_sem,simp high] theorem cLg_0:(cLg L O b o m t v u)[0]?=some L:=rfl
@[go_sem,simp high] theorem cLg_1:(cLg L O b o m t v u)[1]?=some O:=rfl
theorem cLg_rest (n:Nat):(cLg L O b o m t v u)[n + 27]?=(m :: t :: (cV v++cV u))[n]?:=by
 rw [cLg_split,List.getElem?_append_right (by simp),List.getElem?_append_right (by rw [cBk_len]; simp),cBk_len]
 simp only [List.length_cons,List.length_nil]
 rw [show n + 27 - (0 + 1 + 1) - 25=n by omega]
 rfl
@[go_sem,simp high] theorem cLg_made:(cLg L O b o m t v u)[27]?=some m:=cLg_rest L O b o m t v u 0
@[go_sem,simp high] theorem cLg_tent:(cLg L O b o m t v u)[28]?=some t:=cLg_rest L O b o m t v u 1
theorem cLg_u (i:Nat) (hi:i < 4):(cLg L O b o m t v u)[33 + i]?=some (.int .i64 (u.at i)):=by
 have:=cLg_rest L O b o m t v u (i + 6)
 rw [show i + 6 + 27=33 + i by omega] at this
 rw [this]
 simp only [List.getElem?_cons_succ]
 rw [List.getElem?_append_right (by rw [cV_len]; omega),cV_len,show i + 4 - 4=i by omega]
 exact cV_get' u i hi
@[go_sem] theorem cLg_take_all:(cLg L O b o m t v u).take 37=cLg L O b o m t v u:=List.take_of_length_le (by rw [cLg_len]; exact Nat.le_refl _)
@[go_sem] theorem cLg_base:((cLg L O b o m t v u).drop 2).take 25=cBk b o:=by
 show (cBk b o++_).take 25=_
 rw [List.take_append_of_le_length (by rw [cBk_len]; exact Nat.le_refl _),cBk_take_all]
theorem cLg_drop29:(cLg L O b o m t v u).drop 29=cV v++cV u:=by
 rw [cLg_split,show (29:Nat)=[L,O].length + ((cBk b o).length + [m,t].length) by rw [cBk_len]; rfl,<-List.drop_drop,List.drop_left,<-List.drop_drop,List.drop_left,List.drop_left]
@[go_sem] theorem cLg_known:((cLg L O b o m t v u).drop 29).take 4=cV v:=by
 rw [cLg_drop29,List.take_append_of_le_length (by rw [cV_len]; exact Nat.le_refl _)]
 exact List.take_of_length_le (by rw [cV_len]; exact Nat.le_refl _)
@[go_sem] theorem cLg_times:((cLg L O b o m t v u).drop 33).take 4=cV u:=by
 rw [show (33:Nat)=29 + 4 from rfl,<-List.drop_drop,cLg_drop29]
 have h:(cV v++cV u).drop 4=cV u:=by
  exact List.drop_left' (cV_len v)
 rw [h]
 exact List.take_of_length_le (by rw [cV_len]; exact Nat.le_refl _)
theorem cLg_map (f:AV->AV) (h:∀ (n:Int),f (.int .i64 n)=.int .i64 n):(cLg L O b o m t v u).map f=cLg (f L) (f O) b (f o) (f m) (f t) v u:=by
 have hV:∀ {n:Nat} (v:Vn n),(cV v).map f=cV v:=fun v=>by
  simp only [cV,AI,List.map_map]
  congr 1
  funext a
  exact h a
 simp only [cLg,List.map_append,cBk_map b o f h,List.map_cons,hV]
@[go_sem] theorem cLg_view (H d'):(cLg L O b o m t v u).map (view H d')=cLg (view H d' L) (view H d' O) b (view H d' o) (view H d' m) (view H d' t) v u:=cLg_map _ _ _ _ _ _ _ _ _ fun n=>view_int ..
@[go_sem] theorem cLg_told (H bs d'):(cLg L O b o m t v u).map (told H bs d')=cLg (told H bs d' L) (told H bs d' O) b (told H bs d' o) (told H bs d' m) (told H bs d' t) v u:=cLg_map _ _ _ _ _ _ _ _ _ fun n=>told_int ..
@[go_sem] theorem cLg_back (H bs d'):(cLg L O b o m t v u).map (back H bs d')=cLg (back H bs d' L) (back H bs d' O) b (back H bs d' o) (back H bs d' m) (back H bs d' t) v u:=cLg_map _ _ _ _ _ _ _ _ _ fun n=>back_int ..
@[go_sem] theorem cLg_coll (H d' acc):(cLg L O b o m t v u).foldl (coll H d') acc=coll H d' (coll H d' (coll H d' (coll H d' (coll H d' acc L) O) o) m) t:=by
 simp only [cLg,List.foldl_append,List.foldl_cons,cBk_coll,cV_coll]
@[go_sem] theorem cLg_lightN (d'):(cLg L O b o m t v u).all (lightN d')=(lightN d' L && (lightN d' O && (lightN d' o && (lightN d' m && lightN d' t)))):=by
 simp only [cLg,List.all_append,List.all_cons,cBk_lightN,cV_lightN,Bool.and_true]
@[go_sem] theorem cLg_leC (H0 H ρ):le.leC H0 H ρ (cLg L O b o m t v u) (cLg L' O' d o' m' t' v' u')=(le H0 H ρ L L'/\le H0 H ρ O O'/\d=b/\le H0 H ρ o o'/\le H0 H ρ m m'/\le H0 H ρ t t'/\v'=v/\u'=u):=by
 rw [cLg,cLg,leC_cons,leC_cons,leC_append _ _ _ _ _ _ _ (by simp only [cBk_len]),cBk_leC,leC_cons,leC_cons,leC_append _ _ _ _ _ _ _ (by simp only [cV_len]),cV_leC,cV_leC]
 exact propext ⟨fun ⟨h1,h2,⟨h3,h4⟩,h5,h6,h7,h8⟩=>⟨h1,h2,h3,h4,h5,h6,h7,h8⟩,fun ⟨h1,h2,h3,h4,h5,h6,h7,h8⟩=>⟨h1,h2,⟨h3,h4⟩,h5,h6,h7,h8⟩⟩
theorem cLg_inj (h:cLg L O b o m t v u=cLg L' O' d o' m' t' v' u'):L=L'/\O=O'/\b=d/\o=o'/\m=m'/\t=t'/\v=v'/\u=u':=by
 simp only [cLg,List.cons.injEq] at h
 obtain ⟨h1,h2,h3⟩:=h
 obtain ⟨h4,h5⟩:=List.append_inj h3 (by simp only [cBk_len])
 obtain ⟨h6,h7⟩:=cBk_inj h4
 simp only [List.cons.injEq] at h5
 obtain ⟨h8,h9,h10⟩:=h5
 obtain ⟨h11,h12⟩:=List.append_inj h10 (by simp only [cV_len])
 exact ⟨h1,h2,h6,h7,h8,h9,cV_inj h11,cV_inj h12⟩
theorem cLg_eq_iff:cLg L O b o m t v u=cLg L' O' d o' m' t' v' u' ↔ L=L'/\O=O'/\b=d/\o=o'/\m=m'/\t=t'/\v=v'/\u=u':=⟨cLg_inj _ _ _ _ _ _ _ _ _ _ _ _ _ _ _ _,fun ⟨h1,h2,h3,h4,h5,h6,h7,h8⟩=>by subst h1 h2 h3 h4 h5 h6 h7 h8; rfl⟩
@[go_sem high] theorem cLg_over_L (x:AV):over (cLg L O b o m t v u) 0 [x]=cLg x O b o m t v u:=rfl
@[go_sem high] theorem cLg_over_O (x:AV):over (cLg L O b o m t v u) 1 [x]=cLg L x b o m t v u:=rfl
@[go_sem high] theorem cLg_over_base:over (cLg L O b o m t v u) 2 (cBk d o')=cLg L O d o' m t v u:=by
 rw [cLg_split,over_right (by simp),show 2 - [L,O].length=0 from rfl,over_left (by rw [cBk_len,cBk_len]; exact Nat.le_refl _),cBk_over_all]
 rfl
@[go_sem high] theorem cLg_over_made (x:AV):over (cLg L O b o m t v u) 27 [x]=cLg L O b o x t v u:=by
 rw [cLg_split,over_right (by simp),over_right (by rw [cBk_len]; simp),cBk_len]
 rfl
@[go_sem high] theorem cLg_over_tent (x:AV):over (cLg L O b o m t v u) 28 [x]=cLg L O b o m x v u:=by
 rw [cLg_split,over_right (by simp),over_right (by rw [cBk_len]; simp),cBk_len]
 rfl
theorem cLg_over_rest (k:Nat) (x:AV):over (cLg L O b o m t v u) (29 + k) [x]=L :: O :: (cBk b o++(m :: t :: over (cV v++cV u) k [x])):=by
 rw [cLg_split,over_right (by simp; omega),over_right (by rw [cBk_len]; simp; omega),cBk_len,over_right (by simp; omega)]
 rw [show 29 + k - [L,O].length - 25 - [m,t].length=k by simp; omega]
 rfl
theorem cLg_over_v (i:Nat) (hi:i < 4) (n:Int):over (cLg L O b o m t v u) (29 + i) [.int .i64 n]=cLg L O b o m t (v.put i n) u:=by
 rw [cLg_over_rest,over_left (by rw [cV_len]; simp; omega),cV_over v i n hi]
 rfl
theorem cLg_over_u (i:Nat) (hi:i < 4) (n:Int):over (cLg L O b o m t v u) (33 + i) [.int .i64 n]=cLg L O b o m t v (u.put i n):=by
 rw [show 33 + i=29 + (4 + i) by omega,cLg_over_rest,over_right (by rw [cV_len]; omega),cV_len,show 4 + i - 4=i by omega,cV_over u i n hi]
 rfl
@[go_sem high] theorem cLg_over_all:over (cLg L O b o m t v u) 0 (cLg L' O' d o' m' t' v' u')=cLg L' O' d o' m' t' v' u':=by
 simp only [over,cLg_len,List.take_zero,List.nil_append,Nat.zero_add]
 rw [List.drop_eq_nil_of_le (by rw [cLg_len]; exact Nat.le_refl _),List.append_nil]
end
end Go.Proofs.YtjoaigccapegpaaGreat.AE
