/-
 The cells of a cut: how many changes, the vector of them, the booking behind them; and octets. Conditions: none; every lemma names its own.
-/
import Derived.Test.YtfbooejaabdkoaaPd
set_option linter.constructorNameAsVariable false
namespace Go.Proofs.Ytfbooejaabdkoaa.AE
open Go Go.Proofs Go.RowKit
set_option linter.unusedVariables false
set_option linter.unusedSimpArgs false
abbrev U8:=Int
def cU8 (n:U8):List AV:=[.int .u8 n]
@[go_sem] theorem cU8_len (n:Int):(cU8 n).length=1:=rfl
@[go_sem,simp high] theorem cU8_get (n:Int):(cU8 n)[0]?=some (.int .u8 n):=rfl
theorem cU8_inj {x y:Int} (h:cU8 x=cU8 y):x=y:=by simpa [cU8] using h
theorem rows_inj_U8 {L M:List Int} (h:rows cU8 L=rows cU8 M):L=M:=rows_inj (fun x y=>cU8_inj) h
theorem rows_iff_U8 (L M:List Int):rows cU8 L=rows cU8 M ↔ L=M:=⟨rows_inj_U8,fun h=>h ▸ rfl⟩
@[go_sem] theorem rows_one_U8 (n:Int):[[.int .u8 n]]=rows cU8 [n]:=rfl
@[go_sem] theorem rows_two_U8 (n m:Int):[[.int .u8 n],[.int .u8 m]]=rows cU8 [n,m]:=rfl
@[go_sem] theorem rows_light_U8 (L:List Int):(rows cU8 L).all (fun xs=>xs.all light)=true:=rows_all _ _ fun _=>rfl
@[go_sem] theorem strL_U8:∀ (L:List Int),strL (rows cU8 L)=some L
 | []=>rfl
 | n :: L=>by
  show (match strL (rows cU8 L) with | some ns=>some (n :: ns) | none=>none)=_
  rw [strL_U8 L]
def cCut (n:Int) (k:Vn 4) (b:Bk) (o:AV):List AV:=.int .i64 n :: (cV k++cBk b o)
section
variable (n m:Int) (k l:Vn 4) (b d:Bk) (o q:AV)
@[go_sem] theorem cCut_len:(cCut n k b o).length=30:=by simp only [cCut,List.length_append,cBk_len,List.length_cons,cV_len]
@[go_sem,simp high] theorem cCut_n:(cCut n k b o)[0]?=some (.int .i64 n):=rfl
theorem cCut_rest (i:Nat):(cCut n k b o)[i + 5]?=(cBk b o)[i]?:=by
 rw [cCut,show i + 5=(i + 4) + 1 by omega,List.getElem?_cons_succ,List.getElem?_append_right (by rw [cV_len]; omega),cV_len,Nat.add_sub_cancel]
@[go_sem,simp high] theorem cCut_os:(cCut n k b o)[29]?=some o:=(cCut_rest n k b o 24).trans (cBk_os b o)
@[go_sem,simp high] theorem cCut_k (i:Nat) (h:i < 4):(cCut n k b o)[1 + i]?=some (.int .i64 (k.at i)):=by
 rw [cCut,show 1 + i=i + 1 by omega,List.getElem?_cons_succ,List.getElem?_append_left (by rw [cV_len]; exact h),cV_get' k i h]
@[go_sem,simp high] theorem cCut_k0:(cCut n k b o)[1]?=some (.int .i64 (k.at 0)):=cCut_k n k b o 0 (by omega)
@[go_sem,simp high] theorem cCut_st (i:Nat) (h:i < 8):(cCut n k b o)[5 + i]?=some (.int .i64 (b.st.at i)):=by
 rw [Nat.add_comm 5 i,cCut_rest,cBk_st b o i h]
@[go_sem,simp high] theorem cCut_pr (i:Nat) (h:i < 8):(cCut n k b o)[13 + i]?=some (.int .i64 (b.pr.at i)):=by
 rw [show 13 + i=(8 + i) + 5 by omega,cCut_rest,cBk_pr b o i h]
@[go_sem,simp high] theorem cCut_pu (i:Nat) (h:i < 8):(cCut n k b o)[21 + i]?=some (.int .i64 (b.pu.at i)):=by
 rw [show 21 + i=(16 + i) + 5 by omega,cCut_rest,cBk_pu b o i h]
@[go_sem] theorem cCut_take_all:(cCut n k b o).take 30=cCut n k b o:=List.take_of_length_le (by rw [cCut_len]; exact Nat.le_refl _)
theorem cCut_drop1:(cCut n k b o).drop 1=cV k++cBk b o:=rfl
theorem cCut_drop5:(cCut n k b o).drop 5=cBk b o:=by
 rw [show (5:Nat)=1 + 4 from rfl,<-List.drop_drop,cCut_drop1]
 exact List.drop_left' (cV_len k)
@[go_sem] theorem cCut_known:((cCut n k b o).drop 1).take 4=cV k:=by
 rw [cCut_drop1,List.take_append_of_le_length (by rw [cV_len]; exact Nat.le_refl _)]
 exact List.take_of_length_le (by rw [cV_len]; exact Nat.le_refl _)
@[go_sem] theorem cCut_book:((cCut n k b o).drop 5).take 25=cBk b o:=by rw [cCut_drop5,cBk_take_all]
@[go_sem] theorem cCut_stA:((cCut n k b o).drop 5).take 8=cV b.st:=by rw [cCut_drop5,cBk_take]
@[go_sem] theorem cCut_prA:((cCut n k b o).drop 13).take 8=cV b.pr:=by rw [show (13:Nat)=5 + 8 from rfl,<-List.drop_drop,cCut_drop5,cBk_drop]
@[go_sem] theorem cCut_puA:((cCut n k b o).drop 21).take 8=cV b.pu:=by rw [show (21:Nat)=5 + 16 from rfl,<-List.drop_drop,cCut_drop5,cBk_drop2]
theorem cCut_map (f:AV->AV) (h:∀ (n:Int),f (.int .i64 n)=.int .i64 n):(cCut n k b o).map f=cCut n k b (f o):=by
 have hV:∀ {n:Nat} (v:Vn n),(cV v).map f=cV v:=fun v=>by
  simp only [cV,AI,List.map_map]
  congr 1
  funext a
  exact h a
 simp only [cCut,List.map_append,cBk_map b o f h,List.map_cons,hV,h]
@[go_sem] theorem cCut_leaf:(cCut n k b o).map leafV=cCut n k b (leafV o):=cCut_map _ _ _ _ _ fun n=>rfl
@[go_sem] theorem cCut_view (H d'):(cCut n k b o).map (view H d')=cCut n k b (view H d' o):=cCut_map _ _ _ _ _ fun n=>view_int ..
@[go_sem] theorem cCut_told (H bs d'):(cCut n k b o).map (told H bs d')=cCut n k b (told H bs d' o):=cCut_map _ _ _ _ _ fun n=>told_int ..
@[go_sem] theorem cCut_back (H bs d'):(cCut n k b o).map (back H bs d')=cCut n k b (back H bs d' o):=cCut_map _ _ _ _ _ fun n=>back_int ..
@[go_sem] theorem cCut_coll (H d' acc):(cCut n k b o).foldl (coll H d') acc=coll H d' acc o:=by
 simp only [cCut,List.foldl_append,List.foldl_cons,cBk_coll,cV_coll,coll_int]
@[go_sem] theorem cCut_lightN (d'):(cCut n k b o).all (lightN d')=lightN d' o:=by
 simp only [cCut,List.all_append,List.all_cons,cBk_lightN,cV_lightN,lightN_int,Bool.true_and]
@[go_sem] theorem cCut_light:(cCut n k b o).all light=light o:=by
 simp only [cCut,List.all_append,List.all_cons,cBk_light,cV_light,Bool.true_and]
 rfl
@[go_sem] theorem cCut_flat:(cCut n k b o).all flatC=flatC o:=by
 simp only [cCut,List.all_append,List.all_cons,cBk_flat,cV_flat,Bool.true_and]
 rfl
@[go_sem] theorem cCut_leC (H0 H ρ):le.leC H0 H ρ (cCut n k b o) (cCut m l d q)=(m=n/\l=k/\d=b/\le H0 H ρ o q):=by
 rw [cCut,cCut,leC_cons,leC_append _ _ _ _ _ _ _ (by simp only [cV_len]),cV_leC,cBk_leC,le_int]
 simp
 try (constructor <;> (rintro ⟨rfl,h⟩; exact ⟨rfl,h⟩))
@[go_sem] theorem cCut_resC (H):res.resC H (cCut n k b o) (cCut m l d q)=(m=n/\l=k/\d=b/\res H o q):=by
 rw [cCut,cCut,resC_cons,resC_append _ _ _ _ _ (by simp only [cV_len]),cV_resC,cBk_resC,res_int]
 simp
 try (constructor <;> (rintro ⟨rfl,h⟩; exact ⟨rfl,h⟩))
theorem cCut_inj {n m:Int} {k l:Vn 4} {b d:Bk} {o q:AV} (h:cCut n k b o=cCut m l d q):n=m/\k=l/\b=d/\o=q:=by
 simp only [cCut,List.cons.injEq,AV.int.injEq,true_and] at h
 obtain ⟨h1,h2⟩:=h
 obtain ⟨h4,h5⟩:=List.append_inj h2 (by simp only [cV_len])
 obtain ⟨h6,h7⟩:=cBk_inj h5
 exact ⟨h1,cV_inj h4,h6,h7⟩
theorem cCut_eq_iff:cCut n k b o=cCut m l d q ↔ n=m/\k=l/\b=d/\o=q:=⟨fun h=>cCut_inj h,fun ⟨h1,h2,h3,h4⟩=>by subst h1 h2 h3 h4; rfl⟩
@[go_sem high] theorem cCut_over_all:over (cCut n k b o) 0 (cCut m l d q)=cCut m l d q:=by
 simp only [over,cCut_len,List.take_zero,List.nil_append,Nat.zero_add]
 rw [List.drop_eq_nil_of_le (by rw [cCut_len]; exact Nat.le_refl _),List.append_nil]
theorem cCut_split:cCut n k b o=[.int .i64 n]++(cV k++cBk b o):=rfl
@[go_sem high] theorem cCut_over_n (x:Int):over (cCut n k b o) 0 [.int .i64 x]=cCut x k b o:=rfl
@[go_sem high] theorem cCut_over_k (i:Nat) (x:Int) (h:i < 4):over (cCut n k b o) (1 + i) [.int .i64 x]=cCut n (k.put i x) b o:=by
 rw [cCut_split,over_right (by simp),show 1 + i - [AV.int .i64 n].length=i by simp,over_left (by rw [cV_len]; simp; omega),cV_over k i x h]
 rfl
@[go_sem high] theorem cCut_over_kA (v:Vn 4):over (cCut n k b o) 1 (cV v)=cCut n v b o:=by
 rw [cCut_split,over_right (by simp),show 1 - [AV.int .i64 n].length=0 by simp,over_left (by rw [cV_len,cV_len]; omega),cV_over_all]
 rfl
theorem cCut_over_rest (i:Nat) (x:List AV):over (cCut n k b o) (5 + i) x=[.int .i64 n]++(cV k++over (cBk b o) i x):=by
 rw [cCut_split,over_right (by simp; omega),over_right (by rw [cV_len]; simp only [List.length_cons,List.length_nil]; omega),cV_len]
 rw [show 5 + i - [AV.int .i64 n].length - 4=i by simp only [List.length_cons,List.length_nil]; omega]
@[go_sem high] theorem cCut_over_b:over (cCut n k b o) 5 (cBk d q)=cCut n k d q:=by
 have:=cCut_over_rest n k b o 0 (cBk d q)
 rw [cBk_over_all] at this
 exact this
@[go_sem high] theorem cCut_over_os:over (cCut n k b o) 29 [q]=cCut n k b q:=by
 have:=cCut_over_rest n k b o 24 [q]
 rw [cBk_over_os] at this
 exact this
@[go_sem high] theorem cCut_over_st (i:Nat) (x:Int) (h:i < 8):over (cCut n k b o) (5 + i) [.int .i64 x]=cCut n k { b with st:=b.st.put i x } o:=by
 rw [cCut_over_rest,cBk_over_st b o i x h]
 rfl
@[go_sem high] theorem cCut_over_pr (i:Nat) (x:Int) (h:i < 8):over (cCut n k b o) (13 + i) [.int .i64 x]=cCut n k { b with pr:=b.pr.put i x } o:=by
 rw [show 13 + i=5 + (8 + i) by omega,cCut_over_rest,cBk_over_pr b o i x h]
 rfl
@[go_sem high] theorem cCut_over_pu (i:Nat) (x:Int) (h:i < 8):over (cCut n k b o) (21 + i) [.int .i64 x]=cCut n k { b with pu:=b.pu.put i x } o:=by
 rw [show 21 + i=5 + (16 + i) by omega,cCut_over_rest,cBk_over_pu b o i x h]
 rfl
end
end Go.Proofs.Ytfbooejaabdkoaa.AE
