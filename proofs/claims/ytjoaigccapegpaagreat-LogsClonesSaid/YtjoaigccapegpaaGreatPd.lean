/-
 The program's structs, and slices of them, as the plain machine tells them: as cells, and back. Conditions: none; every lemma names its own.
-/
import Derived.Test.YtjoaigccapegpaaGreatPc
set_option linter.constructorNameAsVariable false
namespace Go.Proofs.YtjoaigccapegpaaGreat.AE
open Go Go.Proofs Go.RowKit
set_option linter.unusedVariables false
set_option linter.unusedSimpArgs false
def rows {α:Type} (c:α->List AV) (L:List α):List (List AV):=L.map c
section
variable {α:Type} (c:α->List AV) (L M:List α) (n:Nat)
@[go_sem] theorem rows_len:(rows c L).length=L.length:=by simp [rows]
@[go_sem,simp high] theorem rows_get:(rows c L)[n]?=(L[n]?).map c:=by simp [rows]
@[go_sem] theorem rows_take:(rows c L).take n=rows c (L.take n):=by simp [rows,List.map_take]
@[go_sem] theorem rows_drop:(rows c L).drop n=rows c (L.drop n):=by simp [rows,List.map_drop]
@[go_sem] theorem rows_append:rows c L++rows c M=rows c (L++M):=by simp [rows]
@[go_sem] theorem rows_nil:rows c []=[]:=rfl
@[go_sem] theorem rows_isEmpty:(rows c L).isEmpty=L.isEmpty:=by cases L <;> rfl
@[go_sem] theorem rows_eq_nil:(rows c L=[])=(L=[]):=by simp [rows]
theorem rows_set (x:α):(rows c L).set n (c x)=rows c (L.set n x):=by simp [rows,List.map_set]
theorem rows_inj {c:α->List AV} (hc:∀ x y,c x=c y->x=y) {L M:List α} (h:rows c L=rows c M):L=M:=by
 induction L generalizing M with
 | nil=>cases M with | nil=>rfl | cons=>simp [rows] at h
 | cons a L ih=>cases M with
  | nil=>simp [rows] at h
  | cons b M=>simp only [rows,List.map_cons,List.cons.injEq] at h; rw [hc _ _ h.1,ih h.2]
theorem rows_all {p:List AV->Bool} (h:∀ x,p (c x)=true):(rows c L).all p=true:=by
 simp [rows,h]
end
structure Vn (n:Nat) where
 l:List Int
 h:l.length=n
 deriving DecidableEq
theorem Vn.ext' {n:Nat} {v u:Vn n} (h:v.l=u.l):v=u:=by cases v; cases u; simp at h; subst h; rfl
def Vn.at {n:Nat} (v:Vn n) (i:Nat):Int:=v.l.getD i 0
def Vn.put {n:Nat} (v:Vn n) (i:Nat) (x:Int):Vn n:=⟨v.l.set i x,by rw [List.length_set]; exact v.h⟩
def zV (n:Nat):Vn n:=⟨List.replicate n 0,by simp⟩
@[go_sem] theorem zV_at (n i:Nat):(zV n).at i=0:=by
 simp only [zV,Vn.at,List.getD_eq_getElem?_getD,List.getElem?_replicate]
 split <;> rfl
theorem put_at {n:Nat} (v:Vn n) (i j:Nat) (x:Int) (h:i < n):(v.put i x).at j=if i=j then x else v.at j:=by
 simp only [Vn.put,Vn.at,List.getD_eq_getElem?_getD,List.getElem?_set,v.h,h,if_true]
 split <;> rfl
theorem Vn.ext_at {n:Nat} {v u:Vn n} (h:∀ i,i < n->v.at i=u.at i):v=u:=by
 apply Vn.ext'
 apply List.ext_getElem?
 intro i
 by_cases hi:i < n
 ·
  have:=h i hi
  simp only [Vn.at,List.getD_eq_getElem?_getD] at this
  rw [List.getElem?_eq_getElem (by rw [v.h]; exact hi),List.getElem?_eq_getElem (by rw [u.h]; exact hi)] at this ⊢
  simpa using this
 · rw [List.getElem?_eq_none (by rw [v.h]; omega),List.getElem?_eq_none (by rw [u.h]; omega)]
def cV {n:Nat} (v:Vn n):List AV:=AI v.l
section
variable {n:Nat} (v u:Vn n)
@[go_sem] theorem cV_len:(cV v).length=n:=by rw [cV,AI_len,v.h]
theorem cV_get' (i:Nat) (h:i < n):(cV v)[i]?=some (.int .i64 (v.at i)):=by
 rw [cV,AI_get,List.getElem?_eq_getElem (by rw [v.h]; exact h)]
 simp [Vn.at,v.h,h]
@[go_sem,simp high] theorem cV_get (i:Nat):(cV v)[i]?=if i < n then some (.int .i64 (v.at i)) else none:=by
 split
 · exact cV_get' v i ‹_›
 · rw [cV,AI_get,List.getElem?_eq_none (by rw [v.h]; omega)]; rfl
@[go_sem high] theorem cV_over (i:Nat) (x:Int) (h:i < n):over (cV v) i [.int .i64 x]=cV (v.put i x):=by
 have:over (AI v.l) i [.int .i64 x]=AI (v.l.set i x):=by
  rw [<-over_AI (by rw [v.h]; exact h)]
  simp [over,AI_take,AI_drop]
 exact this
theorem cV_take_all:(cV v).take n=cV v:=List.take_of_length_le (by rw [cV_len]; exact Nat.le_refl _)
@[go_sem high] theorem cV_over_all:over (cV v) 0 (cV u)=cV u:=by
 simp [over,cV_len,List.drop_eq_nil_of_le]
@[go_sem] theorem cV_light:(cV v).all light=true:=AI_light _
@[go_sem] theorem cV_lightN (d):(cV v).all (lightN d)=true:=by
 simp only [cV,AI,List.all_map,List.all_eq_true]
 intro x _
 exact lightN_int ..
@[go_sem] theorem cV_flat:(cV v).all flatC=true:=AI_flat _
@[go_sem] theorem cV_view (H d):(cV v).map (view H d)=cV v:=view_AI _ _ _
@[go_sem] theorem cV_renV (fo fr d):(cV v).map (renV fo fr d)=cV v:=by
 simp only [cV,AI,List.map_map]
 congr 1
 funext a
 exact renV_int ..
@[go_sem] theorem cV_told (H bs d):(cV v).map (told H bs d)=cV v:=cV_renV v ..
@[go_sem] theorem cV_back (H bs d):(cV v).map (back H bs d)=cV v:=cV_renV v ..
@[go_sem] theorem cV_coll (H d acc):(cV v).foldl (coll H d) acc=acc:=by
 simp only [cV,AI]
 induction v.l with
 | nil=>rfl
 | cons a l ih=>simp only [List.map_cons,List.foldl_cons,coll_int]; exact ih
theorem cV_inj {v u:Vn n} (h:cV v=cV u):v=u:=Vn.ext' (AI_inj h)
theorem qV_:cV v=cV u ↔ v=u:=⟨cV_inj,fun h=>h ▸ rfl⟩
@[go_sem] theorem cV_leC (H0 H ρ):le.leC H0 H ρ (cV v) (cV u)=(u=v):=by
 rw [cV,cV,leC_AI]
 exact propext ⟨Vn.ext',fun h=>h ▸ rfl⟩
@[go_sem] theorem cV_resC (H):res.resC H (cV v) (cV u)=(u=v):=by
 rw [cV,cV,resC_AI]
 exact propext ⟨Vn.ext',fun h=>h ▸ rfl⟩
theorem cV_eqvs:eqvs (cV v) (cV u)=some (decide (v=u)):=by
 rw [cV,cV,eqvs_AI _ _ (by rw [v.h,u.h])]
 congr 1
 rw [Bool.eq_iff_iff]
 simp only [beq_iff_eq,decide_eq_true_eq]
 exact ⟨Vn.ext',fun h=>h ▸ rfl⟩
theorem cV_kd:(cV v).map kd=List.replicate n (some (.int .i64)):=by rw [cV,kd_AI,v.h]
end
@[go_sem high] theorem eqK_V4 (v u:Vn 4):eqK (cV v) (cV u) (some [.int .i64,.int .i64,.int .i64,.int .i64])=some (decide (v=u)):=by
 rw [eqK_some]
 rw [if_pos (by rw [cV_kd]; rfl),cV_eqvs]
@[go_sem high] theorem eqK_V2 (v u:Vn 2):eqK (cV v) (cV u) (some [.int .i64,.int .i64])=some (decide (v=u)):=by
 rw [eqK_some]
 rw [if_pos (by rw [cV_kd]; rfl),cV_eqvs]
@[go_sem high] theorem eqK_V8 (v u:Vn 8):eqK (cV v) (cV u) (some [.int .i64,.int .i64,.int .i64,.int .i64,.int .i64,.int .i64,.int .i64,.int .i64])=some (decide (v=u)):=by
 rw [eqK_some]
 rw [if_pos (by rw [cV_kd]; rfl),cV_eqvs]
structure Id where
 rep:Int
 seq:Int
 deriving DecidableEq
def zId:Id:=⟨0,0⟩
def cId (x:Id):List AV:=[.int .i64 x.rep,.int .i64 x.seq]
section
variable (x y:Id)
@[go_sem] theorem cId_len:(cId x).length=2:=rfl
@[go_sem] theorem cId_take:(cId x).take 2=cId x:=rfl
@[go_sem high] theorem cId_over (v:Id):over (cId x) 0 (cId v)=cId v:=rfl
@[go_sem,simp high] theorem cId_get_rep:(cId x)[0]?=some (.int .i64 x.rep):=rfl
@[go_sem high] theorem cId_over_rep (v:Int):over (cId x) 0 [.int .i64 v]=cId { x with rep:=v }:=rfl
@[go_sem,simp high] theorem cId_get_seq:(cId x)[1]?=some (.int .i64 x.seq):=rfl
@[go_sem high] theorem cId_over_seq (v:Int):over (cId x) 1 [.int .i64 v]=cId { x with seq:=v }:=rfl
theorem Id.ext_all {x y:Id} (h:x.rep=y.rep/\x.seq=y.seq):x=y:=by
 obtain ⟨_,_⟩:=x
 obtain ⟨_,_⟩:=y
 simp only at h
 obtain ⟨rfl,rfl⟩:=h
 rfl
theorem cId_inj {x y:Id} (h:cId x=cId y):x=y:=by
 simp only [cId,List.cons.injEq,AV.int.injEq,true_and,and_true] at h
 exact Id.ext_all h
theorem qI_:cId x=cId y ↔ x=y:=⟨cId_inj,fun h=>h ▸ rfl⟩
@[go_sem] theorem cId_light:(cId x).all light=true:=rfl
@[go_sem] theorem cId_flat:(cId x).all flatC=true:=rfl
@[go_sem] theorem cId_view (H d):(cId x).map (view H d)=cId x:=by simp only [cId,List.map_cons,List.map_nil,view_int]
@[go_sem] theorem cId_renV (fo fr d):(cId x).map (renV fo fr d)=cId x:=by simp only [cId,List.map_cons,List.map_nil,renV_int]
@[go_sem] theorem cId_told (H bs d):(cId x).map (told H bs d)=cId x:=by simp only [cId,List.map_cons,List.map_nil,told_int]
@[go_sem] theorem cId_back (H bs d):(cId x).map (back H bs d)=cId x:=by simp only [cId,List.map_cons,List.map_nil,back_int]
@[go_sem] theorem cId_lightN (d):(cId x).all (lightN d)=true:=by simp only [cId,List.all_cons,List.all_nil,lightN_int,Bool.and_self]
@[go_sem] theorem cId_coll (H d acc):(cId x).foldl (coll H d) acc=acc:=by simp only [cId,List.foldl_cons,List.foldl_nil,coll_int]
@[go_sem] theorem cId_leC (H0 H ρ):le.leC H0 H ρ (cId x) (cId y)=(y=x):=by
 refine propext ⟨fun h=>?_,fun h=>?_⟩
 · simp only [cId,leC_cons,leC_nil,le_int,AV.int.injEq,true_and,and_true] at h; exact Id.ext_all h
 · subst h; simp only [cId,leC_cons,leC_nil,le_int,and_self]
@[go_sem] theorem cId_resC (H):res.resC H (cId x) (cId y)=(y=x):=by
 refine propext ⟨fun h=>?_,fun h=>?_⟩
 · simp only [cId,resC_cons,resC_nil,res_int,AV.int.injEq,true_and,and_true] at h; exact Id.ext_all h
 · subst h; simp only [cId,resC_cons,resC_nil,res_int,and_self]
@[go_sem high] theorem eqK_Id:eqK (cId x) (cId y) (some [.int .i64,.int .i64])=some (decide (x=y)):=by
 rw [eqK_some]
 rw [if_pos (show List.map kd (cId x)=List.map some [.int .i64,.int .i64] from rfl)]
 simp only [cId,eqvs_cons,eqvs_nil,eqv_int,both_some,Option.some.injEq,Bool.and_true]
 rw [Bool.eq_iff_iff]
 simp only [Bool.and_eq_true,beq_iff_eq,decide_eq_true_eq]
 exact ⟨Id.ext_all,fun h=>h ▸ ⟨rfl,rfl⟩⟩
@[go_sem] theorem rows_one_Id:[cId x]=rows cId [x]:=rfl
@[go_sem] theorem rows_cons_Id (L:List Id):cId x :: rows cId L=rows cId (x :: L):=rfl
@[go_sem] theorem rows_set_Id (L:List Id) (i:Nat):(rows cId L).set i (cId x)=rows cId (L.set i x):=rows_set ..
@[go_sem] theorem rows_light_Id (L:List Id):(rows cId L).all (fun xs=>xs.all light)=true:=rows_all _ _ fun _=>rfl
end
structure Chg where
 id:Id
 time:Int
 kind:Int
 a:Int
 b:Int
 n:Int
 ref:Id
 deriving DecidableEq
def zChg:Chg:=⟨zId,0,0,0,0,0,zId⟩
def cChg (x:Chg):List AV:=[.int .i64 x.id.rep,.int .i64 x.id.seq,.int .i64 x.time,.int .i64 x.kind,.int .i64 x.a,.int .i64 x.b,.int .i64 x.n,.int .i64 x.ref.rep,.int .i64 x.ref.seq]
section
variable (x y:Chg)
@[go_sem] theorem cChg_len:(cChg x).length=9:=rfl
@[go_sem] theorem cChg_take:(cChg x).take 9=cChg x:=rfl
@[go_sem high] theorem cChg_over (v:Chg):over (cChg x) 0 (cChg v)=cChg v:=rfl
@[go_sem] theorem cChg_take_id:(cChg x).take 2=cId x.id:=rfl
@[go_sem high] theorem cChg_over_id (v:Id):over (cChg x) 0 (cId v)=cChg { x with id:=v }:=rfl
@[go_sem,simp high] theorem cChg_get_id_rep:(cChg x)[0]?=some (.int .i64 x.id.rep):=rfl
@[go_sem high] theorem cChg_over_id_rep (v:Int):over (cChg x) 0 [.int .i64 v]=cChg { x with id:={ x.id with rep:=v } }:=rfl
@[go_sem,simp high] theorem cChg_get_id_seq:(cChg x)[1]?=some (.int .i64 x.id.seq):=rfl
@[go_sem high] theorem cChg_over_id_seq (v:Int):over (cChg x) 1 [.int .i64 v]=cChg { x with id:={ x.id with seq:=v } }:=rfl
@[go_sem,simp high] theorem cChg_get_time:(cChg x)[2]?=some (.int .i64 x.time):=rfl
@[go_sem high] theorem cChg_over_time (v:Int):over (cChg x) 2 [.int .i64 v]=cChg { x with time:=v }:=rfl
@[go_sem,simp high] theorem cChg_get_kind:(cChg x)[3]?=some (.int .i64 x.kind):=rfl
@[go_sem high] theorem cChg_over_kind (v:Int):over (cChg x) 3 [.int .i64 v]=cChg { x with kind:=v }:=rfl
@[go_sem,simp high] theorem cChg_get_a:(cChg x)[4]?=some (.int .i64 x.a):=rfl
@[go_sem high] theorem cChg_over_a (v:Int):over (cChg x) 4 [.int .i64 v]=cChg { x with a:=v }:=rfl
@[go_sem,simp high] theorem cChg_get_b:(cChg x)[5]?=some (.int .i64 x.b):=rfl
@[go_sem high] theorem cChg_over_b (v:Int):over (cChg x) 5 [.int .i64 v]=cChg { x with b:=v }:=rfl
@[go_sem,simp high] theorem cChg_get_n:(cChg x)[6]?=some (.int .i64 x.n):=rfl
@[go_sem high] theorem cChg_over_n (v:Int):over (cChg x) 6 [.int .i64 v]=cChg { x with n:=v }:=rfl
@[go_sem] theorem cChg_drop_ref:((cChg x).drop 7).take 2=cId x.ref:=rfl
@[go_sem high] theorem cChg_over_ref (v:Id):over (cChg x) 7 (cId v)=cChg { x with ref:=v }:=rfl
@[go_sem,simp high] theorem cChg_get_ref_rep:(cChg x)[7]?=some (.int .i64 x.ref.rep):=rfl
@[go_sem high] theorem cChg_over_ref_rep (v:Int):over (cChg x) 7 [.int .i64 v]=cChg { x with ref:={ x.ref with rep:=v } }:=rfl
@[go_sem,simp high] theorem cChg_get_ref_seq:(cChg x)[8]?=some (.int .i64 x.ref.seq):=rfl
@[go_sem high] theorem cChg_over_ref_seq (v:Int):over (cChg x) 8 [.int .i64 v]=cChg { x with ref:={ x.ref with seq:=v } }:=rfl
theorem Chg.ext_all {x y:Chg} (h:x.id.rep=y.id.rep/\x.id.seq=y.id.seq/\x.time=y.time/\x.kind=y.kind/\x.a=y.a/\x.b=y.b/\x.n=y.n/\x.ref.rep=y.ref.rep/\x.ref.seq=y.ref.seq):x=y:=by
 obtain ⟨⟨_,_⟩,_,_,_,_,_,⟨_,_⟩⟩:=x
 obtain ⟨⟨_,_⟩,_,_,_,_,_,⟨_,_⟩⟩:=y
 simp only at h
 obtain ⟨rfl,rfl,rfl,rfl,rfl,rfl,rfl,rfl,rfl⟩:=h
 rfl
theorem cChg_inj {x y:Chg} (h:cChg x=cChg y):x=y:=by
 simp only [cChg,List.cons.injEq,AV.int.injEq,true_and,and_true] at h
 exact Chg.ext_all h
theorem qC_:cChg x=cChg y ↔ x=y:=⟨cChg_inj,fun h=>h ▸ rfl⟩
@[go_sem] theorem cChg_light:(cChg x).all light=true:=rfl
@[go_sem] theorem cChg_flat:(cChg x).all flatC=true:=rfl
@[go_sem] theorem cChg_view (H d):(cChg x).map (view H d)=cChg x:=by simp only [cChg,List.map_cons,List.map_nil,view_int]
@[go_sem] theorem cChg_renV (fo fr d):(cChg x).map (renV fo fr d)=cChg x:=by simp only [cChg,List.map_cons,List.map_nil,renV_int]
@[go_sem] theorem cChg_told (H bs d):(cChg x).map (told H bs d)=cChg x:=by simp only [cChg,List.map_cons,List.map_nil,told_int]
@[go_sem] theorem cChg_back (H bs d):(cChg x).map (back H bs d)=cChg x:=by simp only [cChg,List.map_cons,List.map_nil,back_int]
@[go_sem] theorem cChg_lightN (d):(cChg x).all (lightN d)=true:=by simp only [cChg,List.all_cons,List.all_nil,lightN_int,Bool.and_self]
@[go_sem] theorem cChg_coll (H d acc):(cChg x).foldl (coll H d) acc=acc:=by simp only [cChg,List.foldl_cons,List.foldl_nil,coll_int]
@[go_sem] theorem cChg_leC (H0 H ρ):le.leC H0 H ρ (cChg x) (cChg y)=(y=x):=by
 refine propext ⟨fun h=>?_,fun h=>?_⟩
 · simp only [cChg,leC_cons,leC_nil,le_int,AV.int.injEq,true_and,and_true] at h; exact Chg.ext_all h
 · subst h; simp only [cChg,leC_cons,leC_nil,le_int,and_self]
@[go_sem] theorem cChg_resC (H):res.resC H (cChg x) (cChg y)=(y=x):=by
 refine propext ⟨fun h=>?_,fun h=>?_⟩
 · simp only [cChg,resC_cons,resC_nil,res_int,AV.int.injEq,true_and,and_true] at h; exact Chg.ext_all h
 · subst h; simp only [cChg,resC_cons,resC_nil,res_int,and_self]
@[go_sem high] theorem eqK_Chg:eqK (cChg x) (cChg y) (some [.int .i64,.int .i64,.int .i64,.int .i64,.int .i64,.int .i64,.int .i64,.int .i64,.int .i64])=some (decide (x=y)):=by
 rw [eqK_some]
 rw [if_pos (show List.map kd (cChg x)=List.map some [.int .i64,.int .i64,.int .i64,.int .i64,.int .i64,.int .i64,.int .i64,.int .i64,.int .i64] from rfl)]
 simp only [cChg,eqvs_cons,eqvs_nil,eqv_int,both_some,Option.some.injEq,Bool.and_true]
 rw [Bool.eq_iff_iff]
 simp only [Bool.and_eq_true,beq_iff_eq,decide_eq_true_eq]
 exact ⟨Chg.ext_all,fun h=>h ▸ ⟨rfl,rfl,rfl,rfl,rfl,rfl,rfl,rfl,rfl⟩⟩
@[go_sem] theorem rows_one_Chg:[cChg x]=rows cChg [x]:=rfl
@[go_sem] theorem rows_cons_Chg (L:List Chg):cChg x :: rows cChg L=rows cChg (x :: L):=rfl
@[go_sem] theorem rows_set_Chg (L:List Chg) (i:Nat):(rows cChg L).set i (cChg x)=rows cChg (L.set i x):=rows_set ..
@[go_sem] theorem rows_light_Chg (L:List Chg):(rows cChg L).all (fun xs=>xs.all light)=true:=rows_all _ _ fun _=>rfl
theorem rows_inj_Chg {L M:List Chg} (h:rows cChg L=rows cChg M):L=M:=rows_inj (fun x y=>cChg_inj) h
theorem rows_iff_Chg (L M:List Chg):rows cChg L=rows cChg M ↔ L=M:=⟨rows_inj_Chg,fun h=>h ▸ rfl⟩
end
structure Eff where
 kind:Int
 a:Int
 n:Int
 ref:Id
 deriving DecidableEq
def zEff:Eff:=⟨0,0,0,zId⟩
def cEff (x:Eff):List AV:=[.int .i64 x.kind,.int .i64 x.a,.int .i64 x.n,.int .i64 x.ref.rep,.int .i64 x.ref.seq]
section
variable (x y:Eff)
@[go_sem] theorem cEff_len:(cEff x).length=5:=rfl
@[go_sem] theorem cEff_take:(cEff x).take 5=cEff x:=rfl
@[go_sem high] theorem cEff_over (v:Eff):over (cEff x) 0 (cEff v)=cEff v:=rfl
@[go_sem,simp high] theorem cEff_get_kind:(cEff x)[0]?=some (.int .i64 x.kind):=rfl
@[go_sem high] theorem cEff_over_kind (v:Int):over (cEff x) 0 [.int .i64 v]=cEff { x with kind:=v }:=rfl
@[go_sem,simp high] theorem cEff_get_a:(cEff x)[1]?=some (.int .i64 x.a):=rfl
@[go_sem high] theorem cEff_over_a (v:Int):over (cEff x) 1 [.int .i64 v]=cEff { x with a:=v }:=rfl
@[go_sem,simp high] theorem cEff_get_n:(cEff x)[2]?=some (.int .i64 x.n):=rfl
@[go_sem high] theorem cEff_over_n (v:Int):over (cEff x) 2 [.int .i64 v]=cEff { x with n:=v }:=rfl
@[go_sem] theorem cEff_drop_ref:((cEff x).drop 3).take 2=cId x.ref:=rfl
@[go_sem high] theorem cEff_over_ref (v:Id):over (cEff x) 3 (cId v)=cEff { x with ref:=v }:=rfl
@[go_sem,simp high] theorem cEff_get_ref_rep:(cEff x)[3]?=some (.int .i64 x.ref.rep):=rfl
@[go_sem high] theorem cEff_over_ref_rep (v:Int):over (cEff x) 3 [.int .i64 v]=cEff { x with ref:={ x.ref with rep:=v } }:=rfl
@[go_sem,simp high] theorem cEff_get_ref_seq:(cEff x)[4]?=some (.int .i64 x.ref.seq):=rfl
@[go_sem high] theorem cEff_over_ref_seq (v:Int):over (cEff x) 4 [.int .i64 v]=cEff { x with ref:={ x.ref with seq:=v } }:=rfl
theorem Eff.ext_all {x y:Eff} (h:x.kind=y.kind/\x.a=y.a/\x.n=y.n/\x.ref.rep=y.ref.rep/\x.ref.seq=y.ref.seq):x=y:=by
 obtain ⟨_,_,_,⟨_,_⟩⟩:=x
 obtain ⟨_,_,_,⟨_,_⟩⟩:=y
 simp only at h
 obtain ⟨rfl,rfl,rfl,rfl,rfl⟩:=h
 rfl
theorem cEff_inj {x y:Eff} (h:cEff x=cEff y):x=y:=by
 simp only [cEff,List.cons.injEq,AV.int.injEq,true_and,and_true] at h
 exact Eff.ext_all h
theorem qE_:cEff x=cEff y ↔ x=y:=⟨cEff_inj,fun h=>h ▸ rfl⟩
@[go_sem] theorem cEff_light:(cEff x).all light=true:=rfl
@[go_sem] theorem cEff_flat:(cEff x).all flatC=true:=rfl
@[go_sem] theorem cEff_view (H d):(cEff x).map (view H d)=cEff x:=by simp only [cEff,List.map_cons,List.map_nil,view_int]
@[go_sem] theorem cEff_renV (fo fr d):(cEff x).map (renV fo fr d)=cEff x:=by simp only [cEff,List.map_cons,List.map_nil,renV_int]
@[go_sem] theorem cEff_told (H bs d):(cEff x).map (told H bs d)=cEff x:=by simp only [cEff,List.map_cons,List.map_nil,told_int]
@[go_sem] theorem cEff_back (H bs d):(cEff x).map (back H bs d)=cEff x:=by simp only [cEff,List.map_cons,List.map_nil,back_int]
@[go_sem] theorem cEff_lightN (d):(cEff x).all (lightN d)=true:=by simp only [cEff,List.all_cons,List.all_nil,lightN_int,Bool.and_self]
@[go_sem] theorem cEff_coll (H d acc):(cEff x).foldl (coll H d) acc=acc:=by simp only [cEff,List.foldl_cons,List.foldl_nil,coll_int]
@[go_sem] theorem cEff_leC (H0 H ρ):le.leC H0 H ρ (cEff x) (cEff y)=(y=x):=by
 refine propext ⟨fun h=>?_,fun h=>?_⟩
 · simp only [cEff,leC_cons,leC_nil,le_int,AV.int.injEq,true_and,and_true] at h; exact Eff.ext_all h
 · subst h; simp only [cEff,leC_cons,leC_nil,le_int,and_self]
@[go_sem] theorem cEff_resC (H):res.resC H (cEff x) (cEff y)=(y=x):=by
 refine propext ⟨fun h=>?_,fun h=>?_⟩
 · simp only [cEff,resC_cons,resC_nil,res_int,AV.int.injEq,true_and,and_true] at h; exact Eff.ext_all h
 · subst h; simp only [cEff,resC_cons,resC_nil,res_int,and_self]
@[go_sem high] theorem eqK_Eff:eqK (cEff x) (cEff y) (some [.int .i64,.int .i64,.int .i64,.int .i64,.int .i64])=some (decide (x=y)):=by
 rw [eqK_some]
 rw [if_pos (show List.map kd (cEff x)=List.map some [.int .i64,.int .i64,.int .i64,.int .i64,.int .i64] from rfl)]
 simp only [cEff,eqvs_cons,eqvs_nil,eqv_int,both_some,Option.some.injEq,Bool.and_true]
 rw [Bool.eq_iff_iff]
 simp only [Bool.and_eq_true,beq_iff_eq,decide_eq_true_eq]
 exact ⟨Eff.ext_all,fun h=>h ▸ ⟨rfl,rfl,rfl,rfl,rfl⟩⟩
@[go_sem] theorem rows_one_Eff:[cEff x]=rows cEff [x]:=rfl
@[go_sem] theorem rows_cons_Eff (L:List Eff):cEff x :: rows cEff L=rows cEff (x :: L):=rfl
@[go_sem] theorem rows_set_Eff (L:List Eff) (i:Nat):(rows cEff L).set i (cEff x)=rows cEff (L.set i x):=rows_set ..
@[go_sem] theorem rows_light_Eff (L:List Eff):(rows cEff L).all (fun xs=>xs.all light)=true:=rows_all _ _ fun _=>rfl
theorem rows_inj_Eff {L M:List Eff} (h:rows cEff L=rows cEff M):L=M:=rows_inj (fun x y=>cEff_inj) h
theorem rows_iff_Eff (L M:List Eff):rows cEff L=rows cEff M ↔ L=M:=⟨rows_inj_Eff,fun h=>h ▸ rfl⟩
end
structure Ord where
 id:Id
 buyer:Int
 item:Int
 qty:Int
 cost:Int
 state:Int
 deriving DecidableEq
def zOrd:Ord:=⟨zId,0,0,0,0,0⟩
def cOrd (x:Ord):List AV:=[.int .i64 x.id.rep,.int .i64 x.id.seq,.int .i64 x.buyer,.int .i64 x.item,.int .i64 x.qty,.int .i64 x.cost,.int .i64 x.state]
section
variable (x y:Ord)
@[go_sem] theorem cOrd_len:(cOrd x).length=7:=rfl
@[go_sem] theorem cOrd_take:(cOrd x).take 7=cOrd x:=rfl
@[go_sem high] theorem cOrd_over (v:Ord):over (cOrd x) 0 (cOrd v)=cOrd v:=rfl
@[go_sem] theorem cOrd_take_id:(cOrd x).take 2=cId x.id:=rfl
@[go_sem high] theorem cOrd_over_id (v:Id):over (cOrd x) 0 (cId v)=cOrd { x with id:=v }:=rfl
@[go_sem,simp high] theorem cOrd_get_id_rep:(cOrd x)[0]?=some (.int .i64 x.id.rep):=rfl
@[go_sem high] theorem cOrd_over_id_rep (v:Int):over (cOrd x) 0 [.int .i64 v]=cOrd { x with id:={ x.id with rep:=v } }:=rfl
@[go_sem,simp high] theorem cOrd_get_id_seq:(cOrd x)[1]?=some (.int .i64 x.id.seq):=rfl
@[go_sem high] theorem cOrd_over_id_seq (v:Int):over (cOrd x) 1 [.int .i64 v]=cOrd { x with id:={ x.id with seq:=v } }:=rfl
@[go_sem,simp high] theorem cOrd_get_buyer:(cOrd x)[2]?=some (.int .i64 x.buyer):=rfl
@[go_sem high] theorem cOrd_over_buyer (v:Int):over (cOrd x) 2 [.int .i64 v]=cOrd { x with buyer:=v }:=rfl
@[go_sem,simp high] theorem cOrd_get_item:(cOrd x)[3]?=some (.int .i64 x.item):=rfl
@[go_sem high] theorem cOrd_over_item (v:Int):over (cOrd x) 3 [.int .i64 v]=cOrd { x with item:=v }:=rfl
@[go_sem,simp high] theorem cOrd_get_qty:(cOrd x)[4]?=some (.int .i64 x.qty):=rfl
@[go_sem high] theorem cOrd_over_qty (v:Int):over (cOrd x) 4 [.int .i64 v]=cOrd { x with qty:=v }:=rfl
@[go_sem,simp high] theorem cOrd_get_cost:(cOrd x)[5]?=some (.int .i64 x.cost):=rfl
@[go_sem high] theorem cOrd_over_cost (v:Int):over (cOrd x) 5 [.int .i64 v]=cOrd { x with cost:=v }:=rfl
@[go_sem,simp high] theorem cOrd_get_state:(cOrd x)[6]?=some (.int .i64 x.state):=rfl
@[go_sem high] theorem cOrd_over_state (v:Int):over (cOrd x) 6 [.int .i64 v]=cOrd { x with state:=v }:=rfl
theorem Ord.ext_all {x y:Ord} (h:x.id.rep=y.id.rep/\x.id.seq=y.id.seq/\x.buyer=y.buyer/\x.item=y.item/\x.qty=y.qty/\x.cost=y.cost/\x.state=y.state):x=y:=by
 obtain ⟨⟨_,_⟩,_,_,_,_,_⟩:=x
 obtain ⟨⟨_,_⟩,_,_,_,_,_⟩:=y
 simp only at h
 obtain ⟨rfl,rfl,rfl,rfl,rfl,rfl,rfl⟩:=h
 rfl
theorem cOrd_inj {x y:Ord} (h:cOrd x=cOrd y):x=y:=by
 simp only [cOrd,List.cons.injEq,AV.int.injEq,true_and,and_true] at h
 exact Ord.ext_all h
theorem qO_:cOrd x=cOrd y ↔ x=y:=⟨cOrd_inj,fun h=>h ▸ rfl⟩
@[go_sem] theorem cOrd_light:(cOrd x).all light=true:=rfl
@[go_sem] theorem cOrd_flat:(cOrd x).all flatC=true:=rfl
@[go_sem] theorem cOrd_view (H d):(cOrd x).map (view H d)=cOrd x:=by simp only [cOrd,List.map_cons,List.map_nil,view_int]
@[go_sem] theorem cOrd_renV (fo fr d):(cOrd x).map (renV fo fr d)=cOrd x:=by simp only [cOrd,List.map_cons,List.map_nil,renV_int]
@[go_sem] theorem cOrd_told (H bs d):(cOrd x).map (told H bs d)=cOrd x:=by simp only [cOrd,List.map_cons,List.map_nil,told_int]
@[go_sem] theorem cOrd_back (H bs d):(cOrd x).map (back H bs d)=cOrd x:=by simp only [cOrd,List.map_cons,List.map_nil,back_int]
@[go_sem] theorem cOrd_lightN (d):(cOrd x).all (lightN d)=true:=by simp only [cOrd,List.all_cons,List.all_nil,lightN_int,Bool.and_self]
@[go_sem] theorem cOrd_coll (H d acc):(cOrd x).foldl (coll H d) acc=acc:=by simp only [cOrd,List.foldl_cons,List.foldl_nil,coll_int]
@[go_sem] theorem cOrd_leC (H0 H ρ):le.leC H0 H ρ (cOrd x) (cOrd y)=(y=x):=by
 refine propext ⟨fun h=>?_,fun h=>?_⟩
 · simp only [cOrd,leC_cons,leC_nil,le_int,AV.int.injEq,true_and,and_true] at h; exact Ord.ext_all h
 · subst h; simp only [cOrd,leC_cons,leC_nil,le_int,and_self]
@[go_sem] theorem cOrd_resC (H):res.resC H (cOrd x) (cOrd y)=(y=x):=by
 refine propext ⟨fun h=>?_,fun h=>?_⟩
 · simp only [cOrd,resC_cons,resC_nil,res_int,AV.int.injEq,true_and,and_true] at h; exact Ord.ext_all h
 · subst h; simp only [cOrd,resC_cons,resC_nil,res_int,and_self]
@[go_sem high] theorem eqK_Ord:eqK (cOrd x) (cOrd y) (some [.int .i64,.int .i64,.int .i64,.int .i64,.int .i64,.int .i64,.int .i64])=some (decide (x=y)):=by
 rw [eqK_some]
 rw [if_pos (show List.map kd (cOrd x)=List.map some [.int .i64,.int .i64,.int .i64,.int .i64,.int .i64,.int .i64,.int .i64] from rfl)]
 simp only [cOrd,eqvs_cons,eqvs_nil,eqv_int,both_some,Option.some.injEq,Bool.and_true]
 rw [Bool.eq_iff_iff]
 simp only [Bool.and_eq_true,beq_iff_eq,decide_eq_true_eq]
 exact ⟨Ord.ext_all,fun h=>h ▸ ⟨rfl,rfl,rfl,rfl,rfl,rfl,rfl⟩⟩
@[go_sem] theorem rows_one_Ord:[cOrd x]=rows cOrd [x]:=rfl
@[go_sem] theorem rows_cons_Ord (L:List Ord):cOrd x :: rows cOrd L=rows cOrd (x :: L):=rfl
@[go_sem] theorem rows_set_Ord (L:List Ord) (i:Nat):(rows cOrd L).set i (cOrd x)=rows cOrd (L.set i x):=rows_set ..
@[go_sem] theorem rows_light_Ord (L:List Ord):(rows cOrd L).all (fun xs=>xs.all light)=true:=rows_all _ _ fun _=>rfl
theorem rows_inj_Ord {L M:List Ord} (h:rows cOrd L=rows cOrd M):L=M:=rows_inj (fun x y=>cOrd_inj) h
theorem rows_iff_Ord (L M:List Ord):rows cOrd L=rows cOrd M ↔ L=M:=⟨rows_inj_Ord,fun h=>h ▸ rfl⟩
end
structure Key where
 id:Id
 ord:Int
 undo:Bool
 deriving DecidableEq
def cKey (x:Key):List AV:=[.int .i64 x.id.rep,.int .i64 x.id.seq,.int .i64 x.ord,.bool x.undo]
section
variable (x y:Key)
@[go_sem] theorem cKey_len:(cKey x).length=4:=rfl
@[go_sem] theorem cKey_take:(cKey x).take 4=cKey x:=rfl
@[go_sem high] theorem cKey_over (v:Key):over (cKey x) 0 (cKey v)=cKey v:=rfl
@[go_sem] theorem cKey_take_id:(cKey x).take 2=cId x.id:=rfl
@[go_sem high] theorem cKey_over_id (v:Id):over (cKey x) 0 (cId v)=cKey { x with id:=v }:=rfl
@[go_sem,simp high] theorem cKey_get_id_rep:(cKey x)[0]?=some (.int .i64 x.id.rep):=rfl
@[go_sem high] theorem cKey_over_id_rep (v:Int):over (cKey x) 0 [.int .i64 v]=cKey { x with id:={ x.id with rep:=v } }:=rfl
@[go_sem,simp high] theorem cKey_get_id_seq:(cKey x)[1]?=some (.int .i64 x.id.seq):=rfl
@[go_sem high] theorem cKey_over_id_seq (v:Int):over (cKey x) 1 [.int .i64 v]=cKey { x with id:={ x.id with seq:=v } }:=rfl
@[go_sem,simp high] theorem cKey_get_ord:(cKey x)[2]?=some (.int .i64 x.ord):=rfl
@[go_sem high] theorem cKey_over_ord (v:Int):over (cKey x) 2 [.int .i64 v]=cKey { x with ord:=v }:=rfl
@[go_sem,simp high] theorem cKey_get_undo:(cKey x)[3]?=some (.bool x.undo):=rfl
@[go_sem high] theorem cKey_over_undo (v:Bool):over (cKey x) 3 [.bool v]=cKey { x with undo:=v }:=rfl
theorem Key.ext_all {x y:Key} (h:x.id.rep=y.id.rep/\x.id.seq=y.id.seq/\x.ord=y.ord/\x.undo=y.undo):x=y:=by
 obtain ⟨⟨_,_⟩,_,_⟩:=x
 obtain ⟨⟨_,_⟩,_,_⟩:=y
 simp only at h
 obtain ⟨rfl,rfl,rfl,rfl⟩:=h
 rfl
theorem cKey_inj {x y:Key} (h:cKey x=cKey y):x=y:=by
 simp only [cKey,List.cons.injEq,AV.int.injEq,AV.bool.injEq,true_and,and_true] at h
 exact Key.ext_all h
theorem qK_:cKey x=cKey y ↔ x=y:=⟨cKey_inj,fun h=>h ▸ rfl⟩
@[go_sem] theorem cKey_light:(cKey x).all light=true:=rfl
@[go_sem] theorem cKey_flat:(cKey x).all flatC=true:=rfl
@[go_sem] theorem cKey_view (H d):(cKey x).map (view H d)=cKey x:=by simp only [cKey,List.map_cons,List.map_nil,view_int,view_bool]
@[go_sem] theorem cKey_renV (fo fr d):(cKey x).map (renV fo fr d)=cKey x:=by simp only [cKey,List.map_cons,List.map_nil,renV_int,renV_bool]
@[go_sem] theorem cKey_told (H bs d):(cKey x).map (told H bs d)=cKey x:=by simp only [cKey,List.map_cons,List.map_nil,told_int,told_bool]
@[go_sem] theorem cKey_back (H bs d):(cKey x).map (back H bs d)=cKey x:=by simp only [cKey,List.map_cons,List.map_nil,back_int,back_bool]
@[go_sem] theorem cKey_lightN (d):(cKey x).all (lightN d)=true:=by simp only [cKey,List.all_cons,List.all_nil,lightN_int,lightN_bool,Bool.and_self]
@[go_sem] theorem cKey_coll (H d acc):(cKey x).foldl (coll H d) acc=acc:=by simp only [cKey,List.foldl_cons,List.foldl_nil,coll_int,coll_bool]
@[go_sem] theorem cKey_leC (H0 H ρ):le.leC H0 H ρ (cKey x) (cKey y)=(y=x):=by
 refine propext ⟨fun h=>?_,fun h=>?_⟩
 · simp only [cKey,leC_cons,leC_nil,le_int,le_bool,AV.int.injEq,AV.bool.injEq,true_and,and_true] at h; exact Key.ext_all h
 · subst h; simp only [cKey,leC_cons,leC_nil,le_int,le_bool,and_self]
@[go_sem] theorem cKey_resC (H):res.resC H (cKey x) (cKey y)=(y=x):=by
 refine propext ⟨fun h=>?_,fun h=>?_⟩
 · simp only [cKey,resC_cons,resC_nil,res_int,res_bool,AV.int.injEq,AV.bool.injEq,true_and,and_true] at h; exact Key.ext_all h
 · subst h; simp only [cKey,resC_cons,resC_nil,res_int,res_bool,and_self]
@[go_sem high] theorem eqK_Key:eqK (cKey x) (cKey y) (some [.int .i64,.int .i64,.int .i64,.bool])=some (decide (x=y)):=by
 rw [eqK_some]
 rw [if_pos (show List.map kd (cKey x)=List.map some [.int .i64,.int .i64,.int .i64,.bool] from rfl)]
 simp only [cKey,eqvs_cons,eqvs_nil,eqv_int,eqv_bool,both_some,Option.some.injEq,Bool.and_true]
 rw [Bool.eq_iff_iff]
 simp only [Bool.and_eq_true,beq_iff_eq,decide_eq_true_eq]
 exact ⟨Key.ext_all,fun h=>h ▸ ⟨rfl,rfl,rfl,rfl⟩⟩
@[go_sem] theorem rows_one_Key:[cKey x]=rows cKey [x]:=rfl
@[go_sem] theorem rows_cons_Key (L:List Key):cKey x :: rows cKey L=rows cKey (x :: L):=rfl
@[go_sem] theorem rows_set_Key (L:List Key) (i:Nat):(rows cKey L).set i (cKey x)=rows cKey (L.set i x):=rows_set ..
@[go_sem] theorem rows_light_Key (L:List Key):(rows cKey L).all (fun xs=>xs.all light)=true:=rows_all _ _ fun _=>rfl
end
structure Req where
 key:Key
 what:Eff
 deriving DecidableEq
def cReq (x:Req):List AV:=[.int .i64 x.key.id.rep,.int .i64 x.key.id.seq,.int .i64 x.key.ord,.bool x.key.undo,.int .i64 x.what.kind,.int .i64 x.what.a,.int .i64 x.what.n,.int .i64 x.what.ref.rep,.int .i64 x.what.ref.seq]
section
variable (x y:Req)
@[go_sem] theorem cReq_len:(cReq x).length=9:=rfl
@[go_sem] theorem cReq_take:(cReq x).take 9=cReq x:=rfl
@[go_sem high] theorem cReq_over (v:Req):over (cReq x) 0 (cReq v)=cReq v:=rfl
@[go_sem] theorem cReq_take_key:(cReq x).take 4=cKey x.key:=rfl
@[go_sem high] theorem cReq_over_key (v:Key):over (cReq x) 0 (cKey v)=cReq { x with key:=v }:=rfl
@[go_sem] theorem cReq_take_key_id:(cReq x).take 2=cId x.key.id:=rfl
@[go_sem high] theorem cReq_over_key_id (v:Id):over (cReq x) 0 (cId v)=cReq { x with key:={ x.key with id:=v } }:=rfl
@[go_sem,simp high] theorem cReq_get_key_id_rep:(cReq x)[0]?=some (.int .i64 x.key.id.rep):=rfl
@[go_sem high] theorem cReq_over_key_id_rep (v:Int):over (cReq x) 0 [.int .i64 v]=cReq { x with key:={ x.key with id:={ x.key.id with rep:=v } } }:=rfl
@[go_sem,simp high] theorem cReq_get_key_id_seq:(cReq x)[1]?=some (.int .i64 x.key.id.seq):=rfl
@[go_sem high] theorem cReq_over_key_id_seq (v:Int):over (cReq x) 1 [.int .i64 v]=cReq { x with key:={ x.key with id:={ x.key.id with seq:=v } } }:=rfl
@[go_sem,simp high] theorem cReq_get_key_ord:(cReq x)[2]?=some (.int .i64 x.key.ord):=rfl
@[go_sem high] theorem cReq_over_key_ord (v:Int):over (cReq x) 2 [.int .i64 v]=cReq { x with key:={ x.key with ord:=v } }:=rfl
@[go_sem,simp high] theorem cReq_get_key_undo:(cReq x)[3]?=some (.bool x.key.undo):=rfl
@[go_sem high] theorem cReq_over_key_undo (v:Bool):over (cReq x) 3 [.bool v]=cReq { x with key:={ x.key with undo:=v } }:=rfl
@[go_sem] theorem cReq_drop_what:((cReq x).drop 4).take 5=cEff x.what:=rfl
@[go_sem high] theorem cReq_over_what (v:Eff):over (cReq x) 4 (cEff v)=cReq { x with what:=v }:=rfl
@[go_sem,simp high] theorem cReq_get_what_kind:(cReq x)[4]?=some (.int .i64 x.what.kind):=rfl
@[go_sem high] theorem cReq_over_what_kind (v:Int):over (cReq x) 4 [.int .i64 v]=cReq { x with what:={ x.what with kind:=v } }:=rfl
@[go_sem,simp high] theorem cReq_get_what_a:(cReq x)[5]?=some (.int .i64 x.what.a):=rfl
@[go_sem high] theorem cReq_over_what_a (v:Int):over (cReq x) 5 [.int .i64 v]=cReq { x with what:={ x.what with a:=v } }:=rfl
@[go_sem,simp high] theorem cReq_get_what_n:(cReq x)[6]?=some (.int .i64 x.what.n):=rfl
@[go_sem high] theorem cReq_over_what_n (v:Int):over (cReq x) 6 [.int .i64 v]=cReq { x with what:={ x.what with n:=v } }:=rfl
@[go_sem] theorem cReq_drop_what_ref:((cReq x).drop 7).take 2=cId x.what.ref:=rfl
@[go_sem high] theorem cReq_over_what_ref (v:Id):over (cReq x) 7 (cId v)=cReq { x with what:={ x.what with ref:=v } }:=rfl
@[go_sem,simp high] theorem cReq_get_what_ref_rep:(cReq x)[7]?=some (.int .i64 x.what.ref.rep):=rfl
@[go_sem high] theorem cReq_over_what_ref_rep (v:Int):over (cReq x) 7 [.int .i64 v]=cReq { x with what:={ x.what with ref:={ x.what.ref with rep:=v } } }:=rfl
@[go_sem,simp high] theorem cReq_get_what_ref_seq:(cReq x)[8]?=some (.int .i64 x.what.ref.seq):=rfl
@[go_sem high] theorem cReq_over_what_ref_seq (v:Int):over (cReq x) 8 [.int .i64 v]=cReq { x with what:={ x.what with ref:={ x.what.ref with seq:=v } } }:=rfl
theorem Req.ext_all {x y:Req} (h:x.key.id.rep=y.key.id.rep/\x.key.id.seq=y.key.id.seq/\x.key.ord=y.key.ord/\x.key.undo=y.key.undo/\x.what.kind=y.what.kind/\x.what.a=y.what.a/\x.what.n=y.what.n/\x.what.ref.rep=y.what.ref.rep/\x.what.ref.seq=y.what.ref.seq):x=y:=by
 obtain ⟨⟨⟨_,_⟩,_,_⟩,⟨_,_,_,⟨_,_⟩⟩⟩:=x
 obtain ⟨⟨⟨_,_⟩,_,_⟩,⟨_,_,_,⟨_,_⟩⟩⟩:=y
 simp only at h
 obtain ⟨rfl,rfl,rfl,rfl,rfl,rfl,rfl,rfl,rfl⟩:=h
 rfl
theorem cReq_inj {x y:Req} (h:cReq x=cReq y):x=y:=by
 simp only [cReq,List.cons.injEq,AV.int.injEq,AV.bool.injEq,true_and,and_true] at h
 exact Req.ext_all h
theorem qR_:cReq x=cReq y ↔ x=y:=⟨cReq_inj,fun h=>h ▸ rfl⟩
@[go_sem] theorem cReq_light:(cReq x).all light=true:=rfl
@[go_sem] theorem cReq_flat:(cReq x).all flatC=true:=rfl
@[go_sem] theorem cReq_view (H d):(cReq x).map (view H d)=cReq x:=by simp only [cReq,List.map_cons,List.map_nil,view_int,view_bool]
@[go_sem] theorem cReq_renV (fo fr d):(cReq x).map (renV fo fr d)=cReq x:=by simp only [cReq,List.map_cons,List.map_nil,renV_int,renV_bool]
@[go_sem] theorem cReq_told (H bs d):(cReq x).map (told H bs d)=cReq x:=by simp only [cReq,List.map_cons,List.map_nil,told_int,told_bool]
@[go_sem] theorem cReq_back (H bs d):(cReq x).map (back H bs d)=cReq x:=by simp only [cReq,List.map_cons,List.map_nil,back_int,back_bool]
@[go_sem] theorem cReq_lightN (d):(cReq x).all (lightN d)=true:=by simp only [cReq,List.all_cons,List.all_nil,lightN_int,lightN_bool,Bool.and_self]
@[go_sem] theorem cReq_coll (H d acc):(cReq x).foldl (coll H d) acc=acc:=by simp only [cReq,List.foldl_cons,List.foldl_nil,coll_int,coll_bool]
@[go_sem] theorem cReq_leC (H0 H ρ):le.leC H0 H ρ (cReq x) (cReq y)=(y=x):=by
 refine propext ⟨fun h=>?_,fun h=>?_⟩
 · simp only [cReq,leC_cons,leC_nil,le_int,le_bool,AV.int.injEq,AV.bool.injEq,true_and,and_true] at h; exact Req.ext_all h
 · subst h; simp only [cReq,leC_cons,leC_nil,le_int,le_bool,and_self]
@[go_sem] theorem cReq_resC (H):res.resC H (cReq x) (cReq y)=(y=x):=by
 refine propext ⟨fun h=>?_,fun h=>?_⟩
 · simp only [cReq,resC_cons,resC_nil,res_int,res_bool,AV.int.injEq,AV.bool.injEq,true_and,and_true] at h; exact Req.ext_all h
 · subst h; simp only [cReq,resC_cons,resC_nil,res_int,res_bool,and_self]
@[go_sem high] theorem eqK_Req:eqK (cReq x) (cReq y) (some [.int .i64,.int .i64,.int .i64,.bool,.int .i64,.int .i64,.int .i64,.int .i64,.int .i64])=some (decide (x=y)):=by
 rw [eqK_some]
 rw [if_pos (show List.map kd (cReq x)=List.map some [.int .i64,.int .i64,.int .i64,.bool,.int .i64,.int .i64,.int .i64,.int .i64,.int .i64] from rfl)]
 simp only [cReq,eqvs_cons,eqvs_nil,eqv_int,eqv_bool,both_some,Option.some.injEq,Bool.and_true]
 rw [Bool.eq_iff_iff]
 simp only [Bool.and_eq_true,beq_iff_eq,decide_eq_true_eq]
 exact ⟨Req.ext_all,fun h=>h ▸ ⟨rfl,rfl,rfl,rfl,rfl,rfl,rfl,rfl,rfl⟩⟩
@[go_sem] theorem rows_one_Req:[cReq x]=rows cReq [x]:=rfl
@[go_sem] theorem rows_cons_Req (L:List Req):cReq x :: rows cReq L=rows cReq (x :: L):=rfl
@[go_sem] theorem rows_set_Req (L:List Req) (i:Nat):(rows cReq L).set i (cReq x)=rows cReq (L.set i x):=rows_set ..
@[go_sem] theorem rows_light_Req (L:List Req):(rows cReq L).all (fun xs=>xs.all light)=true:=rows_all _ _ fun _=>rfl
end
structure Op where
 kind:Int
 c:Chg
 id:Id
 deriving DecidableEq
def zOp:Op:=⟨0,zChg,zId⟩
def cOp (x:Op):List AV:=[.int .i64 x.kind,.int .i64 x.c.id.rep,.int .i64 x.c.id.seq,.int .i64 x.c.time,.int .i64 x.c.kind,.int .i64 x.c.a,.int .i64 x.c.b,.int .i64 x.c.n,.int .i64 x.c.ref.rep,.int .i64 x.c.ref.seq,.int .i64 x.id.rep,.int .i64 x.id.seq]
section
variable (x y:Op)
@[go_sem] theorem cOp_len:(cOp x).length=12:=rfl
@[go_sem] theorem cOp_take:(cOp x).take 12=cOp x:=rfl
@[go_sem high] theorem cOp_over (v:Op):over (cOp x) 0 (cOp v)=cOp v:=rfl
@[go_sem,simp high] theorem cOp_get_kind:(cOp x)[0]?=some (.int .i64 x.kind):=rfl
@[go_sem high] theorem cOp_over_kind (v:Int):over (cOp x) 0 [.int .i64 v]=cOp { x with kind:=v }:=rfl
@[go_sem] theorem cOp_drop_c:((cOp x).drop 1).take 9=cChg x.c:=rfl
@[go_sem high] theorem cOp_over_c (v:Chg):over (cOp x) 1 (cChg v)=cOp { x with c:=v }:=rfl
@[go_sem] theorem cOp_drop_c_id:((cOp x).drop 1).take 2=cId x.c.id:=rfl
@[go_sem high] theorem cOp_over_c_id (v:Id):over (cOp x) 1 (cId v)=cOp { x with c:={ x.c with id:=v } }:=rfl
@[go_sem,simp high] theorem cOp_get_c_id_rep:(cOp x)[1]?=some (.int .i64 x.c.id.rep):=rfl
@[go_sem high] theorem cOp_over_c_id_rep (v:Int):over (cOp x) 1 [.int .i64 v]=cOp { x with c:={ x.c with id:={ x.c.id with rep:=v } } }:=rfl
@[go_sem,simp high] theorem cOp_get_c_id_seq:(cOp x)[2]?=some (.int .i64 x.c.id.seq):=rfl
@[go_sem high] theorem cOp_over_c_id_seq (v:Int):over (cOp x) 2 [.int .i64 v]=cOp { x with c:={ x.c with id:={ x.c.id with seq:=v } } }:=rfl
@[go_sem,simp high] theorem cOp_get_c_time:(cOp x)[3]?=some (.int .i64 x.c.time):=rfl
@[go_sem high] theorem cOp_over_c_time (v:Int):over (cOp x) 3 [.int .i64 v]=cOp { x with c:={ x.c with time:=v } }:=rfl
@[go_sem,simp high] theorem cOp_get_c_kind:(cOp x)[4]?=some (.int .i64 x.c.kind):=rfl
@[go_sem high] theorem cOp_over_c_kind (v:Int):over (cOp x) 4 [.int .i64 v]=cOp { x with c:={ x.c with kind:=v } }:=rfl
@[go_sem,simp high] theorem cOp_get_c_a:(cOp x)[5]?=some (.int .i64 x.c.a):=rfl
@[go_sem high] theorem cOp_over_c_a (v:Int):over (cOp x) 5 [.int .i64 v]=cOp { x with c:={ x.c with a:=v } }:=rfl
@[go_sem,simp high] theorem cOp_get_c_b:(cOp x)[6]?=some (.int .i64 x.c.b):=rfl
@[go_sem high] theorem cOp_over_c_b (v:Int):over (cOp x) 6 [.int .i64 v]=cOp { x with c:={ x.c with b:=v } }:=rfl
@[go_sem,simp high] theorem cOp_get_c_n:(cOp x)[7]?=some (.int .i64 x.c.n):=rfl
@[go_sem high] theorem cOp_over_c_n (v:Int):over (cOp x) 7 [.int .i64 v]=cOp { x with c:={ x.c with n:=v } }:=rfl
@[go_sem] theorem cOp_drop_c_ref:((cOp x).drop 8).take 2=cId x.c.ref:=rfl
@[go_sem high] theorem cOp_over_c_ref (v:Id):over (cOp x) 8 (cId v)=cOp { x with c:={ x.c with ref:=v } }:=rfl
@[go_sem,simp high] theorem cOp_get_c_ref_rep:(cOp x)[8]?=some (.int .i64 x.c.ref.rep):=rfl
@[go_sem high] theorem cOp_over_c_ref_rep (v:Int):over (cOp x) 8 [.int .i64 v]=cOp { x with c:={ x.c with ref:={ x.c.ref with rep:=v } } }:=rfl
@[go_sem,simp high] theorem cOp_get_c_ref_seq:(cOp x)[9]?=some (.int .i64 x.c.ref.seq):=rfl
@[go_sem high] theorem cOp_over_c_ref_seq (v:Int):over (cOp x) 9 [.int .i64 v]=cOp { x with c:={ x.c with ref:={ x.c.ref with seq:=v } } }:=rfl
@[go_sem] theorem cOp_drop_id:((cOp x).drop 10).take 2=cId x.id:=rfl
@[go_sem high] theorem cOp_over_id (v:Id):over (cOp x) 10 (cId v)=cOp { x with id:=v }:=rfl
@[go_sem,simp high] theorem cOp_get_id_rep:(cOp x)[10]?=some (.int .i64 x.id.rep):=rfl
@[go_sem high] theorem cOp_over_id_rep (v:Int):over (cOp x) 10 [.int .i64 v]=cOp { x with id:={ x.id with rep:=v } }:=rfl
@[go_sem,simp high] theorem cOp_get_id_seq:(cOp x)[11]?=some (.int .i64 x.id.seq):=rfl
@[go_sem high] theorem cOp_over_id_seq (v:Int):over (cOp x) 11 [.int .i64 v]=cOp { x with id:={ x.id with seq:=v } }:=rfl
theorem Op.ext_all {x y:Op} (h:x.kind=y.kind/\x.c.id.rep=y.c.id.rep/\x.c.id.seq=y.c.id.seq/\x.c.time=y.c.time/\x.c.kind=y.c.kind/\x.c.a=y.c.a/\x.c.b=y.c.b/\x.c.n=y.c.n/\x.c.ref.rep=y.c.ref.rep/\x.c.ref.seq=y.c.ref.seq/\x.id.rep=y.id.rep/\x.id.seq=y.id.seq):x=y:=by
 obtain ⟨_,⟨⟨_,_⟩,_,_,_,_,_,⟨_,_⟩⟩,⟨_,_⟩⟩:=x
 obtain ⟨_,⟨⟨_,_⟩,_,_,_,_,_,⟨_,_⟩⟩,⟨_,_⟩⟩:=y
 simp only at h
 obtain ⟨rfl,rfl,rfl,rfl,rfl,rfl,rfl,rfl,rfl,rfl,rfl,rfl⟩:=h
 rfl
theorem cOp_inj {x y:Op} (h:cOp x=cOp y):x=y:=by
 simp only [cOp,List.cons.injEq,AV.int.injEq,true_and,and_true] at h
 exact Op.ext_all h
theorem qP_:cOp x=cOp y ↔ x=y:=⟨cOp_inj,fun h=>h ▸ rfl⟩
@[go_sem] theorem cOp_light:(cOp x).all light=true:=rfl
@[go_sem] theorem cOp_flat:(cOp x).all flatC=true:=rfl
@[go_sem] theorem cOp_view (H d):(cOp x).map (view H d)=cOp x:=by simp only [cOp,List.map_cons,List.map_nil,view_int]
@[go_sem] theorem cOp_renV (fo fr d):(cOp x).map (renV fo fr d)=cOp x:=by simp only [cOp,List.map_cons,List.map_nil,renV_int]
@[go_sem] theorem cOp_told (H bs d):(cOp x).map (told H bs d)=cOp x:=by simp only [cOp,List.map_cons,List.map_nil,told_int]
@[go_sem] theorem cOp_back (H bs d):(cOp x).map (back H bs d)=cOp x:=by simp only [cOp,List.map_cons,List.map_nil,back_int]
@[go_sem] theorem cOp_lightN (d):(cOp x).all (lightN d)=true:=by simp only [cOp,List.all_cons,List.all_nil,lightN_int,Bool.and_self]
@[go_sem] theorem cOp_coll (H d acc):(cOp x).foldl (coll H d) acc=acc:=by simp only [cOp,List.foldl_cons,List.foldl_nil,coll_int]
@[go_sem] theorem cOp_leC (H0 H ρ):le.leC H0 H ρ (cOp x) (cOp y)=(y=x):=by
 refine propext ⟨fun h=>?_,fun h=>?_⟩
 · simp only [cOp,leC_cons,leC_nil,le_int,AV.int.injEq,true_and,and_true] at h; exact Op.ext_all h
 · subst h; simp only [cOp,leC_cons,leC_nil,le_int,and_self]
@[go_sem] theorem cOp_resC (H):res.resC H (cOp x) (cOp y)=(y=x):=by
 refine propext ⟨fun h=>?_,fun h=>?_⟩
 · simp only [cOp,resC_cons,resC_nil,res_int,AV.int.injEq,true_and,and_true] at h; exact Op.ext_all h
 · subst h; simp only [cOp,resC_cons,resC_nil,res_int,and_self]
@[go_sem high] theorem eqK_Op:eqK (cOp x) (cOp y) (some [.int .i64,.int .i64,.int .i64,.int .i64,.int .i64,.int .i64,.int .i64,.int .i64,.int .i64,.int .i64,.int .i64,.int .i64])=some (decide (x=y)):=by
 rw [eqK_some]
 rw [if_pos (show List.map kd (cOp x)=List.map some [.int .i64,.int .i64,.int .i64,.int .i64,.int .i64,.int .i64,.int .i64,.int .i64,.int .i64,.int .i64,.int .i64,.int .i64] from rfl)]
 simp only [cOp,eqvs_cons,eqvs_nil,eqv_int,both_some,Option.some.injEq,Bool.and_true]
 rw [Bool.eq_iff_iff]
 simp only [Bool.and_eq_true,beq_iff_eq,decide_eq_true_eq]
 exact ⟨Op.ext_all,fun h=>h ▸ ⟨rfl,rfl,rfl,rfl,rfl,rfl,rfl,rfl,rfl,rfl,rfl,rfl⟩⟩
@[go_sem] theorem rows_one_Op:[cOp x]=rows cOp [x]:=rfl
@[go_sem] theorem rows_cons_Op (L:List Op):cOp x :: rows cOp L=rows cOp (x :: L):=rfl
@[go_sem] theorem rows_set_Op (L:List Op) (i:Nat):(rows cOp L).set i (cOp x)=rows cOp (L.set i x):=rows_set ..
@[go_sem] theorem rows_light_Op (L:List Op):(rows cOp L).all (fun xs=>xs.all light)=true:=rows_all _ _ fun _=>rfl
end
structure Bk where
 st:Vn 8
 pr:Vn 8
 pu:Vn 8
 deriving DecidableEq
def zBk:Bk:=⟨zV 8,zV 8,zV 8⟩
def cBk (b:Bk) (o:AV):List AV:=cV b.st++cV b.pr++cV b.pu++[o]
section
variable (b d:Bk) (o q:AV)
@[go_sem] theorem cBk_len:(cBk b o).length=25:=by simp only [cBk,List.length_append,cV_len,List.length_cons,List.length_nil]
@[go_sem,simp high] theorem cBk_st (i:Nat) (h:i < 8):(cBk b o)[i]?=some (.int .i64 (b.st.at i)):=by
 simp only [cBk,List.append_assoc]
 rw [List.getElem?_append_left (by rw [cV_len]; exact h),cV_get' _ _ h]
@[go_sem,simp high] theorem cBk_pr (i:Nat) (h:i < 8):(cBk b o)[8 + i]?=some (.int .i64 (b.pr.at i)):=by
 simp only [cBk,List.append_assoc]
 rw [List.getElem?_append_right (by rw [cV_len]; omega),List.getElem?_append_left (by simp only [cV_len]; omega),cV_len,Nat.add_sub_cancel_left,cV_get' _ _ h]
@[go_sem,simp high] theorem cBk_pu (i:Nat) (h:i < 8):(cBk b o)[16 + i]?=some (.int .i64 (b.pu.at i)):=by
 simp only [cBk,List.append_assoc]
 rw [List.getElem?_append_right (by rw [cV_len]; omega),List.getElem?_append_right (by simp only [cV_len]; omega),List.getElem?_append_left (by simp only [cV_len]; omega)]
 simp only [cV_len]
 rw [show 16 + i - 8 - 8=i by omega,cV_get' _ _ h]
@[go_sem,simp high] theorem cBk_os:(cBk b o)[24]?=some o:=by
 simp only [cBk]
 rw [List.getElem?_append_right (by simp only [List.length_append,cV_len]; omega)]
 simp only [List.length_append,cV_len]
 rfl
@[go_sem] theorem cBk_take:(cBk b o).take 8=cV b.st:=by
 simp only [cBk,List.append_assoc]
 rw [List.take_append_of_le_length (by rw [cV_len]; exact Nat.le_refl _),cV_take_all]
theorem cBk_drop':(cBk b o).drop 8=cV b.pr++(cV b.pu++[o]):=by
 simp only [cBk,List.append_assoc]
 rw [List.drop_append_of_le_length (by rw [cV_len]; exact Nat.le_refl _),List.drop_eq_nil_of_le (by rw [cV_len]; exact Nat.le_refl _)]; rfl
theorem cBk_drop2':(cBk b o).drop 16=cV b.pu++[o]:=by
 rw [show 16=8 + 8 from rfl,<-List.drop_drop,cBk_drop',List.drop_append_of_le_length (by rw [cV_len]; exact Nat.le_refl _),List.drop_eq_nil_of_le (by rw [cV_len]; exact Nat.le_refl _)]; rfl
@[go_sem] theorem cBk_drop:((cBk b o).drop 8).take 8=cV b.pr:=by
 rw [cBk_drop',List.take_append_of_le_length (by rw [cV_len]; exact Nat.le_refl _),cV_take_all]
@[go_sem] theorem cBk_drop2:((cBk b o).drop 16).take 8=cV b.pu:=by
 rw [cBk_drop2',List.take_append_of_le_length (by rw [cV_len]; exact Nat.le_refl _),cV_take_all]
@[go_sem] theorem cBk_take_all:(cBk b o).take 25=cBk b o:=List.take_of_length_le (by rw [cBk_len]; exact Nat.le_refl _)
theorem cBk_split:cBk b o=cV b.st++(cV b.pr++(cV b.pu++[o])):=by simp only [cBk,List.append_assoc]
@[go_sem high] theorem cBk_over_os:over (cBk b o) 24 [q]=cBk b q:=by
 have h:(cV b.st++cV b.pr++cV b.pu).length=24:=by simp only [List.length_append,cV_len]
 simp only [over,cBk]
 rw [List.take_append_of_le_length (by rw [h]; exact Nat.le_refl _),List.take_of_length_le (by rw [h]; exact Nat.le_refl _),List.drop_eq_nil_of_le (by simp only [List.length_append,List.length_cons,List.length_nil,cV_len]; omega),List.append_nil]
theorem over_left {l m d:List AV} {i:Nat} (h:i + d.length<=l.length):over (l++m) i d=over l i d++m:=by
 simp only [over]
 rw [List.take_append_of_le_length (by omega),List.drop_append_of_le_length h]
 simp
theorem over_right {l m d:List AV} {i:Nat} (h:l.length<=i):over (l++m) i d=l++over m (i - l.length) d:=by
 simp only [over]
 rw [List.take_append,List.take_of_length_le h,List.drop_append,List.drop_eq_nil_of_le (by omega)]
 simp only [List.append_assoc,List.nil_append]
 rw [show i + d.length - l.length=i - l.length + d.length by omega]
@[go_sem] theorem take_left2 {l m:List AV} {n:Nat} (h:l.length=n):(l++m).take n=l:=by subst h; simp
@[go_sem] theorem drop_left2 {l m:List AV} {n:Nat} (h:l.length=n):(l++m).drop n=m:=by subst h; simp
@[go_sem high] theorem over_left2 {l m d:List AV} (h:d.length=l.length):over (l++m) 0 d=d++m:=by
 rw [over_left (by omega)]
 simp [over,h]
@[go_sem high] theorem over_right2 {l m d:List AV} {i n:Nat} (h:l.length=n) (hi:n<=i):over (l++m) i d=l++over m (i - n) d:=by
 subst h; exact over_right hi
@[go_sem high] theorem cBk_over_st (i:Nat) (x:Int) (h:i < 8):over (cBk b o) i [.int .i64 x]=cBk { b with st:=b.st.put i x } o:=by
 rw [cBk_split,cBk_split,over_left (by rw [cV_len]; simp; omega),cV_over _ _ _ h]
@[go_sem high] theorem cBk_over_pr (i:Nat) (x:Int) (h:i < 8):over (cBk b o) (8 + i) [.int .i64 x]=cBk { b with pr:=b.pr.put i x } o:=by
 rw [cBk_split,cBk_split,over_right (by rw [cV_len]; omega),cV_len,Nat.add_sub_cancel_left,over_left (by rw [cV_len]; simp; omega),cV_over _ _ _ h]
@[go_sem high] theorem cBk_over_pu (i:Nat) (x:Int) (h:i < 8):over (cBk b o) (16 + i) [.int .i64 x]=cBk { b with pu:=b.pu.put i x } o:=by
 rw [cBk_split,cBk_split,over_right (by rw [cV_len]; omega),cV_len,over_right (by rw [cV_len]; omega),cV_len,show 16 + i - 8 - 8=i by omega,over_left (by rw [cV_len]; simp; omega),cV_over _ _ _ h]
@[go_sem high] theorem cBk_over_stA (v:Vn 8):over (cBk b o) 0 (cV v)=cBk { b with st:=v } o:=by
 rw [cBk_split,cBk_split,over_left (by simp [cV_len]),cV_over_all]
@[go_sem high] theorem cBk_over_prA (v:Vn 8):over (cBk b o) 8 (cV v)=cBk { b with pr:=v } o:=by
 rw [cBk_split,cBk_split,over_right (by simp [cV_len]),cV_len,over_left (by simp [cV_len]),cV_over_all]
@[go_sem high] theorem cBk_over_puA (v:Vn 8):over (cBk b o) 16 (cV v)=cBk { b with pu:=v } o:=by
 rw [cBk_split,cBk_split,over_right (by simp [cV_len]),cV_len,over_right (by simp [cV_len]),cV_len,over_left (by simp [cV_len]),cV_over_all]
@[go_sem high] theorem cBk_over_all:over (cBk b o) 0 (cBk d q)=cBk d q:=by
 simp only [over,cBk_len,List.take_zero,List.nil_append,Nat.zero_add]
 rw [List.drop_eq_nil_of_le (by rw [cBk_len]; exact Nat.le_refl _),List.append_nil]
@[go_sem] theorem cBk_map (f:AV->AV) (h:∀ (n:Int),f (.int .i64 n)=.int .i64 n):(cBk b o).map f=cBk b (f o):=by
 have:∀ v:Vn 8,(cV v).map f=cV v:=fun v=>by
  simp only [cV,AI,List.map_map]
  congr 1
  funext a
  exact h a
 simp only [cBk,List.map_append,this,List.map_cons,List.map_nil]
@[go_sem] theorem cBk_view (H d'):(cBk b o).map (view H d')=cBk b (view H d' o):=cBk_map _ _ _ fun n=>view_int ..
@[go_sem] theorem cBk_told (H bs d'):(cBk b o).map (told H bs d')=cBk b (told H bs d' o):=cBk_map _ _ _ fun n=>told_int ..
@[go_sem] theorem cBk_back (H bs d'):(cBk b o).map (back H bs d')=cBk b (back H bs d' o):=cBk_map _ _ _ fun n=>back_int ..
@[go_sem] theorem cBk_coll (H d' acc):(cBk b o).foldl (coll H d') acc=coll H d' acc o:=by
 simp only [cBk,List.foldl_append,cV_coll,List.foldl_cons,List.foldl_nil]
@[go_sem] theorem cBk_lightN (d'):(cBk b o).all (lightN d')=lightN d' o:=by
 simp only [cBk,List.all_append,cV_lightN,Bool.true_and,List.all_cons,List.all_nil,Bool.and_true]
@[go_sem] theorem cBk_flat:(cBk b o).all flatC=flatC o:=by
 simp only [cBk,List.all_append,cV_flat,Bool.true_and,List.all_cons,List.all_nil,Bool.and_true]
@[go_sem] theorem cBk_light:(cBk b o).all light=light o:=by
 simp only [cBk,List.all_append,cV_light,Bool.true_and,List.all_cons,List.all_nil,Bool.and_true]
theorem leC_append (H0 H:Heap) (ρ:Ren):∀ (l m l' m':List AV),l.length=m.length->le.leC H0 H ρ (l++l') (m++m')=(le.leC H0 H ρ l m/\le.leC H0 H ρ l' m')
 | [],[],l',m',_=>by simp [leC_nil]
 | a :: l,c :: m,l',m',h=>by
  simp only [List.cons_append,leC_cons,leC_append H0 H ρ l m l' m' (by simpa using h),and_assoc]
 | [],_ :: _,_,_,h=>by simp at h
 | _ :: _,[],_,_,h=>by simp at h
theorem resC_append (H:Heap):∀ (l m l' m':List AV),l.length=m.length->res.resC H (l++l') (m++m')=(res.resC H l m/\res.resC H l' m')
 | [],[],l',m',_=>by simp [resC_nil]
 | a :: l,c :: m,l',m',h=>by
  simp only [List.cons_append,resC_cons,resC_append H l m l' m' (by simpa using h),and_assoc]
 | [],_ :: _,_,_,h=>by simp at h
 | _ :: _,[],_,_,h=>by simp at h
@[go_sem] theorem cBk_leC (H0 H ρ):le.leC H0 H ρ (cBk b o) (cBk d q)=(d=b/\le H0 H ρ o q):=by
 rw [cBk_split,cBk_split,leC_append _ _ _ _ _ _ _ (by simp only [cV_len]),leC_append _ _ _ _ _ _ _ (by simp only [cV_len]),leC_append _ _ _ _ _ _ _ (by simp only [cV_len]),cV_leC,cV_leC,cV_leC,leC_cons,leC_nil]
 refine propext ⟨fun ⟨h1,h2,h3,h4,_⟩=>⟨?_,h4⟩,fun ⟨h1,h2⟩=>by subst h1; exact ⟨rfl,rfl,rfl,h2,trivial⟩⟩
 cases b; cases d; simp only at h1 h2 h3; subst h1 h2 h3; rfl
@[go_sem] theorem cBk_resC (H):res.resC H (cBk b o) (cBk d q)=(d=b/\res H o q):=by
 rw [cBk_split,cBk_split,resC_append _ _ _ _ _ (by simp only [cV_len]),resC_append _ _ _ _ _ (by simp only [cV_len]),resC_append _ _ _ _ _ (by simp only [cV_len]),cV_resC,cV_resC,cV_resC,resC_cons,resC_nil]
 refine propext ⟨fun ⟨h1,h2,h3,h4,_⟩=>⟨?_,h4⟩,fun ⟨h1,h2⟩=>by subst h1; exact ⟨rfl,rfl,rfl,h2,trivial⟩⟩
 cases b; cases d; simp only at h1 h2 h3; subst h1 h2 h3; rfl
theorem cBk_inj {b d:Bk} {o q:AV} (h:cBk b o=cBk d q):b=d/\o=q:=by
 rw [cBk_split,cBk_split] at h
 obtain ⟨h1,q1⟩:=List.append_inj h (by simp only [cV_len])
 obtain ⟨h2,q2⟩:=List.append_inj q1 (by simp only [cV_len])
 obtain ⟨h3,q3⟩:=List.append_inj q2 (by simp only [cV_len])
 have e1:=cV_inj h1
 have e2:=cV_inj h2
 have e3:=cV_inj h3
 cases b; cases d
 simp only at e1 e2 e3
 subst e1 e2 e3
 exact ⟨rfl,(List.cons.inj q3).1⟩
theorem qB_:cBk b o=cBk d q ↔ b=d/\o=q:=⟨cBk_inj,fun h=>h.1 ▸ h.2 ▸ rfl⟩
end
@[go_sem,simp high] theorem cBk_st0 (b:Bk) (o:AV):(cBk b o)[0]?=some (.int .i64 (b.st.at 0)):=cBk_st b o 0 (by omega)
@[go_sem,simp high] theorem cBk_pr0 (b:Bk) (o:AV):(cBk b o)[8]?=some (.int .i64 (b.pr.at 0)):=cBk_pr b o 0 (by omega)
@[go_sem,simp high] theorem cBk_pu0 (b:Bk) (o:AV):(cBk b o)[16]?=some (.int .i64 (b.pu.at 0)):=cBk_pu b o 0 (by omega)
@[go_sem,simp high] theorem cBk_st1 (b:Bk) (o:AV):(cBk b o)[1]?=some (.int .i64 (b.st.at 1)):=cBk_st b o 1 (by omega)
@[go_sem,simp high] theorem cBk_pr1 (b:Bk) (o:AV):(cBk b o)[9]?=some (.int .i64 (b.pr.at 1)):=cBk_pr b o 1 (by omega)
@[go_sem,simp high] theorem cBk_pu1 (b:Bk) (o:AV):(cBk b o)[17]?=some (.int .i64 (b.pu.at 1)):=cBk_pu b o 1 (by omega)
@[go_sem,simp high] theorem cBk_st2 (b:Bk) (o:AV):(cBk b o)[2]?=some (.int .i64 (b.st.at 2)):=cBk_st b o 2 (by omega)
@[go_sem,simp high] theorem cBk_pr2 (b:Bk) (o:AV):(cBk b o)[10]?=some (.int .i64 (b.pr.at 2)):=cBk_pr b o 2 (by omega)
@[go_sem,simp high] theorem cBk_pu2 (b:Bk) (o:AV):(cBk b o)[18]?=some (.int .i64 (b.pu.at 2)):=cBk_pu b o 2 (by omega)
@[go_sem,simp high] theorem cBk_st3 (b:Bk) (o:AV):(cBk b o)[3]?=some (.int .i64 (b.st.at 3)):=cBk_st b o 3 (by omega)
@[go_sem,simp high] theorem cBk_pr3 (b:Bk) (o:AV):(cBk b o)[11]?=some (.int .i64 (b.pr.at 3)):=cBk_pr b o 3 (by omega)
@[go_sem,simp high] theorem cBk_pu3 (b:Bk) (o:AV):(cBk b o)[19]?=some (.int .i64 (b.pu.at 3)):=cBk_pu b o 3 (by omega)
@[go_sem,simp high] theorem cBk_st4 (b:Bk) (o:AV):(cBk b o)[4]?=some (.int .i64 (b.st.at 4)):=cBk_st b o 4 (by omega)
@[go_sem,simp high] theorem cBk_pr4 (b:Bk) (o:AV):(cBk b o)[12]?=some (.int .i64 (b.pr.at 4)):=cBk_pr b o 4 (by omega)
@[go_sem,simp high] theorem cBk_pu4 (b:Bk) (o:AV):(cBk b o)[20]?=some (.int .i64 (b.pu.at 4)):=cBk_pu b o 4 (by omega)
@[go_sem,simp high] theorem cBk_st5 (b:Bk) (o:AV):(cBk b o)[5]?=some (.int .i64 (b.st.at 5)):=cBk_st b o 5 (by omega)
@[go_sem,simp high] theorem cBk_pr5 (b:Bk) (o:AV):(cBk b o)[13]?=some (.int .i64 (b.pr.at 5)):=cBk_pr b o 5 (by omega)
@[go_sem,simp high] theorem cBk_pu5 (b:Bk) (o:AV):(cBk b o)[21]?=some (.int .i64 (b.pu.at 5)):=cBk_pu b o 5 (by omega)
@[go_sem,simp high] theorem cBk_st6 (b:Bk) (o:AV):(cBk b o)[6]?=some (.int .i64 (b.st.at 6)):=cBk_st b o 6 (by omega)
@[go_sem,simp high] theorem cBk_pr6 (b:Bk) (o:AV):(cBk b o)[14]?=some (.int .i64 (b.pr.at 6)):=cBk_pr b o 6 (by omega)
@[go_sem,simp high] theorem cBk_pu6 (b:Bk) (o:AV):(cBk b o)[22]?=some (.int .i64 (b.pu.at 6)):=cBk_pu b o 6 (by omega)
@[go_sem,simp high] theorem cBk_st7 (b:Bk) (o:AV):(cBk b o)[7]?=some (.int .i64 (b.st.at 7)):=cBk_st b o 7 (by omega)
@[go_sem,simp high] theorem cBk_pr7 (b:Bk) (o:AV):(cBk b o)[15]?=some (.int .i64 (b.pr.at 7)):=cBk_pr b o 7 (by omega)
@[go_sem,simp high] theorem cBk_pu7 (b:Bk) (o:AV):(cBk b o)[23]?=some (.int .i64 (b.pu.at 7)):=cBk_pu b o 7 (by omega)
structure Book where
 bk:Bk
 os:List Ord
 deriving DecidableEq
structure Outc where
 code:Int
 effs:List Eff
 deriving DecidableEq
def cOc (x:Outc):List AV:=[.int .i64 x.code,.sl 5 (rows cEff x.effs)]
@[go_sem] theorem cOc_len (x:Outc):(cOc x).length=2:=rfl
@[go_sem,simp high] theorem cOc_code (x:Outc):(cOc x)[0]?=some (.int .i64 x.code):=rfl
@[go_sem,simp high] theorem cOc_effs (x:Outc):(cOc x)[1]?=some (.sl 5 (rows cEff x.effs)):=rfl
@[go_sem] theorem cOc_take (x:Outc):(cOc x).take 2=cOc x:=rfl
@[go_sem high] theorem cOc_over (x:Outc) (o:AV):over (cOc x) 1 [o]=[.int .i64 x.code,o]:=rfl
@[go_sem high] theorem cOc_over0 (x:Outc) (n:Int):over (cOc x) 0 [.int .i64 n]=cOc { x with code:=n }:=rfl
@[go_sem high] theorem cOc_over_all (x y:Outc):over (cOc x) 0 (cOc y)=cOc y:=rfl
@[go_sem] theorem cOc_flat (x:Outc):(cOc x).all flatC=true:=rfl
@[go_sem] theorem cOc_view (x:Outc) (H d):(cOc x).map (view H d)=cOc x:=by simp only [cOc,List.map_cons,List.map_nil,view_int,view_sl]
@[go_sem] theorem cOc_told (x:Outc) (H bs d):(cOc x).map (told H bs d)=cOc x:=by simp only [cOc,List.map_cons,List.map_nil,told_int,told_sl]
@[go_sem] theorem cOc_back (x:Outc) (H bs d):(cOc x).map (back H bs d)=cOc x:=by simp only [cOc,List.map_cons,List.map_nil,back_int,back_sl]
@[go_sem] theorem cOc_coll (x:Outc) (H d acc):(cOc x).foldl (coll H d) acc=acc:=by simp only [cOc,List.foldl_cons,List.foldl_nil,coll_int,coll_sl]
theorem cOc_inj {x y:Outc} (h:cOc x=cOc y):x=y:=by
 cases x; cases y
 simp only [cOc,List.cons.injEq,AV.int.injEq,AV.sl.injEq,true_and,and_true] at h
 rw [h.1,rows_inj_Eff h.2]
theorem qOc_ (x y:Outc):cOc x=cOc y ↔ x=y:=⟨cOc_inj,fun h=>h ▸ rfl⟩
@[go_sem] theorem cOc_leC (x y:Outc) (H0 H ρ):le.leC H0 H ρ (cOc x) (cOc y)=(y=x):=by
 refine propext ⟨fun h=>?_,fun h=>?_⟩
 ·
  simp only [cOc,leC_cons,leC_nil,le_int,le_sl,AV.int.injEq,true_and,and_true] at h
  cases x; cases y
  simp only at h
  rw [h.1,rows_inj_Eff h.2]
 · subst h; simp only [cOc,leC_cons,leC_nil,le_int,le_sl,and_self]
@[go_sem] theorem cOc_resC (x y:Outc) (H):res.resC H (cOc x) (cOc y)=(y=x):=by
 refine propext ⟨fun h=>?_,fun h=>?_⟩
 ·
  simp only [cOc,resC_cons,resC_nil,res_int,res_sl_sl,AV.int.injEq,true_and,and_true] at h
  cases x; cases y
  simp only at h
  rw [h.1,rows_inj_Eff h.2]
 · subst h; simp only [cOc,resC_cons,resC_nil,res_int,res_sl_sl,and_self]
@[go_sem] theorem rows_one_Oc (x:Outc):[cOc x]=rows cOc [x]:=rfl
@[go_sem] theorem rows_cons_Oc (x:Outc) (L:List Outc):cOc x :: rows cOc L=rows cOc (x :: L):=rfl
@[go_sem] theorem rows_set_Oc (x:Outc) (L:List Outc) (i:Nat):(rows cOc L).set i (cOc x)=rows cOc (L.set i x):=rows_set ..
theorem rows_inj_Oc {L M:List Outc} (h:rows cOc L=rows cOc M):L=M:=rows_inj (fun x y=>cOc_inj) h
theorem rows_iff_Oc (L M:List Outc):rows cOc L=rows cOc M ↔ L=M:=⟨rows_inj_Oc,fun h=>h ▸ rfl⟩
def cInt (n:Int):List AV:=[.int .i64 n]
@[go_sem] theorem cInt_len (n:Int):(cInt n).length=1:=rfl
@[go_sem,simp high] theorem cInt_get (n:Int):(cInt n)[0]?=some (.int .i64 n):=rfl
theorem cInt_inj {x y:Int} (h:cInt x=cInt y):x=y:=by simpa [cInt] using h
theorem rows_inj_int {L M:List Int} (h:rows cInt L=rows cInt M):L=M:=rows_inj (fun x y=>cInt_inj) h
@[go_sem high] theorem cInt_over (n m:Int):over (cInt n) 0 [.int .i64 m]=cInt m:=rfl
@[go_sem] theorem rows_one_int (n:Int):[[.int .i64 n]]=rows cInt [n]:=rfl
@[go_sem] theorem rows_light_int (L:List Int):(rows cInt L).all (fun xs=>xs.all light)=true:=rows_all _ _ fun _=>rfl
section
open Classical
noncomputable def mkH {ι:Type} (A:ι->List AV × List Box) (R:ι->HR):HSpec:=fun args bx=>if h:∃ i,A i=(args,bx) then some (R (Classical.choose h)) else none
theorem mO_ {ι:Type} {A:ι->List AV × List Box} {R:ι->HR} {args:List AV} {bx:List Box} {hr:HR} (h:mkH A R args bx=some hr):∃ i,args=(A i).1/\bx=(A i).2/\hr=R i:=by
 unfold mkH at h
 split at h
 ·
  rename_i hex
  have:=Classical.choose_spec hex
  cases h
  exact ⟨_,by rw [this],by rw [this],rfl⟩
 · cases h
theorem mA_ {ι:Type} {A:ι->List AV × List Box} {R:ι->HR} (hinj:∀ i j,A i=A j->R i=R j) (i:ι):mkH A R (A i).1 (A i).2=some (R i):=by
 unfold mkH
 have hex:∃ j,A j=((A i).1,(A i).2):=⟨i,rfl⟩
 rw [dif_pos hex]
 exact congrArg some (hinj _ _ (Classical.choose_spec hex))
end
def cWk (b:Bk) (o t:AV) (r:Id):List AV:=cBk b o++(t :: cId r)
def uWk:List AV:=List.replicate 28 .u
section
variable (b d:Bk) (o t q u:AV) (r s:Id)
@[go_sem] theorem cWk_len:(cWk b o t r).length=28:=by simp only [cWk,List.length_append,cBk_len,List.length_cons,cId_len]
@[go_sem] theorem uWk_len:uWk.length=28:=by simp [uWk]
@[go_sem,simp high] theorem cWk_os:(cWk b o t r)[24]?=some o:=by rw [cWk,List.getElem?_append_left (by rw [cBk_len]; omega)]; exact cBk_os ..
@[go_sem,simp high] theorem cWk_out:(cWk b o t r)[25]?=some t:=by rw [cWk,List.getElem?_append_right (by rw [cBk_len]; omega),cBk_len]; rfl
@[go_sem] theorem cWk_take:(cWk b o t r).take 25=cBk b o:=by rw [cWk,List.take_append_of_le_length (by rw [cBk_len]; exact Nat.le_refl _),cBk_take_all]
@[go_sem] theorem cWk_take_all:(cWk b o t r).take 28=cWk b o t r:=List.take_of_length_le (by rw [cWk_len]; exact Nat.le_refl _)
@[go_sem] theorem cWk_drop:((cWk b o t r).drop 26).take 2=cId r:=by
 have h:(cWk b o t r).drop 26=cId r:=by
  rw [cWk,show 26=(cBk b o).length + 1 by rw [cBk_len],<-List.drop_drop,List.drop_left]
  rfl
 rw [h]
 exact cId_take r
@[go_sem high] theorem cWk_over_b:over (cWk b o t r) 0 (cBk d q)=cWk d q t r:=by
 rw [cWk,over_left (by rw [cBk_len,cBk_len]; exact Nat.le_refl _),cBk_over_all]; rfl
@[go_sem high] theorem cWk_over_out:over (cWk b o t r) 25 [u]=cWk b o u r:=by
 rw [cWk,over_right (by rw [cBk_len]; exact Nat.le_refl _),cBk_len]; rfl
@[go_sem high] theorem cWk_over_ref:over (cWk b o t r) 26 (cId s)=cWk b o t s:=by
 rw [cWk,over_right (by rw [cBk_len]; omega),cBk_len]; rfl
@[go_sem high] theorem cWk_over_all:over (cWk b o t r) 0 (cWk d q u s)=cWk d q u s:=by
 simp only [over,cWk_len,List.take_zero,List.nil_append,Nat.zero_add]
 rw [List.drop_eq_nil_of_le (by rw [cWk_len]; exact Nat.le_refl _),List.append_nil]
theorem cWk_map (f:AV->AV) (h:∀ (n:Int),f (.int .i64 n)=.int .i64 n):(cWk b o t r).map f=cWk b (f o) (f t) r:=by
 simp only [cWk,List.map_append,cBk_map b o f h,List.map_cons,cId,List.map_nil,h]
@[go_sem] theorem cWk_view (H d'):(cWk b o t r).map (view H d')=cWk b (view H d' o) (view H d' t) r:=cWk_map _ _ _ _ _ fun n=>view_int ..
@[go_sem] theorem cWk_told (H bs d'):(cWk b o t r).map (told H bs d')=cWk b (told H bs d' o) (told H bs d' t) r:=cWk_map _ _ _ _ _ fun n=>told_int ..
@[go_sem] theorem cWk_back (H bs d'):(cWk b o t r).map (back H bs d')=cWk b (back H bs d' o) (back H bs d' t) r:=cWk_map _ _ _ _ _ fun n=>back_int ..
@[go_sem] theorem cWk_coll (H d' acc):(cWk b o t r).foldl (coll H d') acc=coll H d' (coll H d' acc o) t:=by
 simp only [cWk,List.foldl_append,cBk_coll,List.foldl_cons,cId_coll]
@[go_sem] theorem cWk_lightN (d'):(cWk b o t r).all (lightN d')=(lightN d' o && lightN d' t):=by
 simp only [cWk,List.all_append,cBk_lightN,List.all_cons,cId_lightN,Bool.and_true]
@[go_sem] theorem cWk_leC (H0 H ρ):le.leC H0 H ρ (cWk b o t r) (cWk d q u s)=(d=b/\le H0 H ρ o q/\le H0 H ρ t u/\s=r):=by
 rw [cWk,cWk,leC_append _ _ _ _ _ _ _ (by simp only [cBk_len]),cBk_leC,leC_cons,cId_leC]
 exact propext ⟨fun ⟨⟨h1,h2⟩,h3,h4⟩=>⟨h1,h2,h3,h4⟩,fun ⟨h1,h2,h3,h4⟩=>⟨⟨h1,h2⟩,h3,h4⟩⟩
theorem leC_u (H0 H ρ):∀ (l:List AV),le.leC H0 H ρ (List.replicate l.length .u) l
 | []=>trivial
 | x :: l=>by
  simp only [List.length_cons,List.replicate_succ,leC_cons]
  exact ⟨trivial,leC_u H0 H ρ l⟩
@[go_sem] theorem uWk_leC (H0 H ρ):le.leC H0 H ρ uWk (cWk b o t r)=True:=by
 have:=leC_u H0 H ρ (cWk b o t r)
 rw [cWk_len] at this
 exact eq_true this
@[go_sem] theorem uWk_back (bs b0 d'):uWk.map (back bs b0 d')=uWk:=by
 cases d' <;> simp [uWk,back,renV,leafV]
theorem cWk_inj {b d:Bk} {o t q u:AV} {r s:Id} (h:cWk b o t r=cWk d q u s):b=d/\o=q/\t=u/\r=s:=by
 obtain ⟨h1,h2⟩:=List.append_inj h (by simp only [cBk_len])
 obtain ⟨h3,h4⟩:=cBk_inj h1
 obtain ⟨h5,h6⟩:=List.cons.inj h2
 exact ⟨h3,h4,h5,cId_inj h6⟩
theorem cWk_eq_iff:cWk b o t r=cWk d q u s ↔ b=d/\o=q/\t=u/\r=s:=⟨cWk_inj,fun ⟨h1,h2,h3,h4⟩=>by subst h1 h2 h3 h4; rfl⟩
end
end Go.Proofs.YtjoaigccapegpaaGreat.AE
