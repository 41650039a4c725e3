/-
 The cells of a shift: an Id, an outcome, another one. Conditions: none; every lemma names its own.
-/
import Derived.Test.YtfbooejaabdkoaaPd
set_option linter.constructorNameAsVariable false
namespace Go.Proofs.Ytfbooejaabdkoaa.AE
open Go Go.Proofs Go.RowKit
set_option linter.unusedVariables false
structure Shf where
 id:Id
 old:Outc
 new:Outc
 deriving DecidableEq
def cShf (x:Shf):List AV:=[.int .i64 x.id.rep,.int .i64 x.id.seq,.int .i64 x.old.code,.sl 5 (rows cEff x.old.effs),.int .i64 x.new.code,.sl 5 (rows cEff x.new.effs)]
section
variable (x y:Shf)
@[go_sem] theorem cShf_len:(cShf x).length=6:=rfl
@[go_sem] theorem cShf_take:(cShf x).take 6=cShf x:=rfl
@[go_sem] theorem cShf_id:(cShf x).take 2=cId x.id:=rfl
@[go_sem] theorem cShf_old:((cShf x).drop 2).take 2=cOc x.old:=rfl
@[go_sem] theorem cShf_new:((cShf x).drop 4).take 2=cOc x.new:=rfl
@[go_sem,simp high] theorem cShf_0:(cShf x)[0]?=some (.int .i64 x.id.rep):=rfl
@[go_sem,simp high] theorem cShf_1:(cShf x)[1]?=some (.int .i64 x.id.seq):=rfl
@[go_sem,simp high] theorem cShf_2:(cShf x)[2]?=some (.int .i64 x.old.code):=rfl
@[go_sem,simp high] theorem cShf_3:(cShf x)[3]?=some (.sl 5 (rows cEff x.old.effs)):=rfl
@[go_sem,simp high] theorem cShf_4:(cShf x)[4]?=some (.int .i64 x.new.code):=rfl
@[go_sem,simp high] theorem cShf_5:(cShf x)[5]?=some (.sl 5 (rows cEff x.new.effs)):=rfl
@[go_sem] theorem cShf_flat:(cShf x).all flatC=true:=rfl
@[go_sem] theorem cShf_view (H d):(cShf x).map (view H d)=cShf x:=by simp only [cShf,List.map_cons,List.map_nil,view_int,view_sl]
@[go_sem] theorem cShf_told (H bs d):(cShf x).map (told H bs d)=cShf x:=by simp only [cShf,List.map_cons,List.map_nil,told_int,told_sl]
@[go_sem] theorem cShf_back (H bs d):(cShf x).map (back H bs d)=cShf x:=by simp only [cShf,List.map_cons,List.map_nil,back_int,back_sl]
@[go_sem] theorem cShf_coll (H d acc):(cShf x).foldl (coll H d) acc=acc:=by simp only [cShf,List.foldl_cons,List.foldl_nil,coll_int,coll_sl]
@[go_sem] theorem cShf_leC (H0 H ρ):le.leC H0 H ρ (cShf x) (cShf y)=(y=x):=by
 refine propext ⟨fun h=>?_,fun h=>?_⟩
 ·
  obtain ⟨⟨a,b⟩,⟨c,d⟩,⟨e,f⟩⟩:=x
  obtain ⟨⟨a',b'⟩,⟨c',d'⟩,⟨e',f'⟩⟩:=y
  simp only [cShf,leC_cons,leC_nil,le_int,le_sl,AV.int.injEq,true_and,and_true] at h
  obtain ⟨rfl,rfl,rfl,h1,rfl,h2⟩:=h
  rw [rows_inj_Eff h1,rows_inj_Eff h2]
 · subst h; simp only [cShf,leC_cons,leC_nil,le_int,le_sl,and_self]
@[go_sem] theorem cShf_resC (H):res.resC H (cShf x) (cShf y)=(y=x):=by
 refine propext ⟨fun h=>?_,fun h=>?_⟩
 ·
  obtain ⟨⟨a,b⟩,⟨c,d⟩,⟨e,f⟩⟩:=x
  obtain ⟨⟨a',b'⟩,⟨c',d'⟩,⟨e',f'⟩⟩:=y
  simp only [cShf,resC_cons,resC_nil,res_int,res_sl_sl,AV.int.injEq,true_and,and_true] at h
  obtain ⟨rfl,rfl,rfl,h1,rfl,h2⟩:=h
  rw [rows_inj_Eff h1,rows_inj_Eff h2]
 · subst h; simp only [cShf,resC_cons,resC_nil,res_int,res_sl_sl,and_self]
@[go_sem] theorem rows_one_Shf:[cShf x]=rows cShf [x]:=rfl
@[go_sem] theorem rows_cons_Shf (L:List Shf):cShf x :: rows cShf L=rows cShf (x :: L):=rfl
@[go_sem] theorem rows_set_Shf (L:List Shf) (i:Nat):(rows cShf L).set i (cShf x)=rows cShf (L.set i x):=rows_set ..
end
def cShfZ:List AV:=[.int .i64 0,.int .i64 0,.int .i64 0,.nils,.int .i64 0,.nils]
def cShf1 (a:Id):List AV:=[.int .i64 a.rep,.int .i64 a.seq,.int .i64 0,.nils,.int .i64 0,.nils]
def cShf2 (a:Id) (o:Outc):List AV:=[.int .i64 a.rep,.int .i64 a.seq,.int .i64 o.code,.sl 5 (rows cEff o.effs),.int .i64 0,.nils]
@[go_sem] theorem cShfZ_len:cShfZ.length=6:=rfl
@[go_sem] theorem cShf1_len (a:Id):(cShf1 a).length=6:=rfl
@[go_sem] theorem cShf2_len (a:Id) (o:Outc):(cShf2 a o).length=6:=rfl
@[go_sem high] theorem cShf_over1 (a:Id):over cShfZ 0 (cId a)=cShf1 a:=rfl
@[go_sem high] theorem cShf_over2 (a:Id) (o:Outc):over (cShf1 a) 2 (cOc o)=cShf2 a o:=rfl
@[go_sem high] theorem cShf_over3 (a:Id) (o q:Outc):over (cShf2 a o) 4 (cOc q)=cShf ⟨a,o,q⟩:=rfl
@[go_sem] theorem cShf_mk (a:Id) (o q:Outc) (v w:AV) (hv:v=.sl 5 (rows cEff o.effs)) (hw:w=.sl 5 (rows cEff q.effs)):[.int .i64 a.rep,.int .i64 a.seq,.int .i64 o.code,v,.int .i64 q.code,w]=cShf ⟨a,o,q⟩:=by
 subst hv hw; rfl
end Go.Proofs.Ytfbooejaabdkoaa.AE
