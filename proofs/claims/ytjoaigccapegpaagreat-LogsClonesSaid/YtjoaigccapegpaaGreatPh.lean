/-
 The reference of chapter 16: contracts of its small functions. Conditions: none; every contract names its own.
-/
import Derived.Test.YtjoaigccapegpaaGreatPf
import Derived.Test.YtjoaigccapegpaaGreatPe
set_option linter.constructorNameAsVariable false
namespace Go.Proofs.YtjoaigccapegpaaGreat.AE
open Go Go.Proofs Go.RowKit
set_option linter.unusedVariables false
set_option linter.unusedSimpArgs false
set_option maxRecDepth 100000
set_option maxHeartbeats 4000000
theorem rows_vl_iff {n:Nat} (v u:Vn n):rows cInt v.l=rows cInt u.l ↔ v=u:=⟨fun h=>Vn.ext' (rows_inj_int h),fun h=>h ▸ rfl⟩
@[go_sem] theorem map_one_cV {n:Nat} (v:Vn n):(cV v).map (fun x=>[x])=rows cInt v.l:=by simp [cV,AI,rows,cInt,List.map_map,Function.comp_def]
theorem vl_at (v:Vn 8) {i:Nat} (h:i < 8):v.l[i]?=some (v.at i):=by
 have:i < v.l.length:=by rw [v.h]; exact h
 simp only [Vn.at,List.getD_eq_getElem?_getD,List.getElem?_eq_getElem this,Option.getD_some]
def addR (v:Vn 8) (i n:Int):Int:=if 0<=i/\i<=7/\1<=n/\n<=1099511627776 then (if 1099511627776 < v.at i.toNat + n then 7 else 0) else 4
def itemR (b:Bk) (c:Chg):Int:=if c.n<=b.st.at c.b.toNat then c.b else if c.ref.seq=1/\0<=c.ref.rep/\c.ref.rep<=7/\c.n<=b.st.at c.ref.rep.toNat then c.ref.rep else -1
def placeR (b:Bk) (os:List Ord) (c:Chg):Int:=if 0<=c.a/\c.a<=7/\0<=c.b/\c.b<=7/\1<=c.n/\c.n<=1000 then (if 0<=placeL os c.id then 9 else if 32<=os.length then 3 else if itemR b c < 0 then 11 else 0) else 4
structure add16X where
 v:Vn 8
 i:Int
 n:Int
 hL:∀ j,j < 8->0<=v.at j/\v.at j<=1099511627776
noncomputable def add16S:HSpec:=mkH (ι:=add16X) (fun ⟨v,i,n,hL⟩=>([.sl 1 (rows cInt v.l),.int .i64 i,.int .i64 n],[])) fun ⟨v,i,n,hL⟩=>⟨.int .i64 (addR v i n),[],[]⟩
theorem add16S_atG (v:Vn 8) (i:Int) (n:Int) (hL:∀ j,j < 8->0<=v.at j/\v.at j<=1099511627776):add16S [.sl 1 (rows cInt v.l),.int .i64 i,.int .i64 n] []=some (⟨.int .i64 (addR v i n),[],[]⟩):=
 mA_ (ι:=add16X) (fun i j h=>by obtain ⟨v,i,n,hL⟩:=i; obtain ⟨v2,i2,n2,hL2⟩:=j; simp [and_assoc,qB_,qI_,qO_,qC_,qE_,qK_,qR_,qV_,qP_,qOc_,rows_vl_iff] at h; obtain ⟨rfl,rfl,rfl⟩:=h; rfl) ⟨v,i,n,hL⟩
theorem add16S_at (v:Vn 8) (i:Int) (n:Int) (hL:∀ j,j < 8->0<=v.at j/\v.at j<=1099511627776):add16S [.sl 1 (rows cInt v.l),.int .i64 i,.int .i64 n] []=some (⟨.int .i64 (addR v i n),[],[]⟩):=add16S_atG v i n hL
theorem add16_ok:HSound Tryz.prog 79 add16S:=by
 refine sE_ (fn:=Tryz.f79) rfl rfl (by kernel_rfl) fun args bx hr hS=>?_
 obtain ⟨⟨v,i,n,hL⟩,rfl,rfl,rfl⟩:=mO_ hS
 clear hS
 refine ⟨_,(eN_ _),by simp [Tryz.f79],by simp [go_sem],fun w Mx pin=>?_⟩
 simp only [hB_at,lab_nil,lab_cons,hOf_nil,hOf_cons]
 refine aQ_ ?_
 iterate 1
  refine oC_ fun J hJ=>?_
  simp [go_sem]
  refine hJ _ _ _ ?_
  clear hJ J
 refine oN_ ?_
 refine aS_ fun K2 hK2=>?_
 refine aS_ fun K3 hK3=>?_
 by_cases x1:i < 0
 rotate_left
 by_cases x2:7 < i
 rotate_left
 by_cases x3:n < 1
 rotate_left
 by_cases x4:1099511627776 < n
 rotate_left
 ·
  have h5:i.toNat < 8:=by omega
  have hv:=hL i.toNat h5
  have hat:=vl_at v h5
  have h0:0<=i:=by omega
  refine aR_ ?_
  iterate 14
   refine oC_ fun J hJ=>?_
   simp [go_sem,x1,x2,x3,x4]
   refine hJ _ _ _ ?_
   clear hJ J
  refine oN_ ?_
  refine hK3 _ ?_
  clear hK3
  refine aF_ rfl ?_
  refine aK_ ?_
  refine hK2 _ ?_
  clear hK2
  refine aS_ fun K6 hK6=>?_
  refine aS_ fun K7 hK7=>?_
  by_cases hm:1099511627776 < v.at i.toNat + n
  ·
   have hr:addR v i n=7:=by unfold addR; rw [if_pos (by omega),if_pos hm]
   refine aR_ ?_
   iterate 7
    refine oC_ fun J hJ=>?_
    simp [go_sem,hat,h0,wA_ (n:=v.at i.toNat + n) (by omega),hm]
    refine hJ _ _ _ ?_
    clear hJ J
   refine oN_ ?_
   refine hK7 _ ?_
   clear hK7
   refine aT_ rfl ?_
   refine aQ_ ?_
   iterate 1
    refine oC_ fun J hJ=>?_
    simp [go_sem]
    refine hJ _ _ _ ?_
    clear hJ J
   refine oN_ ?_
   refine aE_ ?_
   refine fQ_ [] ?_
   simp [go_sem,Tryz.f79,hr]
  ·
   have hr:addR v i n=0:=by unfold addR; rw [if_pos (by omega),if_neg hm]
   refine aR_ ?_
   iterate 7
    refine oC_ fun J hJ=>?_
    simp [go_sem,hat,h0,wA_ (n:=v.at i.toNat + n) (by omega),hm]
    refine hJ _ _ _ ?_
    clear hJ J
   refine oN_ ?_
   refine hK7 _ ?_
   clear hK7
   refine aF_ rfl ?_
   refine aK_ ?_
   refine hK6 _ ?_
   clear hK6
   refine aQ_ ?_
   iterate 1
    refine oC_ fun J hJ=>?_
    simp [go_sem]
    refine hJ _ _ _ ?_
    clear hJ J
   refine oN_ ?_
   refine aE_ ?_
   refine fQ_ [] ?_
   simp [go_sem,Tryz.f79,hr]
 ·
  have hr:addR v i n=4:=by unfold addR; rw [if_neg (by omega)]
  refine aR_ ?_
  iterate 14
   refine oC_ fun J hJ=>?_
   simp [go_sem,x1]
   refine hJ _ _ _ ?_
   clear hJ J
  refine oN_ ?_
  refine hK3 _ ?_
  clear hK3
  refine aT_ rfl ?_
  refine aQ_ ?_
  iterate 1
   refine oC_ fun J hJ=>?_
   simp [go_sem]
   refine hJ _ _ _ ?_
   clear hJ J
  refine oN_ ?_
  refine aE_ ?_
  refine fQ_ [] ?_
  simp [go_sem,Tryz.f79,hr]
 ·
  have hr:addR v i n=4:=by unfold addR; rw [if_neg (by omega)]
  refine aR_ ?_
  iterate 14
   refine oC_ fun J hJ=>?_
   simp [go_sem,x1,x2]
   refine hJ _ _ _ ?_
   clear hJ J
  refine oN_ ?_
  refine hK3 _ ?_
  clear hK3
  refine aT_ rfl ?_
  refine aQ_ ?_
  iterate 1
   refine oC_ fun J hJ=>?_
   simp [go_sem]
   refine hJ _ _ _ ?_
   clear hJ J
  refine oN_ ?_
  refine aE_ ?_
  refine fQ_ [] ?_
  simp [go_sem,Tryz.f79,hr]
 ·
  have hr:addR v i n=4:=by unfold addR; rw [if_neg (by omega)]
  refine aR_ ?_
  iterate 14
   refine oC_ fun J hJ=>?_
   simp [go_sem,x1,x2,x3]
   refine hJ _ _ _ ?_
   clear hJ J
  refine oN_ ?_
  refine hK3 _ ?_
  clear hK3
  refine aT_ rfl ?_
  refine aQ_ ?_
  iterate 1
   refine oC_ fun J hJ=>?_
   simp [go_sem]
   refine hJ _ _ _ ?_
   clear hJ J
  refine oN_ ?_
  refine aE_ ?_
  refine fQ_ [] ?_
  simp [go_sem,Tryz.f79,hr]
 ·
  have hr:addR v i n=4:=by unfold addR; rw [if_neg (by omega)]
  refine aR_ ?_
  iterate 14
   refine oC_ fun J hJ=>?_
   simp [go_sem,x1,x2,x3,x4]
   refine hJ _ _ _ ?_
   clear hJ J
  refine oN_ ?_
  refine hK3 _ ?_
  clear hK3
  refine aT_ rfl ?_
  refine aQ_ ?_
  iterate 1
   refine oC_ fun J hJ=>?_
   simp [go_sem]
   refine hJ _ _ _ ?_
   clear hJ J
  refine oN_ ?_
  refine aE_ ?_
  refine fQ_ [] ?_
  simp [go_sem,Tryz.f79,hr]
structure item16X where
 b:Bk
 os:List Ord
 os':AV
 c:Chg
 h_os:SlA 7 cOrd os os'
 hL:0<=c.b/\c.b<=7
noncomputable def item16S:HSpec:=mkH (ι:=item16X) (fun ⟨b,os,os',c,h_os,hL⟩=>([.agg (cBk b os'),.agg (cChg c)],[])) fun ⟨b,os,os',c,h_os,hL⟩=>⟨.int .i64 (itemR b c),[],[]⟩
theorem item16S_atG (b:Bk) (os:List Ord) (os':AV) (c:Chg) (h_os:SlA 7 cOrd os os') (hL:0<=c.b/\c.b<=7):item16S [.agg (cBk b os'),.agg (cChg c)] []=some (⟨.int .i64 (itemR b c),[],[]⟩):=
 mA_ (ι:=item16X) (fun i j h=>by obtain ⟨b,os,os',c,h_os,hL⟩:=i; obtain ⟨b2,os2,os'2,c2,h_os2,hL2⟩:=j; simp [and_assoc,qB_,qI_,qO_,qC_,qE_,qK_,qR_,qV_,qP_,qOc_] at h; obtain ⟨rfl,rfl,rfl⟩:=h; obtain rfl:=SlA.inj (fun x y h=>cOrd_inj h) h_os h_os2; rfl) ⟨b,os,os',c,h_os,hL⟩
theorem item16S_at (b:Bk) (os:List Ord) (c:Chg) (hL:0<=c.b/\c.b<=7):item16S [.agg (cBk b (.sl 7 (rows cOrd os))),.agg (cChg c)] []=some (⟨.int .i64 (itemR b c),[],[]⟩):=item16S_atG b os _ c .sl hL
theorem item16_ok:HSound Tryz.prog 85 item16S:=by
 refine sE_ (fn:=Tryz.f85) rfl rfl (by kernel_rfl) fun args bx hr hS=>?_
 obtain ⟨⟨b,os,os',c,h_os,hL⟩,rfl,rfl,rfl⟩:=mO_ hS
 clear hS
 refine ⟨_,(eN_ _),by simp [Tryz.f85],by simp [go_sem],fun w Mx pin=>?_⟩
 simp only [hB_at,lab_nil,lab_cons,hOf_nil,hOf_cons]
 refine aW_ (s':=⟨ofL [(0,.agg (cBk b (.sl 7 (rows cOrd os)))),(1,.agg (cChg c))],hOf []⟩) ?_ ?_
 · cases h_os <;> exact wO_ [] (by simp [go_sem]) (by simp [go_sem]) (by simp [go_sem])
 clear h_os
 have h8:c.b < 8:=by omega
 have h5:c.b.toNat < 8:=by omega
 have h24:c.b<=24:=by omega
 refine aQ_ ?_
 iterate 3
  refine oC_ fun J hJ=>?_
  simp [go_sem]
  refine hJ _ _ _ ?_
  clear hJ J
 refine oN_ ?_
 refine aS_ fun K2 hK2=>?_
 refine aS_ fun K3 hK3=>?_
 by_cases hn:c.n<=b.st.at c.b.toNat
 ·
  have hr:itemR b c=c.b:=if_pos hn
  refine aD_ ?_
  iterate 8
   refine oC_ fun J hJ=>?_
   simp [go_sem,hL.1,h8,h5,h24,hn]
   refine hJ _ _ _ ?_
   clear hJ J
  refine oN_ ?_
  refine ⟨rfl,?_⟩
  refine hK3 _ ?_
  clear hK3
  refine aT_ rfl ?_
  refine aQ_ ?_
  iterate 3
   refine oC_ fun J hJ=>?_
   simp [go_sem]
   refine hJ _ _ _ ?_
   clear hJ J
  refine oN_ ?_
  refine aE_ ?_
  refine fQ_ [] ?_
  simp [go_sem,Tryz.f85,hr]
 ·
  refine aD_ ?_
  iterate 8
   refine oC_ fun J hJ=>?_
   simp [go_sem,hL.1,h8,h5,h24,hn]
   refine hJ _ _ _ ?_
   clear hJ J
  refine oN_ ?_
  refine ⟨rfl,?_⟩
  refine hK3 _ ?_
  clear hK3
  refine aF_ rfl ?_
  refine aK_ ?_
  refine hK2 _ ?_
  clear hK2
  refine aQ_ ?_
  iterate 4
   refine oC_ fun J hJ=>?_
   simp [go_sem]
   refine hJ _ _ _ ?_
   clear hJ J
  refine oN_ ?_
  refine aS_ fun K7 hK7=>?_
  refine aS_ fun K8 hK8=>?_
  by_cases x1:c.ref.seq=1
  by_cases x2:0<=c.ref.rep
  by_cases x3:c.ref.rep<=7
  by_cases x4:c.n<=b.st.at c.ref.rep.toNat
  ·
   have r8:c.ref.rep < 8:=by omega
   have r5:c.ref.rep.toNat < 8:=by omega
   have r24:c.ref.rep<=24:=by omega
   have hr:itemR b c=c.ref.rep:=by unfold itemR; rw [if_neg hn,if_pos ⟨x1,x2,x3,x4⟩]
   refine aD_ ?_
   iterate 21
    refine oC_ fun J hJ=>?_
    simp [go_sem,r8,r5,r24,x1,x2,x3,x4]
    refine hJ _ _ _ ?_
    clear hJ J
   refine oN_ ?_
   refine ⟨rfl,?_⟩
   refine hK8 _ ?_
   clear hK8
   refine aT_ rfl ?_
   refine aQ_ ?_
   iterate 2
    refine oC_ fun J hJ=>?_
    simp [go_sem]
    refine hJ _ _ _ ?_
    clear hJ J
   refine oN_ ?_
   refine aE_ ?_
   refine fQ_ [] ?_
   simp [go_sem,Tryz.f85,hr]
  ·
   have r8:c.ref.rep < 8:=by omega
   have r5:c.ref.rep.toNat < 8:=by omega
   have r24:c.ref.rep<=24:=by omega
   have hr:itemR b c=-1:=by unfold itemR; rw [if_neg hn,if_neg (fun h=>x4 h.2.2.2)]
   refine aD_ ?_
   iterate 21
    refine oC_ fun J hJ=>?_
    simp [go_sem,r8,r5,r24,x1,x2,x3,x4]
    refine hJ _ _ _ ?_
    clear hJ J
   refine oN_ ?_
   refine ⟨rfl,?_⟩
   refine hK8 _ ?_
   clear hK8
   refine aF_ rfl ?_
   refine aK_ ?_
   refine hK7 _ ?_
   clear hK7
   refine aQ_ ?_
   iterate 1
    refine oC_ fun J hJ=>?_
    simp [go_sem]
    refine hJ _ _ _ ?_
    clear hJ J
   refine oN_ ?_
   refine aE_ ?_
   refine fQ_ [] ?_
   simp [go_sem,Tryz.f85,hr]
  ·
   have hr:itemR b c=-1:=by unfold itemR; rw [if_neg hn,if_neg (fun h=>x3 h.2.2.1)]
   refine aD_ ?_
   iterate 21
    refine oC_ fun J hJ=>?_
    simp [go_sem,x1,x2,x3]
    refine hJ _ _ _ ?_
    clear hJ J
   refine oN_ ?_
   refine ⟨rfl,?_⟩
   refine hK8 _ ?_
   clear hK8
   refine aF_ rfl ?_
   refine aK_ ?_
   refine hK7 _ ?_
   clear hK7
   refine aQ_ ?_
   iterate 1
    refine oC_ fun J hJ=>?_
    simp [go_sem]
    refine hJ _ _ _ ?_
    clear hJ J
   refine oN_ ?_
   refine aE_ ?_
   refine fQ_ [] ?_
   simp [go_sem,Tryz.f85,hr]
  ·
   have hr:itemR b c=-1:=by unfold itemR; rw [if_neg hn,if_neg (fun h=>x2 h.2.1)]
   refine aD_ ?_
   iterate 21
    refine oC_ fun J hJ=>?_
    simp [go_sem,x1,x2]
    refine hJ _ _ _ ?_
    clear hJ J
   refine oN_ ?_
   refine ⟨rfl,?_⟩
   refine hK8 _ ?_
   clear hK8
   refine aF_ rfl ?_
   refine aK_ ?_
   refine hK7 _ ?_
   clear hK7
   refine aQ_ ?_
   iterate 1
    refine oC_ fun J hJ=>?_
    simp [go_sem]
    refine hJ _ _ _ ?_
    clear hJ J
   refine oN_ ?_
   refine aE_ ?_
   refine fQ_ [] ?_
   simp [go_sem,Tryz.f85,hr]
  ·
   have hr:itemR b c=-1:=by unfold itemR; rw [if_neg hn,if_neg (fun h=>x1 h.1)]
   refine aD_ ?_
   iterate 21
    refine oC_ fun J hJ=>?_
    simp [go_sem,show (c.ref.seq == 1)=false by simpa using x1]
    refine hJ _ _ _ ?_
    clear hJ J
   refine oN_ ?_
   refine ⟨rfl,?_⟩
   refine hK8 _ ?_
   clear hK8
   refine aF_ rfl ?_
   refine aK_ ?_
   refine hK7 _ ?_
   clear hK7
   refine aQ_ ?_
   iterate 1
    refine oC_ fun J hJ=>?_
    simp [go_sem]
    refine hJ _ _ _ ?_
    clear hJ J
   refine oN_ ?_
   refine aE_ ?_
   refine fQ_ [] ?_
   simp [go_sem,Tryz.f85,hr]
structure place16X where
 b:Bk
 os:List Ord
 os':AV
 c:Chg
 h_os:SlA 7 cOrd os os'
 hL:os.length<=100000
noncomputable def place16S:HSpec:=mkH (ι:=place16X) (fun ⟨b,os,os',c,h_os,hL⟩=>([.agg (cBk b os'),.agg (cChg c)],[])) fun ⟨b,os,os',c,h_os,hL⟩=>⟨.int .i64 (placeR b os c),[],[]⟩
theorem place16S_atG (b:Bk) (os:List Ord) (os':AV) (c:Chg) (h_os:SlA 7 cOrd os os') (hL:os.length<=100000):place16S [.agg (cBk b os'),.agg (cChg c)] []=some (⟨.int .i64 (placeR b os c),[],[]⟩):=
 mA_ (ι:=place16X) (fun i j h=>by obtain ⟨b,os,os',c,h_os,hL⟩:=i; obtain ⟨b2,os2,os'2,c2,h_os2,hL2⟩:=j; simp [and_assoc,qB_,qI_,qO_,qC_,qE_,qK_,qR_,qV_,qP_,qOc_] at h; obtain ⟨rfl,rfl,rfl⟩:=h; obtain rfl:=SlA.inj (fun x y h=>cOrd_inj h) h_os h_os2; rfl) ⟨b,os,os',c,h_os,hL⟩
theorem place16S_at (b:Bk) (os:List Ord) (c:Chg) (hL:os.length<=100000):place16S [.agg (cBk b (.sl 7 (rows cOrd os))),.agg (cChg c)] []=some (⟨.int .i64 (placeR b os c),[],[]⟩):=place16S_atG b os _ c .sl hL
theorem place16_ok:HSound Tryz.prog 80 place16S:=by
 refine sE_ (fn:=Tryz.f80) rfl rfl (by kernel_rfl) fun args bx hr hS=>?_
 obtain ⟨⟨b,os,os',c,h_os,hL⟩,rfl,rfl,rfl⟩:=mO_ hS
 clear hS
 refine ⟨_,(eV_ (g:=81) (by kernel_rfl) findRf_ok (eV_ (g:=85) (by kernel_rfl) item16_ok (eN_ _))),by simp [Tryz.f80],by simp [go_sem],fun w Mx pin=>?_⟩
 simp only [hB_at,lab_nil,lab_cons,hOf_nil,hOf_cons]
 refine aW_ (s':=⟨ofL [(0,.agg (cBk b (.sl 7 (rows cOrd os)))),(1,.agg (cChg c))],hOf []⟩) ?_ ?_
 · cases h_os <;> exact wO_ [] (by simp [go_sem]) (by simp [go_sem]) (by simp [go_sem])
 clear h_os
 refine aQ_ ?_
 iterate 3
  refine oC_ fun J hJ=>?_
  simp [go_sem]
  refine hJ _ _ _ ?_
  clear hJ J
 refine oN_ ?_
 refine aS_ fun K2 hK2=>?_
 refine aS_ fun K3 hK3=>?_
 by_cases x1:c.a < 0
 rotate_left
 by_cases x2:7 < c.a
 rotate_left
 by_cases x3:c.b < 0
 rotate_left
 by_cases x4:7 < c.b
 rotate_left
 by_cases x5:c.n < 1
 rotate_left
 by_cases x6:1000 < c.n
 rotate_left
 ·
  have hp:placeR b os c=_:=if_pos (by omega)
  refine aR_ ?_
  iterate 28
   refine oC_ fun J hJ=>?_
   simp [go_sem,x1,x2,x3,x4,x5,x6]
   refine hJ _ _ _ ?_
   clear hJ J
  refine oN_ ?_
  refine hK3 _ ?_
  clear hK3
  refine aF_ rfl ?_
  refine aK_ ?_
  refine hK2 _ ?_
  clear hK2
  refine aS_ fun K6 hK6=>?_
  refine aQ_ ?_
  iterate 5
   refine oC_ fun J hJ=>?_
   simp [go_sem,findRfS_at b os c.id hL]
   refine hJ _ _ _ ?_
   clear hJ J
  refine oN_ ?_
  refine aC_ (t:=_) rfl (fun c8=>?_) (fun c8=>?_)
  ·
   simp [go_sem] at c8
   refine aS_ fun K9 hK9=>?_
   have hr:placeR b os c=9:=by rw [hp,if_pos c8]
   refine aR_ ?_
   iterate 1
    refine oC_ fun J hJ=>?_
    simp [go_sem]
    refine hJ _ _ _ ?_
    clear hJ J
   refine oN_ ?_
   refine hK9 _ ?_
   clear hK9
   refine aE_ ?_
   refine fQ_ [] ?_
   simp [go_sem,Tryz.f80,hr]
  ·
   simp [go_sem] at c8
   refine aK_ ?_
   refine hK6 _ ?_
   clear hK6
   refine aS_ fun K10 hK10=>?_
   refine aQ_ ?_
   iterate 4
    refine oC_ fun J hJ=>?_
    simp [go_sem]
    refine hJ _ _ _ ?_
    clear hJ J
   refine oN_ ?_
   refine aC_ (t:=_) rfl (fun c12=>?_) (fun c12=>?_)
   ·
    simp [go_sem] at c12
    refine aS_ fun K13 hK13=>?_
    have hr:placeR b os c=3:=by rw [hp,if_neg (by omega),if_pos (by omega)]
    refine aR_ ?_
    iterate 1
     refine oC_ fun J hJ=>?_
     simp [go_sem]
     refine hJ _ _ _ ?_
     clear hJ J
    refine oN_ ?_
    refine hK13 _ ?_
    clear hK13
    refine aE_ ?_
    refine fQ_ [] ?_
    simp [go_sem,Tryz.f80,hr]
   ·
    simp [go_sem] at c12
    refine aK_ ?_
    refine hK10 _ ?_
    clear hK10
    refine aS_ fun K14 hK14=>?_
    refine aQ_ ?_
    iterate 4
     refine oC_ fun J hJ=>?_
     simp [go_sem,item16S_at b os c (by omega)]
     refine hJ _ _ _ ?_
     clear hJ J
    refine oN_ ?_
    refine aC_ (t:=_) rfl (fun c16=>?_) (fun c16=>?_)
    ·
     simp [go_sem] at c16
     refine aS_ fun K17 hK17=>?_
     have hr:placeR b os c=11:=by rw [hp,if_neg (by omega),if_neg (by omega),if_pos c16]
     refine aR_ ?_
     iterate 1
      refine oC_ fun J hJ=>?_
      simp [go_sem]
      refine hJ _ _ _ ?_
      clear hJ J
     refine oN_ ?_
     refine hK17 _ ?_
     clear hK17
     refine aE_ ?_
     refine fQ_ [] ?_
     simp [go_sem,Tryz.f80,hr]
    ·
     simp [go_sem] at c16
     refine aK_ ?_
     refine hK14 _ ?_
     clear hK14
     refine aS_ fun K18 hK18=>?_
     have hr:placeR b os c=0:=by rw [hp,if_neg (by omega),if_neg (by omega),if_neg (by omega)]
     refine aR_ ?_
     iterate 1
      refine oC_ fun J hJ=>?_
      simp [go_sem]
      refine hJ _ _ _ ?_
      clear hJ J
     refine oN_ ?_
     refine hK18 _ ?_
     clear hK18
     refine aE_ ?_
     refine fQ_ [] ?_
     simp [go_sem,Tryz.f80,hr]
 ·
  have hr:placeR b os c=4:=if_neg (by omega)
  refine aR_ ?_
  iterate 28
   refine oC_ fun J hJ=>?_
   simp [go_sem,x1]
   refine hJ _ _ _ ?_
   clear hJ J
  refine oN_ ?_
  refine hK3 _ ?_
  clear hK3
  refine aT_ rfl ?_
  refine aQ_ ?_
  iterate 1
   refine oC_ fun J hJ=>?_
   simp [go_sem]
   refine hJ _ _ _ ?_
   clear hJ J
  refine oN_ ?_
  refine aE_ ?_
  refine fQ_ [] ?_
  simp [go_sem,Tryz.f80,hr]
 ·
  have hr:placeR b os c=4:=if_neg (by omega)
  refine aR_ ?_
  iterate 28
   refine oC_ fun J hJ=>?_
   simp [go_sem,x1,x2]
   refine hJ _ _ _ ?_
   clear hJ J
  refine oN_ ?_
  refine hK3 _ ?_
  clear hK3
  refine aT_ rfl ?_
  refine aQ_ ?_
  iterate 1
   refine oC_ fun J hJ=>?_
   simp [go_sem]
   refine hJ _ _ _ ?_
   clear hJ J
  refine oN_ ?_
  refine aE_ ?_
  refine fQ_ [] ?_
  simp [go_sem,Tryz.f80,hr]
 ·
  have hr:placeR b os c=4:=if_neg (by omega)
  refine aR_ ?_
  iterate 28
   refine oC_ fun J hJ=>?_
   simp [go_sem,x1,x2,x3]
   refine hJ _ _ _ ?_
   clear hJ J
  refine oN_ ?_
  refine hK3 _ ?_
  clear hK3
  refine aT_ rfl ?_
  refine aQ_ ?_
  iterate 1
   refine oC_ fun J hJ=>?_
   simp [go_sem]
   refine hJ _ _ _ ?_
   clear hJ J
  refine oN_ ?_
  refine aE_ ?_
  refine fQ_ [] ?_
  simp [go_sem,Tryz.f80,hr]
 ·
  have hr:placeR b os c=4:=if_neg (by omega)
  refine aR_ ?_
  iterate 28
   refine oC_ fun J hJ=>?_
   simp [go_sem,x1,x2,x3,x4]
   refine hJ _ _ _ ?_
   clear hJ J
  refine oN_ ?_
  refine hK3 _ ?_
  clear hK3
  refine aT_ rfl ?_
  refine aQ_ ?_
  iterate 1
   refine oC_ fun J hJ=>?_
   simp [go_sem]
   refine hJ _ _ _ ?_
   clear hJ J
  refine oN_ ?_
  refine aE_ ?_
  refine fQ_ [] ?_
  simp [go_sem,Tryz.f80,hr]
 ·
  have hr:placeR b os c=4:=if_neg (by omega)
  refine aR_ ?_
  iterate 28
   refine oC_ fun J hJ=>?_
   simp [go_sem,x1,x2,x3,x4,x5]
   refine hJ _ _ _ ?_
   clear hJ J
  refine oN_ ?_
  refine hK3 _ ?_
  clear hK3
  refine aT_ rfl ?_
  refine aQ_ ?_
  iterate 1
   refine oC_ fun J hJ=>?_
   simp [go_sem]
   refine hJ _ _ _ ?_
   clear hJ J
  refine oN_ ?_
  refine aE_ ?_
  refine fQ_ [] ?_
  simp [go_sem,Tryz.f80,hr]
 ·
  have hr:placeR b os c=4:=if_neg (by omega)
  refine aR_ ?_
  iterate 28
   refine oC_ fun J hJ=>?_
   simp [go_sem,x1,x2,x3,x4,x5,x6]
   refine hJ _ _ _ ?_
   clear hJ J
  refine oN_ ?_
  refine hK3 _ ?_
  clear hK3
  refine aT_ rfl ?_
  refine aQ_ ?_
  iterate 1
   refine oC_ fun J hJ=>?_
   simp [go_sem]
   refine hJ _ _ _ ?_
   clear hJ J
  refine oN_ ?_
  refine aE_ ?_
  refine fQ_ [] ?_
  simp [go_sem,Tryz.f80,hr]
structure eff16X where
 k:Int
 a:Int
 n:Int
 r:Id
noncomputable def eff16S:HSpec:=mkH (ι:=eff16X) (fun ⟨k,a,n,r⟩=>([.int .i64 k,.int .i64 a,.int .i64 n,.agg (cId r)],[])) fun ⟨k,a,n,r⟩=>⟨.agg (cEff ⟨k,a,n,r⟩),[],[]⟩
theorem eff16S_atG (k:Int) (a:Int) (n:Int) (r:Id):eff16S [.int .i64 k,.int .i64 a,.int .i64 n,.agg (cId r)] []=some (⟨.agg (cEff ⟨k,a,n,r⟩),[],[]⟩):=
 mA_ (ι:=eff16X) (fun i j h=>by obtain ⟨k,a,n,r⟩:=i; obtain ⟨k2,a2,n2,r2⟩:=j; simp [and_assoc,qB_,qI_,qO_,qC_,qE_,qK_,qR_,qV_,qP_,qOc_] at h; obtain ⟨rfl,rfl,rfl,rfl⟩:=h; rfl) ⟨k,a,n,r⟩
theorem eff16S_at (k:Int) (a:Int) (n:Int) (r:Id):eff16S [.int .i64 k,.int .i64 a,.int .i64 n,.agg (cId r)] []=some (⟨.agg (cEff ⟨k,a,n,r⟩),[],[]⟩):=eff16S_atG k a n r
theorem eff16_ok:HSound Tryz.prog 84 eff16S:=by
 refine sE_ (fn:=Tryz.f84) rfl rfl (by kernel_rfl) fun args bx hr hS=>?_
 obtain ⟨⟨k,a,n,r⟩,rfl,rfl,rfl⟩:=mO_ hS
 clear hS
 refine ⟨_,(eN_ _),by simp [Tryz.f84],by simp [go_sem],fun w Mx pin=>?_⟩
 simp only [hB_at,lab_nil,lab_cons,hOf_nil,hOf_cons]
 refine aQ_ ?_
 iterate 2
  refine oC_ fun J hJ=>?_
  simp [go_sem]
  refine hJ _ _ _ ?_
  clear hJ J
 refine oN_ ?_
 refine aQ_ ?_
 iterate 6
  refine oC_ fun J hJ=>?_
  simp [go_sem]
  refine hJ _ _ _ ?_
  clear hJ J
 refine oN_ ?_
 refine aE_ ?_
 refine fQ_ [] ?_
 simp [go_sem,Tryz.f84]
structure put16X where
 b:Bk
 os:List Ord
 os':AV
 x:Ord
 st:Int
 h_os:SlA 7 cOrd os os'
 hL:os.length<=50000
noncomputable def put16S:HSpec:=mkH (ι:=put16X) (fun ⟨b,os,os',x,st,h_os,hL⟩=>([.agg (cBk b os'),.agg (cOrd x),.int .i64 st],[])) fun ⟨b,os,os',x,st,h_os,hL⟩=>⟨.agg (cBk b (.sl 7 (rows cOrd (putL os (chgS x st))))),[],[]⟩
theorem put16S_atG (b:Bk) (os:List Ord) (os':AV) (x:Ord) (st:Int) (h_os:SlA 7 cOrd os os') (hL:os.length<=50000):put16S [.agg (cBk b os'),.agg (cOrd x),.int .i64 st] []=some (⟨.agg (cBk b (.sl 7 (rows cOrd (putL os (chgS x st))))),[],[]⟩):=
 mA_ (ι:=put16X) (fun i j h=>by obtain ⟨b,os,os',x,st,h_os,hL⟩:=i; obtain ⟨b2,os2,os'2,x2,st2,h_os2,hL2⟩:=j; simp [and_assoc,qB_,qI_,qO_,qC_,qE_,qK_,qR_,qV_,qP_,qOc_] at h; obtain ⟨rfl,rfl,rfl,rfl⟩:=h; obtain rfl:=SlA.inj (fun x y h=>cOrd_inj h) h_os h_os2; rfl) ⟨b,os,os',x,st,h_os,hL⟩
theorem put16S_at (b:Bk) (os:List Ord) (x:Ord) (st:Int) (hL:os.length<=50000):put16S [.agg (cBk b (.sl 7 (rows cOrd os))),.agg (cOrd x),.int .i64 st] []=some (⟨.agg (cBk b (.sl 7 (rows cOrd (putL os (chgS x st))))),[],[]⟩):=put16S_atG b os _ x st .sl hL
theorem chgS' (x:Ord) (st:Int):cOrd { id:=x.id,buyer:=x.buyer,item:=x.item,qty:=x.qty,cost:=x.cost,state:=st }=cOrd (chgS x st):=rfl
theorem put16_ok:HSound Tryz.prog 83 put16S:=by
 refine sE_ (fn:=Tryz.f83) rfl rfl (by kernel_rfl) fun args bx hr hS=>?_
 obtain ⟨⟨b,os,os',x,st,h_os,hL⟩,rfl,rfl,rfl⟩:=mO_ hS
 clear hS
 refine ⟨_,(eH_ (g:=86) (by kernel_rfl) putRf_ok (eN_ _)),by simp [Tryz.f83],by simp [go_sem],fun w Mx pin=>?_⟩
 simp only [hB_at,lab_nil,lab_cons,hOf_nil,hOf_cons]
 refine aW_ (s':=⟨ofL [(0,.agg (cBk b (.sl 7 (rows cOrd os)))),(1,.agg (cOrd x)),(2,.int .i64 st)],hOf []⟩) ?_ ?_
 · cases h_os <;> exact wO_ [] (by simp [go_sem]) (by simp [go_sem]) (by simp [go_sem])
 clear h_os
 refine aQ_ ?_
 iterate 3
  refine oC_ fun J hJ=>?_
  simp [go_sem]
  refine hJ _ _ _ ?_
  clear hJ J
 refine oN_ ?_
 refine aQ_ ?_
 iterate 3
  refine oC_ fun J hJ=>?_
  simp [go_sem]
  refine hJ _ _ _ ?_
  clear hJ J
 refine oN_ ?_
 refine aQ_ ?_
 iterate 4
  refine oC_ fun J hJ=>?_
  simp [go_sem,chgS',putRfS_at b os (chgS x st) hL]
  refine hJ _ _ _ ?_
  clear hJ J
 refine oN_ ?_
 refine aE_ ?_
 refine fQ_ [] ?_
 simp [go_sem,Tryz.f83]
@[go_sem] theorem tiI9:TI.of Tryz.prog 129=some { size:=9,agg:=true,zero:=[.int .i64 0,.int .i64 0,.int .i64 0,.int .i64 0,.int .i64 0,.int .i64 0,.int .i64 0,.int .i64 0,.int .i64 0],fields:=[],len:=9,esize:=1,etype:=3,ebytes:=8,kind:=none,arr:=true,slc:=false,ptr:=false,kinds:=some [.int .i64,.int .i64,.int .i64,.int .i64,.int .i64,.int .i64,.int .i64,.int .i64,.int .i64] }:=by kernel_rfl
@[go_sem] theorem want4:((((((((((zV 9).put 0 0).put 1 0).put 2 0).put 3 0).put 4 1).put 5 1).put 6 1).put 7 2).put 8 3).at 4=1:=rfl
@[go_sem] theorem want5:((((((((((zV 9).put 0 0).put 1 0).put 2 0).put 3 0).put 4 1).put 5 1).put 6 1).put 7 2).put 8 3).at 5=1:=rfl
@[go_sem] theorem want6:((((((((((zV 9).put 0 0).put 1 0).put 2 0).put 3 0).put 4 1).put 5 1).put 6 1).put 7 2).put 8 3).at 6=1:=rfl
@[go_sem] theorem want7:((((((((((zV 9).put 0 0).put 1 0).put 2 0).put 3 0).put 4 1).put 5 1).put 6 1).put 7 2).put 8 3).at 7=2:=rfl
@[go_sem] theorem want8:((((((((((zV 9).put 0 0).put 1 0).put 2 0).put 3 0).put 4 1).put 5 1).put 6 1).put 7 2).put 8 3).at 8=3:=rfl
def aboutR (b:Bk) (c:Chg) (x:Ord):Int:=
 if c.kind=4 then (if x.state=1 then (if b.st.at x.item.toNat < c.n - x.qty then 11 else if 1099511627776 < b.st.at x.item.toNat + x.qty - c.n then 7 else 0) else 9)
 else if c.kind=5 then (if x.state=1\/x.state=2 then (if 1099511627776 < b.st.at x.item.toNat + x.qty\/(x.state=2/\1099511627776 < b.pu.at x.buyer.toNat + x.cost) then 7 else 0) else 9)
 else if c.kind=6 then (if x.state=1 then (if 1099511627776 < x.qty * b.pr.at x.item.toNat then 7 else if b.pu.at x.buyer.toNat < x.qty * b.pr.at x.item.toNat then 11 else 0) else 9)
 else if c.kind=7 then (if x.state=2 then 0 else 9)
 else (if x.state=3 then (if 1099511627776 < b.pu.at x.buyer.toNat + x.cost then 7 else 0) else 9)
theorem mul_rng {q p:Int} (h0:1<=q) (h1:q<=1000) (h2:0<=p) (h3:p<=1073741824):0<=q * p/\q * p<=1073741824000:=by
 refine ⟨Int.mul_nonneg (by omega) h2,?_⟩
 calc q * p<=1000 * p:=Int.mul_le_mul_of_nonneg_right h1 h2
  _<=1073741824000:=by omega
structure about16X where
 b:Bk
 os:List Ord
 os':AV
 c:Chg
 x:Ord
 h_os:SlA 7 cOrd os os'
 hL:FairB b/\FairO [x]/\(4<=c.kind/\c.kind<=8)/\(c.kind=4->1<=c.n/\c.n<=1000)
noncomputable def about16S:HSpec:=mkH (ι:=about16X) (fun ⟨b,os,os',c,x,h_os,hL⟩=>([.agg (cBk b os'),.agg (cChg c),.agg (cOrd x)],[])) fun ⟨b,os,os',c,x,h_os,hL⟩=>⟨.int .i64 (aboutR b c x),[],[]⟩
theorem about16S_atG (b:Bk) (os:List Ord) (os':AV) (c:Chg) (x:Ord) (h_os:SlA 7 cOrd os os') (hL:FairB b/\FairO [x]/\(4<=c.kind/\c.kind<=8)/\(c.kind=4->1<=c.n/\c.n<=1000)):about16S [.agg (cBk b os'),.agg (cChg c),.agg (cOrd x)] []=some (⟨.int .i64 (aboutR b c x),[],[]⟩):=
 mA_ (ι:=about16X) (fun i j h=>by obtain ⟨b,os,os',c,x,h_os,hL⟩:=i; obtain ⟨b2,os2,os'2,c2,x2,h_os2,hL2⟩:=j; simp [and_assoc,qB_,qI_,qO_,qC_,qE_,qK_,qR_,qV_,qP_,qOc_] at h; obtain ⟨rfl,rfl,rfl,rfl⟩:=h; obtain rfl:=SlA.inj (fun x y h=>cOrd_inj h) h_os h_os2; rfl) ⟨b,os,os',c,x,h_os,hL⟩
theorem about16S_at (b:Bk) (os:List Ord) (c:Chg) (x:Ord) (hL:FairB b/\FairO [x]/\(4<=c.kind/\c.kind<=8)/\(c.kind=4->1<=c.n/\c.n<=1000)):about16S [.agg (cBk b (.sl 7 (rows cOrd os))),.agg (cChg c),.agg (cOrd x)] []=some (⟨.int .i64 (aboutR b c x),[],[]⟩):=about16S_atG b os _ c x .sl hL
theorem about16_ok:HSound Tryz.prog 82 about16S:=by
 refine sE_ (fn:=Tryz.f82) rfl rfl (by kernel_rfl) fun args bx hr hS=>?_
 obtain ⟨⟨b,os,os',c,x,h_os,hL⟩,rfl,rfl,rfl⟩:=mO_ hS
 clear hS
 refine ⟨_,(eN_ _),by simp [Tryz.f82],by simp [go_sem],fun w Mx pin=>?_⟩
 simp only [hB_at,lab_nil,lab_cons,hOf_nil,hOf_cons]
 refine aW_ (s':=⟨ofL [(0,.agg (cBk b (.sl 7 (rows cOrd os)))),(1,.agg (cChg c)),(2,.agg (cOrd x))],hOf []⟩) ?_ ?_
 · cases h_os <;> exact wO_ [] (by simp [go_sem]) (by simp [go_sem]) (by simp [go_sem])
 clear h_os
 obtain ⟨hF,hO,hk,hn⟩:=hL
 obtain ⟨⟨a0,a1⟩,⟨a2,a3⟩,⟨a4,a5⟩,⟨a6,a7⟩,_⟩:=hO x (by simp)
 have i0:0<=x.item:=a2
 have i5:x.item.toNat < 8:=by omega
 have i8:x.item < 8:=by omega
 have i24:x.item<=24:=by omega
 have j24:8 + x.item.toNat<=24:=by omega
 have u0:0<=x.buyer:=a0
 have u5:x.buyer.toNat < 8:=by omega
 have u8:x.buyer < 8:=by omega
 have u24:x.buyer<=24:=by omega
 have v24:16 + x.buyer.toNat<=24:=by omega
 obtain ⟨f1,f2,f3,f4,_,_⟩:=hF x.item.toNat i5
 obtain ⟨_,_,_,_,f5,f6⟩:=hF x.buyer.toNat u5
 obtain ⟨m1,m2⟩:=mul_rng a4 a5 f3 f4
 refine aQ_ ?_
 iterate 4
  refine oC_ fun J hJ=>?_
  simp [go_sem]
  refine hJ _ _ _ ?_
  clear hJ J
 refine oN_ ?_
 refine aS_ fun K2 hK2=>?_
 rcases (show c.kind=4\/c.kind=5\/c.kind=6\/c.kind=7\/c.kind=8 by omega) with k | k | k | k | k
 ·
  have hn4:=hn k
  refine aR_ ?_
  iterate 3
   refine oC_ fun J hJ=>?_
   simp [go_sem]
   refine hJ _ _ _ ?_
   clear hJ J
  refine oN_ ?_
  refine hK2 _ ?_
  clear hK2
  refine aS_ fun K3 hK3=>?_
  refine aS_ fun K4 hK4=>?_
  by_cases s1:x.state=1
  ·
   refine aD_ ?_
   iterate 18
    refine oC_ fun J hJ=>?_
    simp [go_sem,k,s1]
    refine hJ _ _ _ ?_
    clear hJ J
   refine oN_ ?_
   refine ⟨rfl,?_⟩
   refine hK4 _ ?_
   clear hK4
   refine aF_ rfl ?_
   refine aK_ ?_
   refine hK3 _ ?_
   clear hK3
   refine aS_ fun K7 hK7=>?_
   refine aS_ fun K8 hK8=>?_
   by_cases z1:b.st.at x.item.toNat < c.n - x.qty
   ·
    have hr:aboutR b c x=11:=by unfold aboutR; simp [k,s1,z1]
    refine aD_ ?_
    iterate 16
     refine oC_ fun J hJ=>?_
     simp [go_sem,k,i0,i5,i8,i24,j24,u0,u5,u8,u24,v24,z1,wA_ (n:=c.n - x.qty) (by omega)]
     refine hJ _ _ _ ?_
     clear hJ J
    refine oN_ ?_
    refine ⟨rfl,?_⟩
    refine hK8 _ ?_
    clear hK8
    refine aT_ rfl ?_
    refine aQ_ ?_
    iterate 1
     refine oC_ fun J hJ=>?_
     simp [go_sem]
     refine hJ _ _ _ ?_
     clear hJ J
    refine oN_ ?_
    refine aE_ ?_
    refine fQ_ [] ?_
    simp [go_sem,Tryz.f82,hr]
   ·
    refine aD_ ?_
    iterate 16
     refine oC_ fun J hJ=>?_
     simp [go_sem,k,i0,i5,i8,i24,j24,u0,u5,u8,u24,v24,z1,wA_ (n:=c.n - x.qty) (by omega)]
     refine hJ _ _ _ ?_
     clear hJ J
    refine oN_ ?_
    refine ⟨rfl,?_⟩
    refine hK8 _ ?_
    clear hK8
    refine aF_ rfl ?_
    refine aK_ ?_
    refine hK7 _ ?_
    clear hK7
    refine aS_ fun K11 hK11=>?_
    refine aS_ fun K12 hK12=>?_
    by_cases z2:1099511627776 < b.st.at x.item.toNat + x.qty - c.n
    ·
     have hr:aboutR b c x=7:=by unfold aboutR; simp [k,s1,z1,z2]
     refine aD_ ?_
     iterate 17
      refine oC_ fun J hJ=>?_
      simp [go_sem,k,i0,i5,i8,i24,j24,u0,u5,u8,u24,v24,z2,wA_ (n:=b.st.at x.item.toNat + x.qty) (by omega),wA_ (n:=b.st.at x.item.toNat + x.qty - c.n) (by omega)]
      refine hJ _ _ _ ?_
      clear hJ J
     refine oN_ ?_
     refine ⟨rfl,?_⟩
     refine hK12 _ ?_
     clear hK12
     refine aT_ rfl ?_
     refine aQ_ ?_
     iterate 1
      refine oC_ fun J hJ=>?_
      simp [go_sem]
      refine hJ _ _ _ ?_
      clear hJ J
     refine oN_ ?_
     refine aE_ ?_
     refine fQ_ [] ?_
     simp [go_sem,Tryz.f82,hr]
    ·
     have hr:aboutR b c x=0:=by unfold aboutR; simp [k,s1,z1,z2]
     refine aD_ ?_
     iterate 17
      refine oC_ fun J hJ=>?_
      simp [go_sem,k,i0,i5,i8,i24,j24,u0,u5,u8,u24,v24,z2,wA_ (n:=b.st.at x.item.toNat + x.qty) (by omega),wA_ (n:=b.st.at x.item.toNat + x.qty - c.n) (by omega)]
      refine hJ _ _ _ ?_
      clear hJ J
     refine oN_ ?_
     refine ⟨rfl,?_⟩
     refine hK12 _ ?_
     clear hK12
     refine aF_ rfl ?_
     refine aK_ ?_
     refine hK11 _ ?_
     clear hK11
     refine aS_ fun K15 hK15=>?_
     refine aU_ ?_
     iterate 30
      refine oC_ fun J hJ=>?_
      simp [go_sem,k]
      refine hJ _ _ _ ?_
      clear hJ J
     refine oN_ ?_
     refine ⟨rfl,?_⟩
     refine aF_ rfl ?_
     refine aK_ ?_
     refine hK15 _ ?_
     clear hK15
     refine aS_ fun K19 hK19=>?_
     refine aU_ ?_
     iterate 14
      refine oC_ fun J hJ=>?_
      simp [go_sem,k]
      refine hJ _ _ _ ?_
      clear hJ J
     refine oN_ ?_
     refine ⟨rfl,?_⟩
     refine aF_ rfl ?_
     refine aK_ ?_
     refine hK19 _ ?_
     clear hK19
     refine aS_ fun K23 hK23=>?_
     refine aU_ ?_
     iterate 19
      refine oC_ fun J hJ=>?_
      simp [go_sem,k]
      refine hJ _ _ _ ?_
      clear hJ J
     refine oN_ ?_
     refine ⟨rfl,?_⟩
     refine aF_ rfl ?_
     refine aK_ ?_
     refine hK23 _ ?_
     clear hK23
     refine aS_ fun K27 hK27=>?_
     refine aU_ ?_
     iterate 14
      refine oC_ fun J hJ=>?_
      simp [go_sem,k]
      refine hJ _ _ _ ?_
      clear hJ J
     refine oN_ ?_
     refine ⟨rfl,?_⟩
     refine aF_ rfl ?_
     refine aK_ ?_
     refine hK27 _ ?_
     clear hK27
     refine aQ_ ?_
     iterate 1
      refine oC_ fun J hJ=>?_
      simp [go_sem]
      refine hJ _ _ _ ?_
      clear hJ J
     refine oN_ ?_
     refine aE_ ?_
     refine fQ_ [] ?_
     simp [go_sem,Tryz.f82,hr]
  ·
   have hr:aboutR b c x=9:=by unfold aboutR; simp [k,s1]
   have y1:(x.state != 1)=true:=by simpa using s1
   refine aD_ ?_
   iterate 18
    refine oC_ fun J hJ=>?_
    simp [go_sem,k,s1,y1]
    refine hJ _ _ _ ?_
    clear hJ J
   refine oN_ ?_
   refine ⟨rfl,?_⟩
   refine hK4 _ ?_
   clear hK4
   refine aT_ rfl ?_
   refine aQ_ ?_
   iterate 1
    refine oC_ fun J hJ=>?_
    simp [go_sem]
    refine hJ _ _ _ ?_
    clear hJ J
   refine oN_ ?_
   refine aE_ ?_
   refine fQ_ [] ?_
   simp [go_sem,Tryz.f82,hr]
 ·
  refine aR_ ?_
  iterate 3
   refine oC_ fun J hJ=>?_
   simp [go_sem]
   refine hJ _ _ _ ?_
   clear hJ J
  refine oN_ ?_
  refine hK2 _ ?_
  clear hK2
  refine aS_ fun K3 hK3=>?_
  refine aS_ fun K4 hK4=>?_
  rcases (show x.state=1\/x.state=2\/(¬ x.state=1/\¬ x.state=2) by omega) with s1 | s2 | ⟨s1,s2⟩
  ·
   refine aD_ ?_
   iterate 18
    refine oC_ fun J hJ=>?_
    simp [go_sem,k,s1]
    refine hJ _ _ _ ?_
    clear hJ J
   refine oN_ ?_
   refine ⟨rfl,?_⟩
   refine hK4 _ ?_
   clear hK4
   refine aF_ rfl ?_
   refine aK_ ?_
   refine hK3 _ ?_
   clear hK3
   refine aS_ fun K7 hK7=>?_
   refine aU_ ?_
   iterate 16
    refine oC_ fun J hJ=>?_
    simp [go_sem,k]
    refine hJ _ _ _ ?_
    clear hJ J
   refine oN_ ?_
   refine ⟨rfl,?_⟩
   refine aF_ rfl ?_
   refine aK_ ?_
   refine hK7 _ ?_
   clear hK7
   refine aS_ fun K11 hK11=>?_
   refine aU_ ?_
   iterate 17
    refine oC_ fun J hJ=>?_
    simp [go_sem,k]
    refine hJ _ _ _ ?_
    clear hJ J
   refine oN_ ?_
   refine ⟨rfl,?_⟩
   refine aF_ rfl ?_
   refine aK_ ?_
   refine hK11 _ ?_
   clear hK11
   refine aS_ fun K15 hK15=>?_
   refine aS_ fun K16 hK16=>?_
   by_cases z1:1099511627776 < b.st.at x.item.toNat + x.qty
   ·
    have hr:aboutR b c x=7:=by unfold aboutR; simp [k,s1,z1]
    refine aD_ ?_
    iterate 30
     refine oC_ fun J hJ=>?_
     simp [go_sem,k,s1,i0,i5,i8,i24,j24,u0,u5,u8,u24,v24,z1,wA_ (n:=b.st.at x.item.toNat + x.qty) (by omega)]
     refine hJ _ _ _ ?_
     clear hJ J
    refine oN_ ?_
    refine ⟨rfl,?_⟩
    refine hK16 _ ?_
    clear hK16
    refine aT_ rfl ?_
    refine aQ_ ?_
    iterate 1
     refine oC_ fun J hJ=>?_
     simp [go_sem]
     refine hJ _ _ _ ?_
     clear hJ J
    refine oN_ ?_
    refine aE_ ?_
    refine fQ_ [] ?_
    simp [go_sem,Tryz.f82,hr]
   ·
    have hr:aboutR b c x=0:=by unfold aboutR; simp [k,s1,z1]
    refine aD_ ?_
    iterate 30
     refine oC_ fun J hJ=>?_
     simp [go_sem,k,s1,i0,i5,i8,i24,j24,u0,u5,u8,u24,v24,z1,wA_ (n:=b.st.at x.item.toNat + x.qty) (by omega)]
     refine hJ _ _ _ ?_
     clear hJ J
    refine oN_ ?_
    refine ⟨rfl,?_⟩
    refine hK16 _ ?_
    clear hK16
    refine aF_ rfl ?_
    refine aK_ ?_
    refine hK15 _ ?_
    clear hK15
    refine aS_ fun K19 hK19=>?_
    refine aU_ ?_
    iterate 14
     refine oC_ fun J hJ=>?_
     simp [go_sem,k]
     refine hJ _ _ _ ?_
     clear hJ J
    refine oN_ ?_
    refine ⟨rfl,?_⟩
    refine aF_ rfl ?_
    refine aK_ ?_
    refine hK19 _ ?_
    clear hK19
    refine aS_ fun K23 hK23=>?_
    refine aU_ ?_
    iterate 19
     refine oC_ fun J hJ=>?_
     simp [go_sem,k]
     refine hJ _ _ _ ?_
     clear hJ J
    refine oN_ ?_
    refine ⟨rfl,?_⟩
    refine aF_ rfl ?_
    refine aK_ ?_
    refine hK23 _ ?_
    clear hK23
    refine aS_ fun K27 hK27=>?_
    refine aU_ ?_
    iterate 14
     refine oC_ fun J hJ=>?_
     simp [go_sem,k]
     refine hJ _ _ _ ?_
     clear hJ J
    refine oN_ ?_
    refine ⟨rfl,?_⟩
    refine aF_ rfl ?_
    refine aK_ ?_
    refine hK27 _ ?_
    clear hK27
    refine aQ_ ?_
    iterate 1
     refine oC_ fun J hJ=>?_
     simp [go_sem]
     refine hJ _ _ _ ?_
     clear hJ J
    refine oN_ ?_
    refine aE_ ?_
    refine fQ_ [] ?_
    simp [go_sem,Tryz.f82,hr]
  ·
   refine aD_ ?_
   iterate 18
    refine oC_ fun J hJ=>?_
    simp [go_sem,k,s2]
    refine hJ _ _ _ ?_
    clear hJ J
   refine oN_ ?_
   refine ⟨rfl,?_⟩
   refine hK4 _ ?_
   clear hK4
   refine aF_ rfl ?_
   refine aK_ ?_
   refine hK3 _ ?_
   clear hK3
   refine aS_ fun K7 hK7=>?_
   refine aU_ ?_
   iterate 16
    refine oC_ fun J hJ=>?_
    simp [go_sem,k]
    refine hJ _ _ _ ?_
    clear hJ J
   refine oN_ ?_
   refine ⟨rfl,?_⟩
   refine aF_ rfl ?_
   refine aK_ ?_
   refine hK7 _ ?_
   clear hK7
   refine aS_ fun K11 hK11=>?_
   refine aU_ ?_
   iterate 17
    refine oC_ fun J hJ=>?_
    simp [go_sem,k]
    refine hJ _ _ _ ?_
    clear hJ J
   refine oN_ ?_
   refine ⟨rfl,?_⟩
   refine aF_ rfl ?_
   refine aK_ ?_
   refine hK11 _ ?_
   clear hK11
   refine aS_ fun K15 hK15=>?_
   refine aS_ fun K16 hK16=>?_
   rcases (show 1099511627776 < b.st.at x.item.toNat + x.qty\/(¬ 1099511627776 < b.st.at x.item.toNat + x.qty/\1099511627776 < b.pu.at x.buyer.toNat + x.cost)\/(¬ 1099511627776 < b.st.at x.item.toNat + x.qty/\¬ 1099511627776 < b.pu.at x.buyer.toNat + x.cost) by omega) with z1 | ⟨z1,z2⟩ | ⟨z1,z2⟩
   ·
    have hr:aboutR b c x=7:=by unfold aboutR; simp [k,s2,z1]
    refine aD_ ?_
    iterate 30
     refine oC_ fun J hJ=>?_
     simp [go_sem,k,s2,i0,i5,i8,i24,j24,u0,u5,u8,u24,v24,z1,wA_ (n:=b.st.at x.item.toNat + x.qty) (by omega)]
     refine hJ _ _ _ ?_
     clear hJ J
    refine oN_ ?_
    refine ⟨rfl,?_⟩
    refine hK16 _ ?_
    clear hK16
    refine aT_ rfl ?_
    refine aQ_ ?_
    iterate 1
     refine oC_ fun J hJ=>?_
     simp [go_sem]
     refine hJ _ _ _ ?_
     clear hJ J
    refine oN_ ?_
    refine aE_ ?_
    refine fQ_ [] ?_
    simp [go_sem,Tryz.f82,hr]
   ·
    have hr:aboutR b c x=7:=by unfold aboutR; simp [k,s2,z1,z2]
    refine aD_ ?_
    iterate 30
     refine oC_ fun J hJ=>?_
     simp [go_sem,k,s2,i0,i5,i8,i24,j24,u0,u5,u8,u24,v24,z1,z2,wA_ (n:=b.st.at x.item.toNat + x.qty) (by omega),wA_ (n:=b.pu.at x.buyer.toNat + x.cost) (by omega)]
     refine hJ _ _ _ ?_
     clear hJ J
    refine oN_ ?_
    refine ⟨rfl,?_⟩
    refine hK16 _ ?_
    clear hK16
    refine aT_ rfl ?_
    refine aQ_ ?_
    iterate 1
     refine oC_ fun J hJ=>?_
     simp [go_sem]
     refine hJ _ _ _ ?_
     clear hJ J
    refine oN_ ?_
    refine aE_ ?_
    refine fQ_ [] ?_
    simp [go_sem,Tryz.f82,hr]
   ·
    have hr:aboutR b c x=0:=by unfold aboutR; simp [k,s2,z1,z2]
    refine aD_ ?_
    iterate 30
     refine oC_ fun J hJ=>?_
     simp [go_sem,k,s2,i0,i5,i8,i24,j24,u0,u5,u8,u24,v24,z1,z2,wA_ (n:=b.st.at x.item.toNat + x.qty) (by omega),wA_ (n:=b.pu.at x.buyer.toNat + x.cost) (by omega)]
     refine hJ _ _ _ ?_
     clear hJ J
    refine oN_ ?_
    refine ⟨rfl,?_⟩
    refine hK16 _ ?_
    clear hK16
    refine aF_ rfl ?_
    refine aK_ ?_
    refine hK15 _ ?_
    clear hK15
    refine aS_ fun K19 hK19=>?_
    refine aU_ ?_
    iterate 14
     refine oC_ fun J hJ=>?_
     simp [go_sem,k]
     refine hJ _ _ _ ?_
     clear hJ J
    refine oN_ ?_
    refine ⟨rfl,?_⟩
    refine aF_ rfl ?_
    refine aK_ ?_
    refine hK19 _ ?_
    clear hK19
    refine aS_ fun K23 hK23=>?_
    refine aU_ ?_
    iterate 19
     refine oC_ fun J hJ=>?_
     simp [go_sem,k]
     refine hJ _ _ _ ?_
     clear hJ J
    refine oN_ ?_
    refine ⟨rfl,?_⟩
    refine aF_ rfl ?_
    refine aK_ ?_
    refine hK23 _ ?_
    clear hK23
    refine aS_ fun K27 hK27=>?_
    refine aU_ ?_
    iterate 14
     refine oC_ fun J hJ=>?_
     simp [go_sem,k]
     refine hJ _ _ _ ?_
     clear hJ J
    refine oN_ ?_
    refine ⟨rfl,?_⟩
    refine aF_ rfl ?_
    refine aK_ ?_
    refine hK27 _ ?_
    clear hK27
    refine aQ_ ?_
    iterate 1
     refine oC_ fun J hJ=>?_
     simp [go_sem]
     refine hJ _ _ _ ?_
     clear hJ J
    refine oN_ ?_
    refine aE_ ?_
    refine fQ_ [] ?_
    simp [go_sem,Tryz.f82,hr]
  ·
   have y1:(x.state != 1)=true:=by simpa using s1
   have y2:(x.state == 2)=false:=by simpa using s2
   have hr:aboutR b c x=9:=by unfold aboutR; simp [k,s1,s2]
   refine aD_ ?_
   iterate 18
    refine oC_ fun J hJ=>?_
    simp [go_sem,k,y1,y2]
    refine hJ _ _ _ ?_
    clear hJ J
   refine oN_ ?_
   refine ⟨rfl,?_⟩
   refine hK4 _ ?_
   clear hK4
   refine aT_ rfl ?_
   refine aQ_ ?_
   iterate 1
    refine oC_ fun J hJ=>?_
    simp [go_sem]
    refine hJ _ _ _ ?_
    clear hJ J
   refine oN_ ?_
   refine aE_ ?_
   refine fQ_ [] ?_
   simp [go_sem,Tryz.f82,hr]
 ·
  refine aR_ ?_
  iterate 3
   refine oC_ fun J hJ=>?_
   simp [go_sem]
   refine hJ _ _ _ ?_
   clear hJ J
  refine oN_ ?_
  refine hK2 _ ?_
  clear hK2
  refine aS_ fun K3 hK3=>?_
  refine aS_ fun K4 hK4=>?_
  by_cases s1:x.state=1
  ·
   refine aD_ ?_
   iterate 18
    refine oC_ fun J hJ=>?_
    simp [go_sem,k,s1]
    refine hJ _ _ _ ?_
    clear hJ J
   refine oN_ ?_
   refine ⟨rfl,?_⟩
   refine hK4 _ ?_
   clear hK4
   refine aF_ rfl ?_
   refine aK_ ?_
   refine hK3 _ ?_
   clear hK3
   refine aS_ fun K7 hK7=>?_
   refine aU_ ?_
   iterate 16
    refine oC_ fun J hJ=>?_
    simp [go_sem,k]
    refine hJ _ _ _ ?_
    clear hJ J
   refine oN_ ?_
   refine ⟨rfl,?_⟩
   refine aF_ rfl ?_
   refine aK_ ?_
   refine hK7 _ ?_
   clear hK7
   refine aS_ fun K11 hK11=>?_
   refine aU_ ?_
   iterate 17
    refine oC_ fun J hJ=>?_
    simp [go_sem,k]
    refine hJ _ _ _ ?_
    clear hJ J
   refine oN_ ?_
   refine ⟨rfl,?_⟩
   refine aF_ rfl ?_
   refine aK_ ?_
   refine hK11 _ ?_
   clear hK11
   refine aS_ fun K15 hK15=>?_
   refine aU_ ?_
   iterate 30
    refine oC_ fun J hJ=>?_
    simp [go_sem,k]
    refine hJ _ _ _ ?_
    clear hJ J
   refine oN_ ?_
   refine ⟨rfl,?_⟩
   refine aF_ rfl ?_
   refine aK_ ?_
   refine hK15 _ ?_
   clear hK15
   refine aS_ fun K19 hK19=>?_
   refine aS_ fun K20 hK20=>?_
   by_cases z1:1099511627776 < x.qty * b.pr.at x.item.toNat
   ·
    have hr:aboutR b c x=7:=by unfold aboutR; simp [k,s1,z1]
    refine aD_ ?_
    iterate 14
     refine oC_ fun J hJ=>?_
     simp [go_sem,k,i0,i5,i8,i24,j24,u0,u5,u8,u24,v24,z1,wA_ (n:=x.qty * b.pr.at x.item.toNat) (by omega)]
     refine hJ _ _ _ ?_
     clear hJ J
    refine oN_ ?_
    refine ⟨rfl,?_⟩
    refine hK20 _ ?_
    clear hK20
    refine aT_ rfl ?_
    refine aQ_ ?_
    iterate 1
     refine oC_ fun J hJ=>?_
     simp [go_sem]
     refine hJ _ _ _ ?_
     clear hJ J
    refine oN_ ?_
    refine aE_ ?_
    refine fQ_ [] ?_
    simp [go_sem,Tryz.f82,hr]
   ·
    refine aD_ ?_
    iterate 14
     refine oC_ fun J hJ=>?_
     simp [go_sem,k,i0,i5,i8,i24,j24,u0,u5,u8,u24,v24,z1,wA_ (n:=x.qty * b.pr.at x.item.toNat) (by omega)]
     refine hJ _ _ _ ?_
     clear hJ J
    refine oN_ ?_
    refine ⟨rfl,?_⟩
    refine hK20 _ ?_
    clear hK20
    refine aF_ rfl ?_
    refine aK_ ?_
    refine hK19 _ ?_
    clear hK19
    refine aS_ fun K23 hK23=>?_
    refine aS_ fun K24 hK24=>?_
    by_cases z2:b.pu.at x.buyer.toNat < x.qty * b.pr.at x.item.toNat
    ·
     have hr:aboutR b c x=11:=by unfold aboutR; simp [k,s1,z1,z2]
     refine aD_ ?_
     iterate 19
      refine oC_ fun J hJ=>?_
      simp [go_sem,k,i0,i5,i8,i24,j24,u0,u5,u8,u24,v24,z2,wA_ (n:=x.qty * b.pr.at x.item.toNat) (by omega)]
      refine hJ _ _ _ ?_
      clear hJ J
     refine oN_ ?_
     refine ⟨rfl,?_⟩
     refine hK24 _ ?_
     clear hK24
     refine aT_ rfl ?_
     refine aQ_ ?_
     iterate 1
      refine oC_ fun J hJ=>?_
      simp [go_sem]
      refine hJ _ _ _ ?_
      clear hJ J
     refine oN_ ?_
     refine aE_ ?_
     refine fQ_ [] ?_
     simp [go_sem,Tryz.f82,hr]
    ·
     have hr:aboutR b c x=0:=by unfold aboutR; simp [k,s1,z1,z2]
     refine aD_ ?_
     iterate 19
      refine oC_ fun J hJ=>?_
      simp [go_sem,k,i0,i5,i8,i24,j24,u0,u5,u8,u24,v24,z2,wA_ (n:=x.qty * b.pr.at x.item.toNat) (by omega)]
      refine hJ _ _ _ ?_
      clear hJ J
     refine oN_ ?_
     refine ⟨rfl,?_⟩
     refine hK24 _ ?_
     clear hK24
     refine aF_ rfl ?_
     refine aK_ ?_
     refine hK23 _ ?_
     clear hK23
     refine aS_ fun K27 hK27=>?_
     refine aU_ ?_
     iterate 14
      refine oC_ fun J hJ=>?_
      simp [go_sem,k]
      refine hJ _ _ _ ?_
      clear hJ J
     refine oN_ ?_
     refine ⟨rfl,?_⟩
     refine aF_ rfl ?_
     refine aK_ ?_
     refine hK27 _ ?_
     clear hK27
     refine aQ_ ?_
     iterate 1
      refine oC_ fun J hJ=>?_
      simp [go_sem]
      refine hJ _ _ _ ?_
      clear hJ J
     refine oN_ ?_
     refine aE_ ?_
     refine fQ_ [] ?_
     simp [go_sem,Tryz.f82,hr]
  ·
   have hr:aboutR b c x=9:=by unfold aboutR; simp [k,s1]
   have y1:(x.state != 1)=true:=by simpa using s1
   refine aD_ ?_
   iterate 18
    refine oC_ fun J hJ=>?_
    simp [go_sem,k,y1]
    refine hJ _ _ _ ?_
    clear hJ J
   refine oN_ ?_
   refine ⟨rfl,?_⟩
   refine hK4 _ ?_
   clear hK4
   refine aT_ rfl ?_
   refine aQ_ ?_
   iterate 1
    refine oC_ fun J hJ=>?_
    simp [go_sem]
    refine hJ _ _ _ ?_
    clear hJ J
   refine oN_ ?_
   refine aE_ ?_
   refine fQ_ [] ?_
   simp [go_sem,Tryz.f82,hr]
 ·
  refine aR_ ?_
  iterate 3
   refine oC_ fun J hJ=>?_
   simp [go_sem]
   refine hJ _ _ _ ?_
   clear hJ J
  refine oN_ ?_
  refine hK2 _ ?_
  clear hK2
  refine aS_ fun K3 hK3=>?_
  refine aS_ fun K4 hK4=>?_
  by_cases s1:x.state=2
  ·
   have hr:aboutR b c x=0:=by unfold aboutR; simp [k,s1]
   refine aD_ ?_
   iterate 18
    refine oC_ fun J hJ=>?_
    simp [go_sem,k,s1]
    refine hJ _ _ _ ?_
    clear hJ J
   refine oN_ ?_
   refine ⟨rfl,?_⟩
   refine hK4 _ ?_
   clear hK4
   refine aF_ rfl ?_
   refine aK_ ?_
   refine hK3 _ ?_
   clear hK3
   refine aS_ fun K7 hK7=>?_
   refine aU_ ?_
   iterate 16
    refine oC_ fun J hJ=>?_
    simp [go_sem,k]
    refine hJ _ _ _ ?_
    clear hJ J
   refine oN_ ?_
   refine ⟨rfl,?_⟩
   refine aF_ rfl ?_
   refine aK_ ?_
   refine hK7 _ ?_
   clear hK7
   refine aS_ fun K11 hK11=>?_
   refine aU_ ?_
   iterate 17
    refine oC_ fun J hJ=>?_
    simp [go_sem,k]
    refine hJ _ _ _ ?_
    clear hJ J
   refine oN_ ?_
   refine ⟨rfl,?_⟩
   refine aF_ rfl ?_
   refine aK_ ?_
   refine hK11 _ ?_
   clear hK11
   refine aS_ fun K15 hK15=>?_
   refine aU_ ?_
   iterate 30
    refine oC_ fun J hJ=>?_
    simp [go_sem,k]
    refine hJ _ _ _ ?_
    clear hJ J
   refine oN_ ?_
   refine ⟨rfl,?_⟩
   refine aF_ rfl ?_
   refine aK_ ?_
   refine hK15 _ ?_
   clear hK15
   refine aS_ fun K19 hK19=>?_
   refine aU_ ?_
   iterate 14
    refine oC_ fun J hJ=>?_
    simp [go_sem,k]
    refine hJ _ _ _ ?_
    clear hJ J
   refine oN_ ?_
   refine ⟨rfl,?_⟩
   refine aF_ rfl ?_
   refine aK_ ?_
   refine hK19 _ ?_
   clear hK19
   refine aS_ fun K23 hK23=>?_
   refine aU_ ?_
   iterate 19
    refine oC_ fun J hJ=>?_
    simp [go_sem,k]
    refine hJ _ _ _ ?_
    clear hJ J
   refine oN_ ?_
   refine ⟨rfl,?_⟩
   refine aF_ rfl ?_
   refine aK_ ?_
   refine hK23 _ ?_
   clear hK23
   refine aS_ fun K27 hK27=>?_
   refine aU_ ?_
   iterate 14
    refine oC_ fun J hJ=>?_
    simp [go_sem,k]
    refine hJ _ _ _ ?_
    clear hJ J
   refine oN_ ?_
   refine ⟨rfl,?_⟩
   refine aF_ rfl ?_
   refine aK_ ?_
   refine hK27 _ ?_
   clear hK27
   refine aQ_ ?_
   iterate 1
    refine oC_ fun J hJ=>?_
    simp [go_sem]
    refine hJ _ _ _ ?_
    clear hJ J
   refine oN_ ?_
   refine aE_ ?_
   refine fQ_ [] ?_
   simp [go_sem,Tryz.f82,hr]
  ·
   have hr:aboutR b c x=9:=by unfold aboutR; simp [k,s1]
   have y1:(x.state != 2)=true:=by simpa using s1
   refine aD_ ?_
   iterate 18
    refine oC_ fun J hJ=>?_
    simp [go_sem,k,y1]
    refine hJ _ _ _ ?_
    clear hJ J
   refine oN_ ?_
   refine ⟨rfl,?_⟩
   refine hK4 _ ?_
   clear hK4
   refine aT_ rfl ?_
   refine aQ_ ?_
   iterate 1
    refine oC_ fun J hJ=>?_
    simp [go_sem]
    refine hJ _ _ _ ?_
    clear hJ J
   refine oN_ ?_
   refine aE_ ?_
   refine fQ_ [] ?_
   simp [go_sem,Tryz.f82,hr]
 ·
  refine aR_ ?_
  iterate 3
   refine oC_ fun J hJ=>?_
   simp [go_sem]
   refine hJ _ _ _ ?_
   clear hJ J
  refine oN_ ?_
  refine hK2 _ ?_
  clear hK2
  refine aS_ fun K3 hK3=>?_
  refine aS_ fun K4 hK4=>?_
  by_cases s1:x.state=3
  ·
   refine aD_ ?_
   iterate 18
    refine oC_ fun J hJ=>?_
    simp [go_sem,k,s1]
    refine hJ _ _ _ ?_
    clear hJ J
   refine oN_ ?_
   refine ⟨rfl,?_⟩
   refine hK4 _ ?_
   clear hK4
   refine aF_ rfl ?_
   refine aK_ ?_
   refine hK3 _ ?_
   clear hK3
   refine aS_ fun K7 hK7=>?_
   refine aU_ ?_
   iterate 16
    refine oC_ fun J hJ=>?_
    simp [go_sem,k]
    refine hJ _ _ _ ?_
    clear hJ J
   refine oN_ ?_
   refine ⟨rfl,?_⟩
   refine aF_ rfl ?_
   refine aK_ ?_
   refine hK7 _ ?_
   clear hK7
   refine aS_ fun K11 hK11=>?_
   refine aU_ ?_
   iterate 17
    refine oC_ fun J hJ=>?_
    simp [go_sem,k]
    refine hJ _ _ _ ?_
    clear hJ J
   refine oN_ ?_
   refine ⟨rfl,?_⟩
   refine aF_ rfl ?_
   refine aK_ ?_
   refine hK11 _ ?_
   clear hK11
   refine aS_ fun K15 hK15=>?_
   refine aU_ ?_
   iterate 30
    refine oC_ fun J hJ=>?_
    simp [go_sem,k]
    refine hJ _ _ _ ?_
    clear hJ J
   refine oN_ ?_
   refine ⟨rfl,?_⟩
   refine aF_ rfl ?_
   refine aK_ ?_
   refine hK15 _ ?_
   clear hK15
   refine aS_ fun K19 hK19=>?_
   refine aU_ ?_
   iterate 14
    refine oC_ fun J hJ=>?_
    simp [go_sem,k]
    refine hJ _ _ _ ?_
    clear hJ J
   refine oN_ ?_
   refine ⟨rfl,?_⟩
   refine aF_ rfl ?_
   refine aK_ ?_
   refine hK19 _ ?_
   clear hK19
   refine aS_ fun K23 hK23=>?_
   refine aU_ ?_
   iterate 19
    refine oC_ fun J hJ=>?_
    simp [go_sem,k]
    refine hJ _ _ _ ?_
    clear hJ J
   refine oN_ ?_
   refine ⟨rfl,?_⟩
   refine aF_ rfl ?_
   refine aK_ ?_
   refine hK23 _ ?_
   clear hK23
   refine aS_ fun K27 hK27=>?_
   refine aS_ fun K28 hK28=>?_
   by_cases z1:1099511627776 < b.pu.at x.buyer.toNat + x.cost
   ·
    have hr:aboutR b c x=7:=by unfold aboutR; simp [k,s1,z1]
    refine aD_ ?_
    iterate 14
     refine oC_ fun J hJ=>?_
     simp [go_sem,k,i0,i5,i8,i24,j24,u0,u5,u8,u24,v24,z1,wA_ (n:=b.pu.at x.buyer.toNat + x.cost) (by omega)]
     refine hJ _ _ _ ?_
     clear hJ J
    refine oN_ ?_
    refine ⟨rfl,?_⟩
    refine hK28 _ ?_
    clear hK28
    refine aT_ rfl ?_
    refine aQ_ ?_
    iterate 1
     refine oC_ fun J hJ=>?_
     simp [go_sem]
     refine hJ _ _ _ ?_
     clear hJ J
    refine oN_ ?_
    refine aE_ ?_
    refine fQ_ [] ?_
    simp [go_sem,Tryz.f82,hr]
   ·
    have hr:aboutR b c x=0:=by unfold aboutR; simp [k,s1,z1]
    refine aD_ ?_
    iterate 14
     refine oC_ fun J hJ=>?_
     simp [go_sem,k,i0,i5,i8,i24,j24,u0,u5,u8,u24,v24,z1,wA_ (n:=b.pu.at x.buyer.toNat + x.cost) (by omega)]
     refine hJ _ _ _ ?_
     clear hJ J
    refine oN_ ?_
    refine ⟨rfl,?_⟩
    refine hK28 _ ?_
    clear hK28
    refine aF_ rfl ?_
    refine aK_ ?_
    refine hK27 _ ?_
    clear hK27
    refine aQ_ ?_
    iterate 1
     refine oC_ fun J hJ=>?_
     simp [go_sem]
     refine hJ _ _ _ ?_
     clear hJ J
    refine oN_ ?_
    refine aE_ ?_
    refine fQ_ [] ?_
    simp [go_sem,Tryz.f82,hr]
  ·
   have hr:aboutR b c x=9:=by unfold aboutR; simp [k,s1]
   have y1:(x.state != 3)=true:=by simpa using s1
   refine aD_ ?_
   iterate 18
    refine oC_ fun J hJ=>?_
    simp [go_sem,k,y1]
    refine hJ _ _ _ ?_
    clear hJ J
   refine oN_ ?_
   refine ⟨rfl,?_⟩
   refine hK4 _ ?_
   clear hK4
   refine aT_ rfl ?_
   refine aQ_ ?_
   iterate 1
    refine oC_ fun J hJ=>?_
    simp [go_sem]
    refine hJ _ _ _ ?_
    clear hJ J
   refine oN_ ?_
   refine aE_ ?_
   refine fQ_ [] ?_
   simp [go_sem,Tryz.f82,hr]
theorem fairO_one {os:List Ord} {x:Ord} (h:FairO os) (hm:x ∈ os):FairO [x]:=fun o ho=>by rw [List.mem_singleton.1 ho]; exact h x hm
theorem cBk_leaf (b:Bk) (k:Nat) (L:List (List AV)):(cBk b (.sl k L)).map leafV=cBk b (.sl k L):=by
 rw [cBk_map b (.sl k L) leafV (fun _=>rfl)]
 rfl
def codeR (b:Bk) (os:List Ord) (c:Chg):Int:=
 if c.kind=1 then addR b.st c.a c.n
 else if c.kind=2 then addR b.pu c.a c.n
 else if c.kind=3 then placeR b os c
 else if c.kind=9 then (if 0<=c.a/\c.a<=7/\0<=c.n/\c.n<=1073741824 then 0 else 4)
 else if c.kind < 4\/8 < c.kind then 12
 else if c.kind=4/\¬ (1<=c.n/\c.n<=1000) then 4
 else match findL os c.ref with
  | none=>14
  | some x=>aboutR b c x
structure code16X where
 b:Bk
 os:List Ord
 os':AV
 c:Chg
 h_os:SlA 7 cOrd os os'
 hL:FairB b/\FairO os/\os.length<=40000
noncomputable def code16S:HSpec:=mkH (ι:=code16X) (fun ⟨b,os,os',c,h_os,hL⟩=>([.agg (cBk b os'),.agg (cChg c)],[])) fun ⟨b,os,os',c,h_os,hL⟩=>⟨.int .i64 (codeR b os c),[],[]⟩
theorem code16S_atG (b:Bk) (os:List Ord) (os':AV) (c:Chg) (h_os:SlA 7 cOrd os os') (hL:FairB b/\FairO os/\os.length<=40000):code16S [.agg (cBk b os'),.agg (cChg c)] []=some (⟨.int .i64 (codeR b os c),[],[]⟩):=
 mA_ (ι:=code16X) (fun i j h=>by obtain ⟨b,os,os',c,h_os,hL⟩:=i; obtain ⟨b2,os2,os'2,c2,h_os2,hL2⟩:=j; simp [and_assoc,qB_,qI_,qO_,qC_,qE_,qK_,qR_,qV_,qP_,qOc_] at h; obtain ⟨rfl,rfl,rfl⟩:=h; obtain rfl:=SlA.inj (fun x y h=>cOrd_inj h) h_os h_os2; rfl) ⟨b,os,os',c,h_os,hL⟩
theorem code16S_at (b:Bk) (os:List Ord) (c:Chg) (hL:FairB b/\FairO os/\os.length<=40000):code16S [.agg (cBk b (.sl 7 (rows cOrd os))),.agg (cChg c)] []=some (⟨.int .i64 (codeR b os c),[],[]⟩):=code16S_atG b os _ c .sl hL
theorem code16_ok:HSound Tryz.prog 60 code16S:=by
 refine sE_ (fn:=Tryz.f60) rfl rfl (by kernel_rfl) fun args bx hr hS=>?_
 obtain ⟨⟨b,os,os',c,h_os,hL⟩,rfl,rfl,rfl⟩:=mO_ hS
 clear hS
 refine ⟨_,(eV_ (g:=79) (by kernel_rfl) add16_ok (eV_ (g:=80) (by kernel_rfl) place16_ok (eV_ (g:=81) (by kernel_rfl) findRf_ok (eV_ (g:=82) (by kernel_rfl) about16_ok (eN_ _))))),by simp [Tryz.f60],by simp [go_sem],fun w Mx pin=>?_⟩
 simp only [hB_at,lab_nil,lab_cons,hOf_nil,hOf_cons]
 refine aW_ (s':=⟨ofL [(0,.agg (cBk b (.sl 7 (rows cOrd os)))),(1,.agg (cChg c))],hOf []⟩) ?_ ?_
 · cases h_os <;> exact wO_ [] (by simp [go_sem]) (by simp [go_sem]) (by simp [go_sem])
 clear h_os
 obtain ⟨hF,hO,hlen⟩:=hL
 have hpc:=place_cases os c.ref
 refine aQ_ ?_
 iterate 3
  refine oC_ fun J hJ=>?_
  simp [go_sem]
  refine hJ _ _ _ ?_
  clear hJ J
 refine oN_ ?_
 refine aS_ fun K2 hK2=>?_
 refine aQ_ ?_
 iterate 3
  refine oC_ fun J hJ=>?_
  simp [go_sem]
  refine hJ _ _ _ ?_
  clear hJ J
 refine oN_ ?_
 refine aC_ (t:=_) rfl (fun c4=>?_) (fun c4=>?_)
 ·
  simp [go_sem] at c4
  refine aS_ fun K5 hK5=>?_
  refine aW_ (s':=⟨ofL [(2,.iref (cBk b (.sl 7 (rows cOrd os))) 0),(3,.ref (0,48) 0)],hOf [((0,48),.obj (cChg c))]⟩) ?_ ?_
  · refine wO_ [((0,48),some (0,48))] (by simp [go_sem]) ?_ ?_ <;> simp [go_sem,cBk_leaf,dropped]
  have hr:codeR b os c=addR b.st c.a c.n:=by unfold codeR; rw [if_pos c4]
  refine aD_ ?_
  iterate 8
   refine oC_ fun J hJ=>?_
   simp [go_sem,add16S_at b.st c.a c.n (fun j hj=>⟨(hF j hj).1,(hF j hj).2.1⟩)]
   refine hJ _ _ _ ?_
   clear hJ J
  refine oN_ ?_
  refine ⟨rfl,?_⟩
  refine hK5 _ ?_
  clear hK5
  refine aE_ ?_
  refine fQ_ [] ?_
  simp [go_sem,Tryz.f60,hr]
 ·
  simp [go_sem] at c4
  refine aK_ ?_
  refine hK2 _ ?_
  clear hK2
  refine aS_ fun K6 hK6=>?_
  refine aQ_ ?_
  iterate 3
   refine oC_ fun J hJ=>?_
   simp [go_sem]
   refine hJ _ _ _ ?_
   clear hJ J
  refine oN_ ?_
  refine aC_ (t:=_) rfl (fun c8=>?_) (fun c8=>?_)
  ·
   simp [go_sem] at c8
   refine aS_ fun K9 hK9=>?_
   refine aW_ (s':=⟨ofL [(2,.iref (cBk b (.sl 7 (rows cOrd os))) 0),(3,.ref (0,48) 0)],hOf [((0,48),.obj (cChg c))]⟩) ?_ ?_
   · refine wO_ [((0,48),some (0,48))] (by simp [go_sem]) ?_ ?_ <;> simp [go_sem,cBk_leaf,dropped]
   have hr:codeR b os c=addR b.pu c.a c.n:=by unfold codeR; rw [if_neg c4,if_pos c8]
   refine aD_ ?_
   iterate 8
    refine oC_ fun J hJ=>?_
    simp [go_sem,add16S_at b.pu c.a c.n (fun j hj=>⟨(hF j hj).2.2.2.2.1,(hF j hj).2.2.2.2.2⟩)]
    refine hJ _ _ _ ?_
    clear hJ J
   refine oN_ ?_
   refine ⟨rfl,?_⟩
   refine hK9 _ ?_
   clear hK9
   refine aE_ ?_
   refine fQ_ [] ?_
   simp [go_sem,Tryz.f60,hr]
  ·
   simp [go_sem] at c8
   refine aK_ ?_
   refine hK6 _ ?_
   clear hK6
   refine aS_ fun K10 hK10=>?_
   refine aQ_ ?_
   iterate 3
    refine oC_ fun J hJ=>?_
    simp [go_sem]
    refine hJ _ _ _ ?_
    clear hJ J
   refine oN_ ?_
   refine aC_ (t:=_) rfl (fun c12=>?_) (fun c12=>?_)
   ·
    simp [go_sem] at c12
    refine aS_ fun K13 hK13=>?_
    have hr:codeR b os c=placeR b os c:=by unfold codeR; rw [if_neg c4,if_neg c8,if_pos c12]
    refine aR_ ?_
    iterate 4
     refine oC_ fun J hJ=>?_
     simp [go_sem,place16S_at b os c (by omega)]
     refine hJ _ _ _ ?_
     clear hJ J
    refine oN_ ?_
    refine hK13 _ ?_
    clear hK13
    refine aE_ ?_
    refine fQ_ [] ?_
    simp [go_sem,Tryz.f60,hr]
   ·
    simp [go_sem] at c12
    refine aK_ ?_
    refine hK10 _ ?_
    clear hK10
    refine aS_ fun K14 hK14=>?_
    refine aQ_ ?_
    iterate 3
     refine oC_ fun J hJ=>?_
     simp [go_sem]
     refine hJ _ _ _ ?_
     clear hJ J
    refine oN_ ?_
    refine aC_ (t:=_) rfl (fun c16=>?_) (fun c16=>?_)
    ·
     simp [go_sem] at c16
     refine aS_ fun K17 hK17=>?_
     refine aS_ fun K18 hK18=>?_
     by_cases x1:c.a < 0
     rotate_left
     by_cases x2:7 < c.a
     rotate_left
     by_cases x3:c.n < 0
     rotate_left
     by_cases x4:1073741824 < c.n
     rotate_left
     ·
      have hr:codeR b os c=0:=by unfold codeR; rw [if_neg c4,if_neg c8,if_neg c12,if_pos c16,if_pos (by omega)]
      refine aR_ ?_
      iterate 18
       refine oC_ fun J hJ=>?_
       simp [go_sem,x1,x2,x3,x4]
       refine hJ _ _ _ ?_
       clear hJ J
      refine oN_ ?_
      refine hK18 _ ?_
      clear hK18
      refine aF_ rfl ?_
      refine aK_ ?_
      refine hK17 _ ?_
      clear hK17
      refine aQ_ ?_
      iterate 1
       refine oC_ fun J hJ=>?_
       simp [go_sem]
       refine hJ _ _ _ ?_
       clear hJ J
      refine oN_ ?_
      refine aE_ ?_
      refine fQ_ [] ?_
      simp [go_sem,Tryz.f60,hr]
     ·
      have hr:codeR b os c=4:=by unfold codeR; rw [if_neg c4,if_neg c8,if_neg c12,if_pos c16,if_neg (by omega)]
      refine aR_ ?_
      iterate 18
       refine oC_ fun J hJ=>?_
       simp [go_sem,x1]
       refine hJ _ _ _ ?_
       clear hJ J
      refine oN_ ?_
      refine hK18 _ ?_
      clear hK18
      refine aT_ rfl ?_
      refine aQ_ ?_
      iterate 1
       refine oC_ fun J hJ=>?_
       simp [go_sem]
       refine hJ _ _ _ ?_
       clear hJ J
      refine oN_ ?_
      refine aE_ ?_
      refine fQ_ [] ?_
      simp [go_sem,Tryz.f60,hr]
     ·
      have hr:codeR b os c=4:=by unfold codeR; rw [if_neg c4,if_neg c8,if_neg c12,if_pos c16,if_neg (by omega)]
      refine aR_ ?_
      iterate 18
       refine oC_ fun J hJ=>?_
       simp [go_sem,x1,x2]
       refine hJ _ _ _ ?_
       clear hJ J
      refine oN_ ?_
      refine hK18 _ ?_
      clear hK18
      refine aT_ rfl ?_
      refine aQ_ ?_
      iterate 1
       refine oC_ fun J hJ=>?_
       simp [go_sem]
       refine hJ _ _ _ ?_
       clear hJ J
      refine oN_ ?_
      refine aE_ ?_
      refine fQ_ [] ?_
      simp [go_sem,Tryz.f60,hr]
     ·
      have hr:codeR b os c=4:=by unfold codeR; rw [if_neg c4,if_neg c8,if_neg c12,if_pos c16,if_neg (by omega)]
      refine aR_ ?_
      iterate 18
       refine oC_ fun J hJ=>?_
       simp [go_sem,x1,x2,x3]
       refine hJ _ _ _ ?_
       clear hJ J
      refine oN_ ?_
      refine hK18 _ ?_
      clear hK18
      refine aT_ rfl ?_
      refine aQ_ ?_
      iterate 1
       refine oC_ fun J hJ=>?_
       simp [go_sem]
       refine hJ _ _ _ ?_
       clear hJ J
      refine oN_ ?_
      refine aE_ ?_
      refine fQ_ [] ?_
      simp [go_sem,Tryz.f60,hr]
     ·
      have hr:codeR b os c=4:=by unfold codeR; rw [if_neg c4,if_neg c8,if_neg c12,if_pos c16,if_neg (by omega)]
      refine aR_ ?_
      iterate 18
       refine oC_ fun J hJ=>?_
       simp [go_sem,x1,x2,x3,x4]
       refine hJ _ _ _ ?_
       clear hJ J
      refine oN_ ?_
      refine hK18 _ ?_
      clear hK18
      refine aT_ rfl ?_
      refine aQ_ ?_
      iterate 1
       refine oC_ fun J hJ=>?_
       simp [go_sem]
       refine hJ _ _ _ ?_
       clear hJ J
      refine oN_ ?_
      refine aE_ ?_
      refine fQ_ [] ?_
      simp [go_sem,Tryz.f60,hr]
    ·
     simp [go_sem] at c16
     refine aK_ ?_
     refine hK14 _ ?_
     clear hK14
     refine aS_ fun K22 hK22=>?_
     refine aS_ fun K23 hK23=>?_
     by_cases x1:c.kind < 4
     rotate_left
     by_cases x2:8 < c.kind
     rotate_left
     ·
      have h11:¬ (c.kind < 4\/8 < c.kind):=by omega
      refine aR_ ?_
      iterate 8
       refine oC_ fun J hJ=>?_
       simp [go_sem,x1,x2]
       refine hJ _ _ _ ?_
       clear hJ J
      refine oN_ ?_
      refine hK23 _ ?_
      clear hK23
      refine aF_ rfl ?_
      refine aK_ ?_
      refine hK22 _ ?_
      clear hK22
      refine aS_ fun K26 hK26=>?_
      refine aS_ fun K27 hK27=>?_
      rcases (show ¬ c.kind=4\/(c.kind=4/\c.n < 1)\/(c.kind=4/\¬ c.n < 1/\1000 < c.n)\/(c.kind=4/\¬ c.n < 1/\¬ 1000 < c.n) by omega) with y1 | ⟨y1,y2⟩ | ⟨y1,y2,y3⟩ | ⟨y1,y2,y3⟩
      ·
       have h13:¬ (c.kind=4/\¬ (1<=c.n/\c.n<=1000)):=by omega
       have z1:(c.kind == 4)=false:=by simpa using y1
       refine aR_ ?_
       iterate 13
        refine oC_ fun J hJ=>?_
        simp [go_sem,z1]
        refine hJ _ _ _ ?_
        clear hJ J
       refine oN_ ?_
       refine hK27 _ ?_
       clear hK27
       refine aF_ rfl ?_
       refine aK_ ?_
       refine hK26 _ ?_
       clear hK26
       refine aQ_ ?_
       iterate 5
        refine oC_ fun J hJ=>?_
        simp [go_sem,findRfS_at b os c.ref (by omega)]
        refine hJ _ _ _ ?_
        clear hJ J
       refine oN_ ?_
       refine aS_ fun K31 hK31=>?_
       refine aQ_ ?_
       iterate 2
        refine oC_ fun J hJ=>?_
        simp [go_sem]
        refine hJ _ _ _ ?_
        clear hJ J
       refine oN_ ?_
       refine aC_ (t:=_) rfl (fun c33=>?_) (fun c33=>?_)
       ·
        simp [go_sem] at c33
        refine aS_ fun K34 hK34=>?_
        obtain ⟨h1,hf⟩ | ⟨k,x,hk0,hk,hx,_,hf⟩:=hpc
        rotate_left
        · omega
        have hr:codeR b os c=14:=by unfold codeR; rw [if_neg c4,if_neg c8,if_neg c12,if_neg c16,if_neg h11,if_neg h13,hf]
        refine aR_ ?_
        iterate 1
         refine oC_ fun J hJ=>?_
         simp [go_sem]
         refine hJ _ _ _ ?_
         clear hJ J
        refine oN_ ?_
        refine hK34 _ ?_
        clear hK34
        refine aE_ ?_
        refine fQ_ [] ?_
        simp [go_sem,Tryz.f60,hr]
       ·
        simp [go_sem] at c33
        refine aK_ ?_
        refine hK31 _ ?_
        clear hK31
        refine aS_ fun K35 hK35=>?_
        obtain ⟨h1,hf⟩ | ⟨k,x,hk0,hk,hx,_,hf⟩:=hpc
        · omega
        have hr:codeR b os c=aboutR b c x:=by unfold codeR; rw [if_neg c4,if_neg c8,if_neg c12,if_neg c16,if_neg h11,if_neg h13,hf]
        have hm:x ∈ os:=List.mem_of_getElem? hx
        refine aD_ ?_
        iterate 9
         refine oC_ fun J hJ=>?_
         simp [go_sem,hk,hx,about16S_at b os c x ⟨hF,fairO_one hO hm,by omega,by omega⟩]
         refine hJ _ _ _ ?_
         clear hJ J
        refine oN_ ?_
        refine ⟨rfl,?_⟩
        refine hK35 _ ?_
        clear hK35
        refine aE_ ?_
        refine fQ_ [] ?_
        simp [go_sem,Tryz.f60,hr]
      ·
       have hr:codeR b os c=4:=by unfold codeR; rw [if_neg c4,if_neg c8,if_neg c12,if_neg c16,if_neg h11,if_pos (by omega)]
       refine aR_ ?_
       iterate 13
        refine oC_ fun J hJ=>?_
        simp [go_sem,y1,y2]
        refine hJ _ _ _ ?_
        clear hJ J
       refine oN_ ?_
       refine hK27 _ ?_
       clear hK27
       refine aT_ rfl ?_
       refine aQ_ ?_
       iterate 1
        refine oC_ fun J hJ=>?_
        simp [go_sem]
        refine hJ _ _ _ ?_
        clear hJ J
       refine oN_ ?_
       refine aE_ ?_
       refine fQ_ [] ?_
       simp [go_sem,Tryz.f60,hr]
      ·
       have hr:codeR b os c=4:=by unfold codeR; rw [if_neg c4,if_neg c8,if_neg c12,if_neg c16,if_neg h11,if_pos (by omega)]
       refine aR_ ?_
       iterate 13
        refine oC_ fun J hJ=>?_
        simp [go_sem,y1,y2,y3]
        refine hJ _ _ _ ?_
        clear hJ J
       refine oN_ ?_
       refine hK27 _ ?_
       clear hK27
       refine aT_ rfl ?_
       refine aQ_ ?_
       iterate 1
        refine oC_ fun J hJ=>?_
        simp [go_sem]
        refine hJ _ _ _ ?_
        clear hJ J
       refine oN_ ?_
       refine aE_ ?_
       refine fQ_ [] ?_
       simp [go_sem,Tryz.f60,hr]
      ·
       have h13:¬ (c.kind=4/\¬ (1<=c.n/\c.n<=1000)):=by omega
       refine aR_ ?_
       iterate 13
        refine oC_ fun J hJ=>?_
        simp [go_sem,y1,y2,y3]
        refine hJ _ _ _ ?_
        clear hJ J
       refine oN_ ?_
       refine hK27 _ ?_
       clear hK27
       refine aF_ rfl ?_
       refine aK_ ?_
       refine hK26 _ ?_
       clear hK26
       refine aQ_ ?_
       iterate 5
        refine oC_ fun J hJ=>?_
        simp [go_sem,findRfS_at b os c.ref (by omega)]
        refine hJ _ _ _ ?_
        clear hJ J
       refine oN_ ?_
       refine aS_ fun K31 hK31=>?_
       refine aQ_ ?_
       iterate 2
        refine oC_ fun J hJ=>?_
        simp [go_sem]
        refine hJ _ _ _ ?_
        clear hJ J
       refine oN_ ?_
       refine aC_ (t:=_) rfl (fun c33=>?_) (fun c33=>?_)
       ·
        simp [go_sem] at c33
        refine aS_ fun K34 hK34=>?_
        obtain ⟨h1,hf⟩ | ⟨k,x,hk0,hk,hx,_,hf⟩:=hpc
        rotate_left
        · omega
        have hr:codeR b os c=14:=by unfold codeR; rw [if_neg c4,if_neg c8,if_neg c12,if_neg c16,if_neg h11,if_neg h13,hf]
        refine aR_ ?_
        iterate 1
         refine oC_ fun J hJ=>?_
         simp [go_sem]
         refine hJ _ _ _ ?_
         clear hJ J
        refine oN_ ?_
        refine hK34 _ ?_
        clear hK34
        refine aE_ ?_
        refine fQ_ [] ?_
        simp [go_sem,Tryz.f60,hr]
       ·
        simp [go_sem] at c33
        refine aK_ ?_
        refine hK31 _ ?_
        clear hK31
        refine aS_ fun K35 hK35=>?_
        obtain ⟨h1,hf⟩ | ⟨k,x,hk0,hk,hx,_,hf⟩:=hpc
        · omega
        have hr:codeR b os c=aboutR b c x:=by unfold codeR; rw [if_neg c4,if_neg c8,if_neg c12,if_neg c16,if_neg h11,if_neg h13,hf]
        have hm:x ∈ os:=List.mem_of_getElem? hx
        refine aD_ ?_
        iterate 9
         refine oC_ fun J hJ=>?_
         simp [go_sem,hk,hx,about16S_at b os c x ⟨hF,fairO_one hO hm,by omega,by omega⟩]
         refine hJ _ _ _ ?_
         clear hJ J
        refine oN_ ?_
        refine ⟨rfl,?_⟩
        refine hK35 _ ?_
        clear hK35
        refine aE_ ?_
        refine fQ_ [] ?_
        simp [go_sem,Tryz.f60,hr]
     ·
      have hr:codeR b os c=12:=by unfold codeR; rw [if_neg c4,if_neg c8,if_neg c12,if_neg c16,if_pos (by omega)]
      refine aR_ ?_
      iterate 8
       refine oC_ fun J hJ=>?_
       simp [go_sem,x1]
       refine hJ _ _ _ ?_
       clear hJ J
      refine oN_ ?_
      refine hK23 _ ?_
      clear hK23
      refine aT_ rfl ?_
      refine aQ_ ?_
      iterate 1
       refine oC_ fun J hJ=>?_
       simp [go_sem]
       refine hJ _ _ _ ?_
       clear hJ J
      refine oN_ ?_
      refine aE_ ?_
      refine fQ_ [] ?_
      simp [go_sem,Tryz.f60,hr]
     ·
      have hr:codeR b os c=12:=by unfold codeR; rw [if_neg c4,if_neg c8,if_neg c12,if_neg c16,if_pos (by omega)]
      refine aR_ ?_
      iterate 8
       refine oC_ fun J hJ=>?_
       simp [go_sem,x1,x2]
       refine hJ _ _ _ ?_
       clear hJ J
      refine oN_ ?_
      refine hK23 _ ?_
      clear hK23
      refine aT_ rfl ?_
      refine aQ_ ?_
      iterate 1
       refine oC_ fun J hJ=>?_
       simp [go_sem]
       refine hJ _ _ _ ?_
       clear hJ J
      refine oN_ ?_
      refine aE_ ?_
      refine fQ_ [] ?_
      simp [go_sem,Tryz.f60,hr]
def simR (b:Bk) (os:List Ord) (c:Chg):Bk × List Ord × List Eff:=
 if c.kind=1 then ({ b with st:=b.st.put c.a.toNat (b.st.at c.a.toNat + c.n) },os,[])
 else if c.kind=2 then ({ b with pu:=b.pu.put c.a.toNat (b.pu.at c.a.toNat + c.n) },os,[⟨8,c.a,c.n,zId⟩])
 else if c.kind=9 then ({ b with pr:=b.pr.put c.a.toNat c.n },os,[])
 else ({ b with st:=b.st.put (itemR b c).toNat (b.st.at (itemR b c).toNat - c.n) },putL os ⟨c.id,c.a,itemR b c,c.n,0,1⟩,[⟨1,itemR b c,c.n,c.id⟩,⟨7,c.a,1,c.id⟩])
def simOK (b:Bk) (os:List Ord) (c:Chg):Prop:=
 (c.kind=1/\(0<=c.a/\c.a<=7)/\1<=c.n/\b.st.at c.a.toNat + c.n<=1099511627776) \/
 (c.kind=2/\(0<=c.a/\c.a<=7)/\1<=c.n/\b.pu.at c.a.toNat + c.n<=1099511627776) \/
 (c.kind=9/\(0<=c.a/\c.a<=7)/\(0<=c.n/\c.n<=1073741824)) \/
 (c.kind=3/\(0<=c.b/\c.b<=7)/\(1<=c.n/\c.n<=1000)/\0<=itemR b c/\(0<=c.a/\c.a<=7)/\placeL os c.id < 0/\os.length < 32)
theorem itemR_rng {b:Bk} {c:Chg} (h:0<=c.b/\c.b<=7) (h0:0<=itemR b c):itemR b c<=7/\c.n<=b.st.at (itemR b c).toNat:=by
 unfold itemR at h0 ⊢
 by_cases h1:c.n<=b.st.at c.b.toNat
 · rw [if_pos h1]; exact ⟨h.2,h1⟩
 ·
  rw [if_neg h1] at h0 ⊢
  by_cases h2:c.ref.seq=1/\0<=c.ref.rep/\c.ref.rep<=7/\c.n<=b.st.at c.ref.rep.toNat
  · rw [if_pos h2]; exact ⟨h2.2.2.1,h2.2.2.2⟩
  · rw [if_neg h2] at h0; omega
@[go_sem] theorem take_Eff (x:Eff) (l:List AV):List.take 5 (cEff x++l)=cEff x:=rfl
@[go_sem] theorem drop_Eff (x:Eff) (l:List AV):List.drop 5 (cEff x++l)=l:=rfl
@[go_sem] theorem drop_Eff2 (x y:Eff) (l:List AV):List.drop 10 (cEff x++(cEff y++l))=l:=rfl
@[go_sem] theorem drop_Eff3 (x y z:Eff) (l:List AV):List.drop 15 (cEff x++(cEff y++(cEff z++l)))=l:=rfl
@[go_sem] theorem rows_two_Eff (x y:Eff):[cEff x,cEff y]=rows cEff [x,y]:=rfl
@[go_sem] theorem rows_four_Eff (x y z u:Eff):[cEff x,cEff y,cEff z,cEff u]=rows cEff [x,y,z,u]:=rfl
def resR (b:Bk) (os:List Ord) (l:List Eff):HR:=⟨.tup [.agg (cBk b (.sl 7 (rows cOrd os))),.sl 5 (rows cEff l)],[],[]⟩
theorem onew (c:Chg) (i:Int):cOrd { id:=c.id,buyer:=c.a,item:=i,qty:=c.n,cost:=zOrd.cost,state:=1 }=cOrd ⟨c.id,c.a,i,c.n,0,1⟩:=rfl
structure sim16X where
 b:Bk
 os:List Ord
 os':AV
 c:Chg
 h_os:SlA 7 cOrd os os'
 hL:FairB b/\os.length<=40000/\simOK b os c
noncomputable def sim16S:HSpec:=mkH (ι:=sim16X) (fun ⟨b,os,os',c,h_os,hL⟩=>([.agg (cBk b os'),.agg (cChg c)],[])) fun ⟨b,os,os',c,h_os,hL⟩=>resR (simR b os c).1 (simR b os c).2.1 (simR b os c).2.2
theorem sim16S_atG (b:Bk) (os:List Ord) (os':AV) (c:Chg) (h_os:SlA 7 cOrd os os') (hL:FairB b/\os.length<=40000/\simOK b os c):sim16S [.agg (cBk b os'),.agg (cChg c)] []=some (resR (simR b os c).1 (simR b os c).2.1 (simR b os c).2.2):=
 mA_ (ι:=sim16X) (fun i j h=>by obtain ⟨b,os,os',c,h_os,hL⟩:=i; obtain ⟨b2,os2,os'2,c2,h_os2,hL2⟩:=j; simp [and_assoc,qB_,qI_,qO_,qC_,qE_,qK_,qR_,qV_,qP_,qOc_] at h; obtain ⟨rfl,rfl,rfl⟩:=h; obtain rfl:=SlA.inj (fun x y h=>cOrd_inj h) h_os h_os2; rfl) ⟨b,os,os',c,h_os,hL⟩
theorem sim16S_at (b:Bk) (os:List Ord) (c:Chg) (hL:FairB b/\os.length<=40000/\simOK b os c):sim16S [.agg (cBk b (.sl 7 (rows cOrd os))),.agg (cChg c)] []=some (resR (simR b os c).1 (simR b os c).2.1 (simR b os c).2.2):=sim16S_atG b os _ c .sl hL
theorem sim16_ok:HSound Tryz.prog 62 sim16S:=by
 refine sE_ (fn:=Tryz.f62) rfl rfl (by kernel_rfl) fun args bx hr hS=>?_
 obtain ⟨⟨b,os,os',c,h_os,hL⟩,rfl,rfl,rfl⟩:=mO_ hS
 clear hS
 refine ⟨_,(eV_ (g:=84) (by kernel_rfl) eff16_ok (eV_ (g:=85) (by kernel_rfl) item16_ok (eH_ (g:=86) (by kernel_rfl) putRf_ok (eN_ _)))),by simp [Tryz.f62],by simp [resR,go_sem],fun w Mx pin=>?_⟩
 simp only [hB_at,lab_nil,lab_cons,hOf_nil,hOf_cons]
 refine aW_ (s':=⟨ofL [(0,.agg (cBk b (.sl 7 (rows cOrd os)))),(1,.agg (cChg c))],hOf []⟩) ?_ ?_
 · cases h_os <;> exact wO_ [] (by simp [go_sem]) (by simp [go_sem]) (by simp [go_sem])
 clear h_os
 obtain ⟨hF,hlen,hs⟩:=hL
 refine aQ_ ?_
 iterate 4
  refine oC_ fun J hJ=>?_
  simp [go_sem]
  refine hJ _ _ _ ?_
  clear hJ J
 refine oN_ ?_
 refine aS_ fun K2 hK2=>?_
 refine aS_ fun K3 hK3=>?_
 rcases hs with ⟨k,q1,q2,q3⟩ | ⟨k,q1,q2,q3⟩ | ⟨k,q1,q2⟩ | ⟨k,q1,q2,q3,_⟩
 ·
  have a0:=q1.1
  have a5:(c.a).toNat < 8:=by omega
  have a8:c.a < 8:=by omega
  have a24:c.a<=24:=by omega
  have ap:8 + (c.a).toNat<=24:=by omega
  have au:16 + (c.a).toNat<=24:=by omega
  obtain ⟨af1,af2,af3,af4,af5,af6⟩:=hF (c.a).toNat a5
  have hr:simR b os c=_:=if_pos k
  refine aR_ ?_
  iterate 3
   refine oC_ fun J hJ=>?_
   simp [go_sem,k]
   refine hJ _ _ _ ?_
   clear hJ J
  refine oN_ ?_
  refine hK3 _ ?_
  clear hK3
  refine aT_ rfl ?_
  refine aU_ ?_
  iterate 13
   refine oC_ fun J hJ=>?_
   simp [go_sem,a0,a5,a8,a24,ap,au,wA_ (n:=b.st.at c.a.toNat + c.n) (by omega)]
   refine hJ _ _ _ ?_
   clear hJ J
  refine oN_ ?_
  refine ⟨rfl,?_⟩
  refine aQ_ ?_
  iterate 3
   refine oC_ fun J hJ=>?_
   simp [go_sem]
   refine hJ _ _ _ ?_
   clear hJ J
  refine oN_ ?_
  refine aE_ ?_
  rw [hr]
  refine fQ_ [] ?_
  simp [go_sem,Tryz.f62,resR]
 ·
  have a0:=q1.1
  have a5:(c.a).toNat < 8:=by omega
  have a8:c.a < 8:=by omega
  have a24:c.a<=24:=by omega
  have ap:8 + (c.a).toNat<=24:=by omega
  have au:16 + (c.a).toNat<=24:=by omega
  obtain ⟨af1,af2,af3,af4,af5,af6⟩:=hF (c.a).toNat a5
  have hr:simR b os c=_:=(if_neg (show ¬ c.kind=1 by omega)).trans (if_pos k)
  refine aR_ ?_
  iterate 3
   refine oC_ fun J hJ=>?_
   simp [go_sem,k]
   refine hJ _ _ _ ?_
   clear hJ J
  refine oN_ ?_
  refine hK3 _ ?_
  clear hK3
  refine aF_ rfl ?_
  refine aK_ ?_
  refine hK2 _ ?_
  clear hK2
  refine aS_ fun K7 hK7=>?_
  refine aQ_ ?_
  iterate 3
   refine oC_ fun J hJ=>?_
   simp [go_sem,k]
   refine hJ _ _ _ ?_
   clear hJ J
  refine oN_ ?_
  refine aT_ rfl ?_
  refine aU_ ?_
  iterate 13
   refine oC_ fun J hJ=>?_
   simp [go_sem,a0,a5,a8,a24,ap,au,wA_ (n:=b.pu.at c.a.toNat + c.n) (by omega)]
   refine hJ _ _ _ ?_
   clear hJ J
  refine oN_ ?_
  refine ⟨rfl,?_⟩
  refine aU_ ?_
  iterate 10
   refine oC_ fun J hJ=>?_
   simp [go_sem,↓eff16S_at 8 c.a c.n zId]
   refine hJ _ _ _ ?_
   clear hJ J
  refine oN_ ?_
  refine ⟨rfl,?_⟩
  refine aE_ ?_
  rw [hr]
  refine fQ_ [] ?_
  simp [go_sem,Tryz.f62,resR]
 ·
  have a0:=q1.1
  have a5:(c.a).toNat < 8:=by omega
  have a8:c.a < 8:=by omega
  have a24:c.a<=24:=by omega
  have ap:8 + (c.a).toNat<=24:=by omega
  have au:16 + (c.a).toNat<=24:=by omega
  obtain ⟨af1,af2,af3,af4,af5,af6⟩:=hF (c.a).toNat a5
  have hr:simR b os c=_:=(if_neg (show ¬ c.kind=1 by omega)).trans ((if_neg (show ¬ c.kind=2 by omega)).trans (if_pos k))
  refine aR_ ?_
  iterate 3
   refine oC_ fun J hJ=>?_
   simp [go_sem,k]
   refine hJ _ _ _ ?_
   clear hJ J
  refine oN_ ?_
  refine hK3 _ ?_
  clear hK3
  refine aF_ rfl ?_
  refine aK_ ?_
  refine hK2 _ ?_
  clear hK2
  refine aS_ fun K7 hK7=>?_
  refine aQ_ ?_
  iterate 3
   refine oC_ fun J hJ=>?_
   simp [go_sem,k]
   refine hJ _ _ _ ?_
   clear hJ J
  refine oN_ ?_
  refine aF_ rfl ?_
  refine aK_ ?_
  refine hK7 _ ?_
  clear hK7
  refine aS_ fun K12 hK12=>?_
  refine aQ_ ?_
  iterate 3
   refine oC_ fun J hJ=>?_
   simp [go_sem,k]
   refine hJ _ _ _ ?_
   clear hJ J
  refine oN_ ?_
  refine aT_ rfl ?_
  refine aQ_ ?_
  iterate 7
   refine oC_ fun J hJ=>?_
   simp [go_sem,a0,a5,a8,a24,ap,au]
   refine hJ _ _ _ ?_
   clear hJ J
  refine oN_ ?_
  refine aQ_ ?_
  iterate 3
   refine oC_ fun J hJ=>?_
   simp [go_sem]
   refine hJ _ _ _ ?_
   clear hJ J
  refine oN_ ?_
  refine aE_ ?_
  rw [hr]
  refine fQ_ [] ?_
  simp [go_sem,Tryz.f62,resR]
 ·
  obtain ⟨i7,hle⟩:=itemR_rng q1 q3
  have i0:=q3
  have i5:(itemR b c).toNat < 8:=by omega
  have i8:itemR b c < 8:=by omega
  have i24:itemR b c<=24:=by omega
  have ip:8 + (itemR b c).toNat<=24:=by omega
  have iu:16 + (itemR b c).toNat<=24:=by omega
  obtain ⟨if1,if2,if3,if4,if5,if6⟩:=hF (itemR b c).toNat i5
  have hr:simR b os c=_:=(if_neg (show ¬ c.kind=1 by omega)).trans ((if_neg (show ¬ c.kind=2 by omega)).trans (if_neg (show ¬ c.kind=9 by omega)))
  refine aR_ ?_
  iterate 3
   refine oC_ fun J hJ=>?_
   simp [go_sem,k]
   refine hJ _ _ _ ?_
   clear hJ J
  refine oN_ ?_
  refine hK3 _ ?_
  clear hK3
  refine aF_ rfl ?_
  refine aK_ ?_
  refine hK2 _ ?_
  clear hK2
  refine aS_ fun K7 hK7=>?_
  refine aQ_ ?_
  iterate 3
   refine oC_ fun J hJ=>?_
   simp [go_sem,k]
   refine hJ _ _ _ ?_
   clear hJ J
  refine oN_ ?_
  refine aF_ rfl ?_
  refine aK_ ?_
  refine hK7 _ ?_
  clear hK7
  refine aS_ fun K12 hK12=>?_
  refine aQ_ ?_
  iterate 3
   refine oC_ fun J hJ=>?_
   simp [go_sem,k]
   refine hJ _ _ _ ?_
   clear hJ J
  refine oN_ ?_
  refine aF_ rfl ?_
  refine aK_ ?_
  refine hK12 _ ?_
  clear hK12
  refine aQ_ ?_
  iterate 4
   refine oC_ fun J hJ=>?_
   simp [go_sem,item16S_at b os c q1]
   refine hJ _ _ _ ?_
   clear hJ J
  refine oN_ ?_
  refine aU_ ?_
  iterate 11
   refine oC_ fun J hJ=>?_
   simp [go_sem,i0,i5,i8,i24,ip,iu,wA_ (n:=b.st.at (itemR b c).toNat - c.n) (by omega)]
   refine hJ _ _ _ ?_
   clear hJ J
  refine oN_ ?_
  refine ⟨rfl,?_⟩
  refine aQ_ ?_
  iterate 11
   refine oC_ fun J hJ=>?_
   simp [go_sem,onew,putRfS_at _ os _ (show os.length<=50000 by omega)]
   refine hJ _ _ _ ?_
   clear hJ J
  refine oN_ ?_
  refine aU_ ?_
  iterate 15
   refine oC_ fun J hJ=>?_
   simp [go_sem,↓eff16S_at 1 (itemR b c) c.n c.id,↓eff16S_at 7 c.a 1 c.id]
   refine hJ _ _ _ ?_
   clear hJ J
  refine oN_ ?_
  refine ⟨rfl,?_⟩
  refine aE_ ?_
  rw [hr]
  refine fQ_ [] ?_
  simp [go_sem,Tryz.f62,resR]
end Go.Proofs.YtjoaigccapegpaaGreat.AE
