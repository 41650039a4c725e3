/-
 A change that is being done: contracts, first part. Conditions: none; every contract names its own.
-/
import Derived.Test.YtjoaigccapegpaaGreatPe
import Derived.Test.YtjoaigccapegpaaGreatPc
set_option linter.constructorNameAsVariable false
namespace Go.Proofs.YtjoaigccapegpaaGreat.AE
open Go Go.Proofs Go.RowKit
set_option linter.unusedVariables false
set_option linter.unusedSimpArgs false
set_option maxRecDepth 100000
set_option maxHeartbeats 4000000
theorem rows_iff_Int {L M:List Int}:rows cInt L=rows cInt M ↔ L=M:=⟨fun h=>rows_inj (fun x y h=>cInt_inj h) h,fun h=>h ▸ rfl⟩
def mustH (e:Int) (u v:List Box):HR:=if e=0 then ⟨.tup [],u,[]⟩ else ⟨.pnc (.ifc 136 (.agg [.int .i64 e])),v,[]⟩
def askH (p:Bool) (e:Int):HR:=if p=true then ⟨.tup [],[],[]⟩ else ⟨.pnc (.ifc 136 (.agg [.int .i64 e])),[],[]⟩
theorem askH_t (e:Int):askH true e=⟨.tup [],[],[]⟩:=rfl
theorem askH_f (e:Int):askH false e=⟨.pnc (.ifc 136 (.agg [.int .i64 e])),[],[]⟩:=rfl
theorem mustH_f {e:Int} (h:e ≠ 0) (u v:List Box):mustH e u v=⟨.pnc (.ifc 136 (.agg [.int .i64 e])),v,[]⟩:=if_neg h
structure askX where
 p:Bool
 e:Int
noncomputable def askS:HSpec:=mkH (ι:=askX) (fun ⟨p,e⟩=>([.bool p,.int .i64 e],[])) fun ⟨p,e⟩=>askH p e
theorem askS_atG (p:Bool) (e:Int):askS [.bool p,.int .i64 e] []=some (askH p e):=
 mA_ (ι:=askX) (fun i j h=>by obtain ⟨p,e⟩:=i; obtain ⟨p2,e2⟩:=j; simp [and_assoc,qB_,qI_,qO_,qC_,qE_,qK_,qR_,qV_,qP_,qOc_,rows_iff_Ord,rows_iff_Eff,rows_iff_Int,cWk_eq_iff] at h; obtain ⟨rfl,rfl⟩:=h; rfl) ⟨p,e⟩
theorem askS_at (p:Bool) (e:Int):askS [.bool p,.int .i64 e] []=some (askH p e):=askS_atG p e
theorem ask_ok:HSound Tryz.prog 99 askS:=by
 refine sE_ (fn:=Tryz.f99) rfl rfl (by kernel_rfl) fun args bx hr hS=>?_
 obtain ⟨⟨p,e⟩,rfl,rfl,rfl⟩:=mO_ hS
 clear hS
 refine ⟨_,(eN_ _),by simp [Tryz.f99],by simp only [askH]; split <;> simp [go_sem],fun w Mx pin=>?_⟩
 simp only [hB_at,lab_nil,lab_cons,hOf_nil,hOf_cons]
 refine aS_ fun K1 hK1=>?_
 cases p
 ·
  refine aR_ ?_
  iterate 2
   refine oC_ fun J hJ=>?_
   simp [go_sem]
   refine hJ _ _ _ ?_
   clear hJ J
  refine oN_ ?_
  refine hK1 _ ?_
  clear hK1
  refine aT_ rfl ?_
  refine aR_ ?_
  iterate 3
   refine oC_ fun J hJ=>?_
   simp [go_sem]
   refine hJ _ _ _ ?_
   clear hJ J
  refine oC_ fun J hJ=>?_
  clear hJ
  simp [go_sem]
  refine fQ_ [] ?_
  simp [go_sem,Tryz.f99,askH]
 ·
  refine aR_ ?_
  iterate 2
   refine oC_ fun J hJ=>?_
   simp [go_sem]
   refine hJ _ _ _ ?_
   clear hJ J
  refine oN_ ?_
  refine hK1 _ ?_
  clear hK1
  refine aF_ rfl ?_
  refine aK_ ?_
  refine fQ_ [] ?_
  simp [go_sem,Tryz.f99,askH]
structure must0X where
 d:Bk
 ps:List Ord
 e:Int
 b:Bk
 os:List Ord
 r:Id
noncomputable def must0S:HSpec:=mkH (ι:=must0X) (fun ⟨d,ps,e,b,os,r⟩=>([.ref (1,0) 0,.agg (cBk d (.sl 7 (rows cOrd ps))),.int .i64 e],[.obj (cWk b (.sl 7 (rows cOrd os)) .nils r)])) fun ⟨d,ps,e,b,os,r⟩=>mustH e [.obj (cWk d (.sl 7 (rows cOrd ps)) .nils r)] [.obj (cWk b (.sl 7 (rows cOrd os)) .nils r)]
theorem must0S_atG (d:Bk) (ps:List Ord) (e:Int) (b:Bk) (os:List Ord) (r:Id):must0S [.ref (1,0) 0,.agg (cBk d (.sl 7 (rows cOrd ps))),.int .i64 e] [.obj (cWk b (.sl 7 (rows cOrd os)) .nils r)]=some (mustH e [.obj (cWk d (.sl 7 (rows cOrd ps)) .nils r)] [.obj (cWk b (.sl 7 (rows cOrd os)) .nils r)]):=
 mA_ (ι:=must0X) (fun i j h=>by obtain ⟨d,ps,e,b,os,r⟩:=i; obtain ⟨d2,ps2,e2,b2,os2,r2⟩:=j; simp [and_assoc,qB_,qI_,qO_,qC_,qE_,qK_,qR_,qV_,qP_,qOc_,rows_iff_Ord,rows_iff_Eff,rows_iff_Int,cWk_eq_iff] at h; obtain ⟨rfl,rfl,rfl,rfl,rfl,rfl⟩:=h; rfl) ⟨d,ps,e,b,os,r⟩
theorem must0S_at (d:Bk) (ps:List Ord) (e:Int) (b:Bk) (os:List Ord) (r:Id):must0S [.ref (1,0) 0,.agg (cBk d (.sl 7 (rows cOrd ps))),.int .i64 e] [.obj (cWk b (.sl 7 (rows cOrd os)) .nils r)]=some (mustH e [.obj (cWk d (.sl 7 (rows cOrd ps)) .nils r)] [.obj (cWk b (.sl 7 (rows cOrd os)) .nils r)]):=must0S_atG d ps e b os r
theorem must0_ok:HSound Tryz.prog 100 must0S:=by
 refine sE_ (fn:=Tryz.f100) rfl rfl (by kernel_rfl) fun args bx hr hS=>?_
 obtain ⟨⟨d,ps,e,b,os,r⟩,rfl,rfl,rfl⟩:=mO_ hS
 clear hS
 refine ⟨_,(eN_ _),by simp [Tryz.f100],by simp only [mustH]; split <;> simp [go_sem],fun w Mx pin=>?_⟩
 simp only [hB_at,lab_nil,lab_cons,hOf_nil,hOf_cons]
 refine aQ_ ?_
 iterate 1
  refine oC_ fun J hJ=>?_
  simp [go_sem]
  refine hJ _ _ _ ?_
  clear hJ J
 refine oN_ ?_
 refine aS_ fun K2 hK2=>?_
 refine aS_ fun K3 hK3=>?_
 by_cases he:e=0
 ·
  have h1:(e != 0)=false:=by simp [he]
  refine aR_ ?_
  iterate 2
   refine oC_ fun J hJ=>?_
   simp [go_sem,h1]
   refine hJ _ _ _ ?_
   clear hJ J
  refine oN_ ?_
  refine hK3 _ ?_
  clear hK3
  refine aF_ rfl ?_
  refine aK_ ?_
  refine hK2 _ ?_
  clear hK2
  refine aR_ ?_
  iterate 5
   refine oC_ fun J hJ=>?_
   simp [go_sem]
   refine hJ _ _ _ ?_
   clear hJ J
  refine oN_ ?_
  refine fQ_ [((1,0),some (1,0))] ?_
  simp [go_sem,Tryz.f100,mustH,he]
 ·
  have h1:(e != 0)=true:=by simp [he]
  refine aR_ ?_
  iterate 2
   refine oC_ fun J hJ=>?_
   simp [go_sem,h1]
   refine hJ _ _ _ ?_
   clear hJ J
  refine oN_ ?_
  refine hK3 _ ?_
  clear hK3
  refine aT_ rfl ?_
  refine aR_ ?_
  iterate 3
   refine oC_ fun J hJ=>?_
   simp [go_sem]
   refine hJ _ _ _ ?_
   clear hJ J
  refine oC_ fun J hJ=>?_
  clear hJ
  simp [go_sem]
  refine fQ_ [((1,0),some (1,0))] ?_
  simp [go_sem,Tryz.f100,mustH,he]
structure wput0X where
 x:Ord
 st:Int
 b:Bk
 os:List Ord
 r:Id
 hL:os.length<=50000
noncomputable def wput0S:HSpec:=mkH (ι:=wput0X) (fun ⟨x,st,b,os,r,hL⟩=>([.ref (1,0) 0,.agg (cOrd x),.int .i64 st],[.obj (cWk b (.sl 7 (rows cOrd os)) .nils r)])) fun ⟨x,st,b,os,r,hL⟩=>⟨.tup [],[.obj (cWk b (.sl 7 (rows cOrd (putL os { x with state:=st }))) .nils r)],[]⟩
theorem wput0S_atG (x:Ord) (st:Int) (b:Bk) (os:List Ord) (r:Id) (hL:os.length<=50000):wput0S [.ref (1,0) 0,.agg (cOrd x),.int .i64 st] [.obj (cWk b (.sl 7 (rows cOrd os)) .nils r)]=some (⟨.tup [],[.obj (cWk b (.sl 7 (rows cOrd (putL os { x with state:=st }))) .nils r)],[]⟩):=
 mA_ (ι:=wput0X) (fun i j h=>by obtain ⟨x,st,b,os,r,hL⟩:=i; obtain ⟨x2,st2,b2,os2,r2,hL2⟩:=j; simp [and_assoc,qB_,qI_,qO_,qC_,qE_,qK_,qR_,qV_,qP_,qOc_,rows_iff_Ord,rows_iff_Eff,rows_iff_Int,cWk_eq_iff] at h; obtain ⟨rfl,rfl,rfl,rfl,rfl⟩:=h; rfl) ⟨x,st,b,os,r,hL⟩
theorem wput0S_at (x:Ord) (st:Int) (b:Bk) (os:List Ord) (r:Id) (hL:os.length<=50000):wput0S [.ref (1,0) 0,.agg (cOrd x),.int .i64 st] [.obj (cWk b (.sl 7 (rows cOrd os)) .nils r)]=some (⟨.tup [],[.obj (cWk b (.sl 7 (rows cOrd (putL os { x with state:=st }))) .nils r)],[]⟩):=wput0S_atG x st b os r hL
theorem wput0_ok:HSound Tryz.prog 122 wput0S:=by
 refine sE_ (fn:=Tryz.f122) rfl rfl (by kernel_rfl) fun args bx hr hS=>?_
 obtain ⟨⟨x,st,b,os,r,hL⟩,rfl,rfl,rfl⟩:=mO_ hS
 clear hS
 refine ⟨_,(eV_ (g:=127) (by kernel_rfl) put_ok (eN_ _)),by simp [Tryz.f122],by simp [go_sem],fun w Mx pin=>?_⟩
 simp only [hB_at,lab_nil,lab_cons,hOf_nil,hOf_cons]
 refine aQ_ ?_
 iterate 1
  refine oC_ fun J hJ=>?_
  simp [go_sem]
  refine hJ _ _ _ ?_
  clear hJ J
 refine oN_ ?_
 refine aQ_ ?_
 iterate 3
  refine oC_ fun J hJ=>?_
  simp [go_sem]
  refine hJ _ _ _ ?_
  clear hJ J
 refine oN_ ?_
 refine aD_ ?_
 iterate 10
  refine oC_ fun J hJ=>?_
  simp [go_sem,putS_at b os { x with state:=st } hL]
  refine hJ _ _ _ ?_
  clear hJ J
 refine oN_ ?_
 refine ⟨rfl,?_⟩
 refine fQ_ [((1,0),some (1,0))] ?_
 simp [go_sem,Tryz.f122]
structure tell0X where
 k:Int
 a:Int
 n:Int
 b:Bk
 os:List Ord
 r:Id
 hL:os.length<=50000
noncomputable def tell0S:HSpec:=mkH (ι:=tell0X) (fun ⟨k,a,n,b,os,r,hL⟩=>([.ref (1,0) 0,.int .i64 k,.int .i64 a,.int .i64 n],[.obj (cWk b (.sl 7 (rows cOrd os)) .nils r)])) fun ⟨k,a,n,b,os,r,hL⟩=>⟨.tup [],[.obj (cWk b (.sl 7 (rows cOrd os)) (.own (2,0) ([(⟨k,a,n,r⟩:Eff)]).length) r)],[.row 106 5 (rows cEff [(⟨k,a,n,r⟩:Eff)]) false]⟩
theorem tell0S_atG (k:Int) (a:Int) (n:Int) (b:Bk) (os:List Ord) (r:Id) (hL:os.length<=50000):tell0S [.ref (1,0) 0,.int .i64 k,.int .i64 a,.int .i64 n] [.obj (cWk b (.sl 7 (rows cOrd os)) .nils r)]=some (⟨.tup [],[.obj (cWk b (.sl 7 (rows cOrd os)) (.own (2,0) ([(⟨k,a,n,r⟩:Eff)]).length) r)],[.row 106 5 (rows cEff [(⟨k,a,n,r⟩:Eff)]) false]⟩):=
 mA_ (ι:=tell0X) (fun i j h=>by obtain ⟨k,a,n,b,os,r,hL⟩:=i; obtain ⟨k2,a2,n2,b2,os2,r2,hL2⟩:=j; simp [and_assoc,qB_,qI_,qO_,qC_,qE_,qK_,qR_,qV_,qP_,qOc_,rows_iff_Ord,rows_iff_Eff,rows_iff_Int,cWk_eq_iff] at h; obtain ⟨rfl,rfl,rfl,rfl,rfl,rfl⟩:=h; rfl) ⟨k,a,n,b,os,r,hL⟩
theorem tell0S_at (k:Int) (a:Int) (n:Int) (b:Bk) (os:List Ord) (r:Id) (hL:os.length<=50000):tell0S [.ref (1,0) 0,.int .i64 k,.int .i64 a,.int .i64 n] [.obj (cWk b (.sl 7 (rows cOrd os)) .nils r)]=some (⟨.tup [],[.obj (cWk b (.sl 7 (rows cOrd os)) (.own (2,0) ([(⟨k,a,n,r⟩:Eff)]).length) r)],[.row 106 5 (rows cEff [(⟨k,a,n,r⟩:Eff)]) false]⟩):=tell0S_atG k a n b os r hL
theorem tell0_ok:HSound Tryz.prog 103 tell0S:=by
 refine sE_ (fn:=Tryz.f103) rfl rfl (by kernel_rfl) fun args bx hr hS=>?_
 obtain ⟨⟨k,a,n,b,os,r,hL⟩,rfl,rfl,rfl⟩:=mO_ hS
 clear hS
 refine ⟨_,(eN_ _),by simp [Tryz.f103],by simp [go_sem],fun w Mx pin=>?_⟩
 simp only [hB_at,lab_nil,lab_cons,hOf_nil,hOf_cons]
 refine aD_ ?_
 iterate 18
  refine oC_ fun J hJ=>?_
  simp [go_sem]
  refine hJ _ _ _ ?_
  clear hJ J
 refine oN_ ?_
 refine ⟨rfl,?_⟩
 refine fQ_ [((1,0),some (1,0)),((2,0),some (0,352))] ?_
 simp [go_sem,Tryz.f103]
structure must1X where
 d:Bk
 ps:List Ord
 e:Int
 b:Bk
 os:List Ord
 r:Id
 L:List Eff
noncomputable def must1S:HSpec:=mkH (ι:=must1X) (fun ⟨d,ps,e,b,os,r,L⟩=>([.ref (1,0) 0,.agg (cBk d (.sl 7 (rows cOrd ps))),.int .i64 e],[.obj (cWk b (.sl 7 (rows cOrd os)) (.own (1,1) L.length) r),.row 106 5 (rows cEff L) false])) fun ⟨d,ps,e,b,os,r,L⟩=>mustH e [.obj (cWk d (.sl 7 (rows cOrd ps)) (.own (1,1) L.length) r),.row 106 5 (rows cEff L) false] [.obj (cWk b (.sl 7 (rows cOrd os)) (.own (1,1) L.length) r),.row 106 5 (rows cEff L) false]
theorem must1S_atG (d:Bk) (ps:List Ord) (e:Int) (b:Bk) (os:List Ord) (r:Id) (L:List Eff):must1S [.ref (1,0) 0,.agg (cBk d (.sl 7 (rows cOrd ps))),.int .i64 e] [.obj (cWk b (.sl 7 (rows cOrd os)) (.own (1,1) L.length) r),.row 106 5 (rows cEff L) false]=some (mustH e [.obj (cWk d (.sl 7 (rows cOrd ps)) (.own (1,1) L.length) r),.row 106 5 (rows cEff L) false] [.obj (cWk b (.sl 7 (rows cOrd os)) (.own (1,1) L.length) r),.row 106 5 (rows cEff L) false]):=
 mA_ (ι:=must1X) (fun i j h=>by obtain ⟨d,ps,e,b,os,r,L⟩:=i; obtain ⟨d2,ps2,e2,b2,os2,r2,L2⟩:=j; simp [and_assoc,qB_,qI_,qO_,qC_,qE_,qK_,qR_,qV_,qP_,qOc_,rows_iff_Ord,rows_iff_Eff,rows_iff_Int,cWk_eq_iff] at h; obtain ⟨rfl,rfl,rfl,rfl,rfl,-,rfl,rfl⟩:=h; rfl) ⟨d,ps,e,b,os,r,L⟩
theorem must1S_at (d:Bk) (ps:List Ord) (e:Int) (b:Bk) (os:List Ord) (r:Id) (L:List Eff):must1S [.ref (1,0) 0,.agg (cBk d (.sl 7 (rows cOrd ps))),.int .i64 e] [.obj (cWk b (.sl 7 (rows cOrd os)) (.own (1,1) L.length) r),.row 106 5 (rows cEff L) false]=some (mustH e [.obj (cWk d (.sl 7 (rows cOrd ps)) (.own (1,1) L.length) r),.row 106 5 (rows cEff L) false] [.obj (cWk b (.sl 7 (rows cOrd os)) (.own (1,1) L.length) r),.row 106 5 (rows cEff L) false]):=must1S_atG d ps e b os r L
theorem must1_ok:HSound Tryz.prog 100 must1S:=by
 refine sE_ (fn:=Tryz.f100) rfl rfl (by kernel_rfl) fun args bx hr hS=>?_
 obtain ⟨⟨d,ps,e,b,os,r,L⟩,rfl,rfl,rfl⟩:=mO_ hS
 clear hS
 refine ⟨_,(eN_ _),by simp [Tryz.f100],by simp only [mustH]; split <;> simp [go_sem],fun w Mx pin=>?_⟩
 simp only [hB_at,lab_nil,lab_cons,hOf_nil,hOf_cons]
 refine aQ_ ?_
 iterate 1
  refine oC_ fun J hJ=>?_
  simp [go_sem]
  refine hJ _ _ _ ?_
  clear hJ J
 refine oN_ ?_
 refine aS_ fun K2 hK2=>?_
 refine aS_ fun K3 hK3=>?_
 by_cases he:e=0
 ·
  have h1:(e != 0)=false:=by simp [he]
  refine aR_ ?_
  iterate 2
   refine oC_ fun J hJ=>?_
   simp [go_sem,h1]
   refine hJ _ _ _ ?_
   clear hJ J
  refine oN_ ?_
  refine hK3 _ ?_
  clear hK3
  refine aF_ rfl ?_
  refine aK_ ?_
  refine hK2 _ ?_
  clear hK2
  refine aR_ ?_
  iterate 5
   refine oC_ fun J hJ=>?_
   simp [go_sem]
   refine hJ _ _ _ ?_
   clear hJ J
  refine oN_ ?_
  refine fQ_ [((1,0),some (1,0)),((1,1),some (1,1))] ?_
  simp [go_sem,Tryz.f100,mustH,he]
 ·
  have h1:(e != 0)=true:=by simp [he]
  refine aR_ ?_
  iterate 2
   refine oC_ fun J hJ=>?_
   simp [go_sem,h1]
   refine hJ _ _ _ ?_
   clear hJ J
  refine oN_ ?_
  refine hK3 _ ?_
  clear hK3
  refine aT_ rfl ?_
  refine aR_ ?_
  iterate 3
   refine oC_ fun J hJ=>?_
   simp [go_sem]
   refine hJ _ _ _ ?_
   clear hJ J
  refine oC_ fun J hJ=>?_
  clear hJ
  simp [go_sem]
  refine fQ_ [((1,0),some (1,0)),((1,1),some (1,1))] ?_
  simp [go_sem,Tryz.f100,mustH,he]
structure wput1X where
 x:Ord
 st:Int
 b:Bk
 os:List Ord
 r:Id
 L:List Eff
 hL:os.length<=50000
noncomputable def wput1S:HSpec:=mkH (ι:=wput1X) (fun ⟨x,st,b,os,r,L,hL⟩=>([.ref (1,0) 0,.agg (cOrd x),.int .i64 st],[.obj (cWk b (.sl 7 (rows cOrd os)) (.own (1,1) L.length) r),.row 106 5 (rows cEff L) false])) fun ⟨x,st,b,os,r,L,hL⟩=>⟨.tup [],[.obj (cWk b (.sl 7 (rows cOrd (putL os { x with state:=st }))) (.own (1,1) L.length) r),.row 106 5 (rows cEff L) false],[]⟩
theorem wput1S_atG (x:Ord) (st:Int) (b:Bk) (os:List Ord) (r:Id) (L:List Eff) (hL:os.length<=50000):wput1S [.ref (1,0) 0,.agg (cOrd x),.int .i64 st] [.obj (cWk b (.sl 7 (rows cOrd os)) (.own (1,1) L.length) r),.row 106 5 (rows cEff L) false]=some (⟨.tup [],[.obj (cWk b (.sl 7 (rows cOrd (putL os { x with state:=st }))) (.own (1,1) L.length) r),.row 106 5 (rows cEff L) false],[]⟩):=
 mA_ (ι:=wput1X) (fun i j h=>by obtain ⟨x,st,b,os,r,L,hL⟩:=i; obtain ⟨x2,st2,b2,os2,r2,L2,hL2⟩:=j; simp [and_assoc,qB_,qI_,qO_,qC_,qE_,qK_,qR_,qV_,qP_,qOc_,rows_iff_Ord,rows_iff_Eff,rows_iff_Int,cWk_eq_iff] at h; obtain ⟨rfl,rfl,rfl,rfl,-,rfl,rfl⟩:=h; rfl) ⟨x,st,b,os,r,L,hL⟩
theorem wput1S_at (x:Ord) (st:Int) (b:Bk) (os:List Ord) (r:Id) (L:List Eff) (hL:os.length<=50000):wput1S [.ref (1,0) 0,.agg (cOrd x),.int .i64 st] [.obj (cWk b (.sl 7 (rows cOrd os)) (.own (1,1) L.length) r),.row 106 5 (rows cEff L) false]=some (⟨.tup [],[.obj (cWk b (.sl 7 (rows cOrd (putL os { x with state:=st }))) (.own (1,1) L.length) r),.row 106 5 (rows cEff L) false],[]⟩):=wput1S_atG x st b os r L hL
theorem wput1_ok:HSound Tryz.prog 122 wput1S:=by
 refine sE_ (fn:=Tryz.f122) rfl rfl (by kernel_rfl) fun args bx hr hS=>?_
 obtain ⟨⟨x,st,b,os,r,L,hL⟩,rfl,rfl,rfl⟩:=mO_ hS
 clear hS
 refine ⟨_,(eV_ (g:=127) (by kernel_rfl) put_ok (eN_ _)),by simp [Tryz.f122],by simp [go_sem],fun w Mx pin=>?_⟩
 simp only [hB_at,lab_nil,lab_cons,hOf_nil,hOf_cons]
 refine aQ_ ?_
 iterate 1
  refine oC_ fun J hJ=>?_
  simp [go_sem]
  refine hJ _ _ _ ?_
  clear hJ J
 refine oN_ ?_
 refine aQ_ ?_
 iterate 3
  refine oC_ fun J hJ=>?_
  simp [go_sem]
  refine hJ _ _ _ ?_
  clear hJ J
 refine oN_ ?_
 refine aD_ ?_
 iterate 10
  refine oC_ fun J hJ=>?_
  simp [go_sem,putS_at b os { x with state:=st } hL]
  refine hJ _ _ _ ?_
  clear hJ J
 refine oN_ ?_
 refine ⟨rfl,?_⟩
 refine fQ_ [((1,0),some (1,0)),((1,1),some (1,1))] ?_
 simp [go_sem,Tryz.f122]
structure tell1X where
 k:Int
 a:Int
 n:Int
 b:Bk
 os:List Ord
 r:Id
 L:List Eff
 hL:L.length<=1000
noncomputable def tell1S:HSpec:=mkH (ι:=tell1X) (fun ⟨k,a,n,b,os,r,L,hL⟩=>([.ref (1,0) 0,.int .i64 k,.int .i64 a,.int .i64 n],[.obj (cWk b (.sl 7 (rows cOrd os)) (.own (1,1) L.length) r),.row 106 5 (rows cEff L) false])) fun ⟨k,a,n,b,os,r,L,hL⟩=>⟨.tup [],[.obj (cWk b (.sl 7 (rows cOrd os)) (.own (2,0) ((L++[(⟨k,a,n,r⟩:Eff)])).length) r),.dead],[.row 106 5 (rows cEff (L++[(⟨k,a,n,r⟩:Eff)])) false]⟩
theorem tell1S_atG (k:Int) (a:Int) (n:Int) (b:Bk) (os:List Ord) (r:Id) (L:List Eff) (hL:L.length<=1000):tell1S [.ref (1,0) 0,.int .i64 k,.int .i64 a,.int .i64 n] [.obj (cWk b (.sl 7 (rows cOrd os)) (.own (1,1) L.length) r),.row 106 5 (rows cEff L) false]=some (⟨.tup [],[.obj (cWk b (.sl 7 (rows cOrd os)) (.own (2,0) ((L++[(⟨k,a,n,r⟩:Eff)])).length) r),.dead],[.row 106 5 (rows cEff (L++[(⟨k,a,n,r⟩:Eff)])) false]⟩):=
 mA_ (ι:=tell1X) (fun i j h=>by obtain ⟨k,a,n,b,os,r,L,hL⟩:=i; obtain ⟨k2,a2,n2,b2,os2,r2,L2,hL2⟩:=j; simp [and_assoc,qB_,qI_,qO_,qC_,qE_,qK_,qR_,qV_,qP_,qOc_,rows_iff_Ord,rows_iff_Eff,rows_iff_Int,cWk_eq_iff] at h; obtain ⟨rfl,rfl,rfl,rfl,rfl,-,rfl,rfl⟩:=h; rfl) ⟨k,a,n,b,os,r,L,hL⟩
theorem tell1S_at (k:Int) (a:Int) (n:Int) (b:Bk) (os:List Ord) (r:Id) (L:List Eff) (hL:L.length<=1000):tell1S [.ref (1,0) 0,.int .i64 k,.int .i64 a,.int .i64 n] [.obj (cWk b (.sl 7 (rows cOrd os)) (.own (1,1) L.length) r),.row 106 5 (rows cEff L) false]=some (⟨.tup [],[.obj (cWk b (.sl 7 (rows cOrd os)) (.own (2,0) ((L++[(⟨k,a,n,r⟩:Eff)])).length) r),.dead],[.row 106 5 (rows cEff (L++[(⟨k,a,n,r⟩:Eff)])) false]⟩):=tell1S_atG k a n b os r L hL
theorem tell1_ok:HSound Tryz.prog 103 tell1S:=by
 refine sE_ (fn:=Tryz.f103) rfl rfl (by kernel_rfl) fun args bx hr hS=>?_
 obtain ⟨⟨k,a,n,b,os,r,L,hL⟩,rfl,rfl,rfl⟩:=mO_ hS
 clear hS
 refine ⟨_,(eN_ _),by simp [Tryz.f103],by simp [go_sem],fun w Mx pin=>?_⟩
 simp only [hB_at,lab_nil,lab_cons,hOf_nil,hOf_cons]
 refine aD_ ?_
 iterate 18
  refine oC_ fun J hJ=>?_
  simp [go_sem,show (L.length + 1) * 40<=140737488355328 by omega,show L.length + 1<=maxLen by simp only [maxLen]; omega]
  refine hJ _ _ _ ?_
  clear hJ J
 refine oN_ ?_
 refine ⟨rfl,?_⟩
 refine fQ_ [((1,0),some (1,0)),((1,1),some (1,1)),((2,0),some (0,352))] ?_
 simp [go_sem,Tryz.f103]
def orderH (b:Bk) (os:List Ord) (r a:Id) (st:List Int):HR:=if inC os a st=0 then ⟨.agg (cOrd (inO os a st)),[.obj (cWk b (.sl 7 (rows cOrd os)) .nils a),.row 3 1 (rows cInt st) false],[]⟩ else ⟨.pnc (.ifc 136 (.agg [.int .i64 (inC os a st)])),[.obj (cWk b (.sl 7 (rows cOrd os)) .nils r),.row 3 1 (rows cInt st) false],[]⟩
structure orderX where
 a:Id
 st:List Int
 b:Bk
 os:List Ord
 r:Id
 hL:os.length<=50000/\st.length<=1000
noncomputable def orderS:HSpec:=mkH (ι:=orderX) (fun ⟨a,st,b,os,r,hL⟩=>([.ref (1,0) 0,.agg (cId a),.own (1,1) st.length],[.obj (cWk b (.sl 7 (rows cOrd os)) .nils r),.row 3 1 (rows cInt st) false])) fun ⟨a,st,b,os,r,hL⟩=>orderH b os r a st
theorem orderS_atG (a:Id) (st:List Int) (b:Bk) (os:List Ord) (r:Id) (hL:os.length<=50000/\st.length<=1000):orderS [.ref (1,0) 0,.agg (cId a),.own (1,1) st.length] [.obj (cWk b (.sl 7 (rows cOrd os)) .nils r),.row 3 1 (rows cInt st) false]=some (orderH b os r a st):=
 mA_ (ι:=orderX) (fun i j h=>by obtain ⟨a,st,b,os,r,hL⟩:=i; obtain ⟨a2,st2,b2,os2,r2,hL2⟩:=j; simp [and_assoc,qB_,qI_,qO_,qC_,qE_,qK_,qR_,qV_,qP_,qOc_,rows_iff_Ord,rows_iff_Eff,rows_iff_Int,cWk_eq_iff] at h; obtain ⟨rfl,-,rfl,rfl,rfl,rfl⟩:=h; rfl) ⟨a,st,b,os,r,hL⟩
theorem orderS_at (a:Id) (st:List Int) (b:Bk) (os:List Ord) (r:Id) (hL:os.length<=50000/\st.length<=1000):orderS [.ref (1,0) 0,.agg (cId a),.own (1,1) st.length] [.obj (cWk b (.sl 7 (rows cOrd os)) .nils r),.row 3 1 (rows cInt st) false]=some (orderH b os r a st):=orderS_atG a st b os r hL
theorem order_ok:HSound Tryz.prog 121 orderS:=by
 refine sE_ (fn:=Tryz.f121) rfl rfl (by kernel_rfl) fun args bx hr hS=>?_
 obtain ⟨⟨a,st,b,os,r,hL⟩,rfl,rfl,rfl⟩:=mO_ hS
 clear hS
 refine ⟨_,(eV_ (g:=128) (by kernel_rfl) in_ok (eV_ (g:=99) (by kernel_rfl) ask_ok (eN_ _))),by simp [Tryz.f121],by simp only [orderH]; split <;> simp [go_sem],fun w Mx pin=>?_⟩
 simp only [hB_at,lab_nil,lab_cons,hOf_nil,hOf_cons]
 refine aQ_ ?_
 iterate 2
  refine oC_ fun J hJ=>?_
  simp [go_sem]
  refine hJ _ _ _ ?_
  clear hJ J
 refine oN_ ?_
 refine aS_ fun K2 hK2=>?_
 by_cases hc:inC os a st=0
 ·
  have h1:(inC os a st == 0)=true:=by simp [hc]
  refine aD_ ?_
  iterate 13
   refine oC_ fun J hJ=>?_
   simp [go_sem,inS_at b os a st ⟨by omega,by omega⟩]
   refine hJ _ _ _ ?_
   clear hJ J
  refine oN_ ?_
  refine ⟨rfl,?_⟩
  refine hK2 _ ?_
  clear hK2
  refine aQ_ ?_
  iterate 4
   refine oC_ fun J hJ=>?_
   simp [go_sem,h1,askS_at,askH_t]
   refine hJ _ _ _ ?_
   clear hJ J
  refine oN_ ?_
  refine aQ_ ?_
  iterate 5
   refine oC_ fun J hJ=>?_
   simp [go_sem]
   refine hJ _ _ _ ?_
   clear hJ J
  refine oN_ ?_
  refine aQ_ ?_
  iterate 2
   refine oC_ fun J hJ=>?_
   simp [go_sem]
   refine hJ _ _ _ ?_
   clear hJ J
  refine oN_ ?_
  refine aE_ ?_
  refine fQ_ [((1,0),some (1,0)),((1,1),some (1,1))] ?_
  simp [go_sem,Tryz.f121,orderH,hc]
 ·
  have h1:(inC os a st == 0)=false:=by simp [hc]
  refine aD_ ?_
  iterate 13
   refine oC_ fun J hJ=>?_
   simp [go_sem,inS_at b os a st ⟨by omega,by omega⟩]
   refine hJ _ _ _ ?_
   clear hJ J
  refine oN_ ?_
  refine ⟨rfl,?_⟩
  refine hK2 _ ?_
  clear hK2
  refine aS_ fun K3 hK3=>?_
  refine aR_ ?_
  iterate 3
   refine oC_ fun J hJ=>?_
   simp [go_sem,h1,askS_at,askH_f]
   refine hJ _ _ _ ?_
   clear hJ J
  refine oC_ fun J hJ=>?_
  clear hJ
  simp [go_sem,h1,askS_at,askH_f]
  refine fQ_ [((1,0),some (1,0)),((1,1),some (1,1))] ?_
  simp [go_sem,Tryz.f121,orderH,hc]
def chgS (o:Ord) (st:Int):Ord:={ o with state:=st }
def twoS (A B:HSpec):HSpec:=fun a b=>match A a b with
 | some r=>some r
 | none=>B a b
theorem twoS_sound {P:Program} {f:FuncId} {A B:HSpec} (hA:HSound P f A) (hB:HSound P f B):HSound P f (twoS A B):=by
 intro a b r h
 unfold twoS at h
 cases hr:A a b with
 | some q=>rw [hr] at h; cases h; exact hA a b _ hr
 | none=>rw [hr] at h; exact hB a b r h
theorem twoS_left {A:HSpec} (B:HSpec) {a:List AV} {b:List Box} {r:HR} (h:A a b=some r):twoS A B a b=some r:=by simp [twoS,h]
theorem twoS_right {A B:HSpec} {a:List AV} {b:List Box} {r:HR} (hn:A a b=none) (h:B a b=some r):twoS A B a b=some r:=by simp [twoS,hn,h]
theorem mkH_none {ι:Type} {A:ι->List AV × List Box} {R:ι->HR} {a:List AV} {b:List Box} (h:∀ i,A i ≠ (a,b)):mkH A R a b=none:=by
 unfold mkH
 rw [dif_neg (fun ⟨i,hi⟩=>h i hi)]
theorem must0_t (d:Bk) (ps:List Ord) (b:Bk) (os:List Ord) (r:Id):twoS must0S must1S [.ref (1,0) 0,.agg (cBk d (.sl 7 (rows cOrd ps))),.int .i64 0] [.obj (cWk b (.sl 7 (rows cOrd os)) .nils r)]=some ⟨.tup [],[.obj (cWk d (.sl 7 (rows cOrd ps)) .nils r)],[]⟩:=twoS_left _ (must0S_at d ps 0 b os r)
theorem must0_f {e:Int} (he:e ≠ 0) (d:Bk) (ps:List Ord) (b:Bk) (os:List Ord) (r:Id):twoS must0S must1S [.ref (1,0) 0,.agg (cBk d (.sl 7 (rows cOrd ps))),.int .i64 e] [.obj (cWk b (.sl 7 (rows cOrd os)) .nils r)]=some ⟨.pnc (.ifc 136 (.agg [.int .i64 e])),[.obj (cWk b (.sl 7 (rows cOrd os)) .nils r)],[]⟩:=by
 rw [<-mustH_f he [.obj (cWk d (.sl 7 (rows cOrd ps)) .nils r)] [.obj (cWk b (.sl 7 (rows cOrd os)) .nils r)]]
 exact twoS_left _ (must0S_at d ps e b os r)
theorem must0_fz {e:Int} (he:e ≠ 0) (b:Bk) (os:List Ord) (r:Id):twoS must0S must1S [.ref (1,0) 0,.agg (cBk zBk (.sl 7 [])),.int .i64 e] [.obj (cWk b (.sl 7 (rows cOrd os)) .nils r)]=some ⟨.pnc (.ifc 136 (.agg [.int .i64 e])),[.obj (cWk b (.sl 7 (rows cOrd os)) .nils r)],[]⟩:=must0_f he zBk [] b os r
theorem wput0_at2 (x:Ord) (st:Int) (b:Bk) (os:List Ord) (r:Id) (h:os.length<=50000):twoS wput0S wput1S [.ref (1,0) 0,.agg (cOrd x),.int .i64 st] [.obj (cWk b (.sl 7 (rows cOrd os)) .nils r)]=some ⟨.tup [],[.obj (cWk b (.sl 7 (rows cOrd (putL os (chgS x st)))) .nils r)],[]⟩:=twoS_left _ (wput0S_at x st b os r h)
theorem tell0_at2 (k a n:Int) (b:Bk) (os:List Ord) (r:Id) (h:os.length<=50000):twoS tell0S tell1S [.ref (1,0) 0,.int .i64 k,.int .i64 a,.int .i64 n] [.obj (cWk b (.sl 7 (rows cOrd os)) .nils r)]=some ⟨.tup [],[.obj (cWk b (.sl 7 (rows cOrd os)) (.own (2,0) ([(⟨k,a,n,r⟩:Eff)]).length) r)],[.row 106 5 (rows cEff [(⟨k,a,n,r⟩:Eff)]) false]⟩:=twoS_left _ (tell0S_at k a n b os r h)
theorem must1_t (d:Bk) (ps:List Ord) (b:Bk) (os:List Ord) (r:Id) (L:List Eff):twoS must0S must1S [.ref (1,0) 0,.agg (cBk d (.sl 7 (rows cOrd ps))),.int .i64 0] [.obj (cWk b (.sl 7 (rows cOrd os)) (.own (1,1) L.length) r),.row 106 5 (rows cEff L) false]=some ⟨.tup [],[.obj (cWk d (.sl 7 (rows cOrd ps)) (.own (1,1) L.length) r),.row 106 5 (rows cEff L) false],[]⟩:=twoS_right (by unfold must0S; exact mkH_none fun i h=>by cases i; simp at h) (must1S_at d ps 0 b os r L)
theorem must1_f {e:Int} (he:e ≠ 0) (d:Bk) (ps:List Ord) (b:Bk) (os:List Ord) (r:Id) (L:List Eff):twoS must0S must1S [.ref (1,0) 0,.agg (cBk d (.sl 7 (rows cOrd ps))),.int .i64 e] [.obj (cWk b (.sl 7 (rows cOrd os)) (.own (1,1) L.length) r),.row 106 5 (rows cEff L) false]=some ⟨.pnc (.ifc 136 (.agg [.int .i64 e])),[.obj (cWk b (.sl 7 (rows cOrd os)) (.own (1,1) L.length) r),.row 106 5 (rows cEff L) false],[]⟩:=by
 rw [<-mustH_f he [.obj (cWk d (.sl 7 (rows cOrd ps)) (.own (1,1) L.length) r),.row 106 5 (rows cEff L) false] [.obj (cWk b (.sl 7 (rows cOrd os)) (.own (1,1) L.length) r),.row 106 5 (rows cEff L) false]]
 exact twoS_right (by unfold must0S; exact mkH_none fun i h=>by cases i; simp at h) (must1S_at d ps e b os r L)
theorem must1_fz {e:Int} (he:e ≠ 0) (b:Bk) (os:List Ord) (r:Id) (L:List Eff):twoS must0S must1S [.ref (1,0) 0,.agg (cBk zBk (.sl 7 [])),.int .i64 e] [.obj (cWk b (.sl 7 (rows cOrd os)) (.own (1,1) L.length) r),.row 106 5 (rows cEff L) false]=some ⟨.pnc (.ifc 136 (.agg [.int .i64 e])),[.obj (cWk b (.sl 7 (rows cOrd os)) (.own (1,1) L.length) r),.row 106 5 (rows cEff L) false],[]⟩:=must1_f he zBk [] b os r L
theorem wput1_at2 (x:Ord) (st:Int) (b:Bk) (os:List Ord) (r:Id) (L:List Eff) (h:os.length<=50000):twoS wput0S wput1S [.ref (1,0) 0,.agg (cOrd x),.int .i64 st] [.obj (cWk b (.sl 7 (rows cOrd os)) (.own (1,1) L.length) r),.row 106 5 (rows cEff L) false]=some ⟨.tup [],[.obj (cWk b (.sl 7 (rows cOrd (putL os (chgS x st)))) (.own (1,1) L.length) r),.row 106 5 (rows cEff L) false],[]⟩:=twoS_right (by unfold wput0S; exact mkH_none fun i h=>by cases i; simp at h) (wput1S_at x st b os r L h)
theorem tell1_at2 (k a n:Int) (b:Bk) (os:List Ord) (r:Id) (L:List Eff) (h:L.length<=1000):twoS tell0S tell1S [.ref (1,0) 0,.int .i64 k,.int .i64 a,.int .i64 n] [.obj (cWk b (.sl 7 (rows cOrd os)) (.own (1,1) L.length) r),.row 106 5 (rows cEff L) false]=some ⟨.tup [],[.obj (cWk b (.sl 7 (rows cOrd os)) (.own (2,0) ((L++[(⟨k,a,n,r⟩:Eff)])).length) r),.dead],[.row 106 5 (rows cEff (L++[(⟨k,a,n,r⟩:Eff)])) false]⟩:=twoS_right (by unfold tell0S; exact mkH_none fun i h=>by cases i; simp at h) (tell1S_at k a n b os r L h)
theorem must1n_t (d:Bk) (ps:List Ord) (b:Bk) (os:List Ord) (r:Id) (L:List Eff) (m:Nat) (hm:L.length=m):twoS must0S must1S [.ref (1,0) 0,.agg (cBk d (.sl 7 (rows cOrd ps))),.int .i64 0] [.obj (cWk b (.sl 7 (rows cOrd os)) (.own (1,1) m) r),.row 106 5 (rows cEff L) false]=some ⟨.tup [],[.obj (cWk d (.sl 7 (rows cOrd ps)) (.own (1,1) m) r),.row 106 5 (rows cEff L) false],[]⟩:=by subst hm; exact must1_t d ps b os r L
theorem must1n_fz {e:Int} (he:e ≠ 0) (b:Bk) (os:List Ord) (r:Id) (L:List Eff) (m:Nat) (hm:L.length=m):twoS must0S must1S [.ref (1,0) 0,.agg (cBk zBk (.sl 7 [])),.int .i64 e] [.obj (cWk b (.sl 7 (rows cOrd os)) (.own (1,1) m) r),.row 106 5 (rows cEff L) false]=some ⟨.pnc (.ifc 136 (.agg [.int .i64 e])),[.obj (cWk b (.sl 7 (rows cOrd os)) (.own (1,1) m) r),.row 106 5 (rows cEff L) false],[]⟩:=by subst hm; exact must1_fz he b os r L
theorem wput1n (x:Ord) (st:Int) (b:Bk) (os:List Ord) (r:Id) (L:List Eff) (m:Nat) (hm:L.length=m) (h:os.length<=50000):twoS wput0S wput1S [.ref (1,0) 0,.agg (cOrd x),.int .i64 st] [.obj (cWk b (.sl 7 (rows cOrd os)) (.own (1,1) m) r),.row 106 5 (rows cEff L) false]=some ⟨.tup [],[.obj (cWk b (.sl 7 (rows cOrd (putL os (chgS x st)))) (.own (1,1) m) r),.row 106 5 (rows cEff L) false],[]⟩:=by subst hm; exact wput1_at2 x st b os r L h
theorem tell1n (k a n:Int) (b:Bk) (os:List Ord) (r:Id) (L:List Eff) (m:Nat) (hm:L.length=m) (h:L.length<=1000):twoS tell0S tell1S [.ref (1,0) 0,.int .i64 k,.int .i64 a,.int .i64 n] [.obj (cWk b (.sl 7 (rows cOrd os)) (.own (1,1) m) r),.row 106 5 (rows cEff L) false]=some ⟨.tup [],[.obj (cWk b (.sl 7 (rows cOrd os)) (.own (2,0) (m + 1)) r),.dead],[.row 106 5 (rows cEff (L++[(⟨k,a,n,r⟩:Eff)])) false]⟩:=by subst hm; have:=tell1_at2 k a n b os r L h; simp only [List.length_append,List.length_cons,List.length_nil,Nat.zero_add] at this; exact this
def wkH:Except Int (Bk × List Ord × List Eff × Id)->HR
 | .ok (b,os,l,r)=>⟨.tup [],[.obj (cWk b (.sl 7 (rows cOrd os)) (.own (2,0) (l).length) r)],[.row 106 5 (rows cEff l) false]⟩
 | .error e=>⟨.pnc (.ifc 136 (.agg [.int .i64 e])),[.obj uWk],[]⟩
theorem wkH_go (x:Except Int (Bk × List Ord × List Eff × Id)) (b:Bk) (o t:AV) (r:Id):goOns [.obj (cWk b o t r)] (wkH x).up:=by
 cases x <;> exact ⟨trivial,trivial⟩
def ordN (c:Chg) (item:Int):Ord:=⟨c.id,c.a,item,c.n,0,1⟩
theorem ordN_eq (c:Chg) (item:Int):cOrd { id:=c.id,buyer:=c.a,item:=item,qty:=c.n,cost:=zOrd.cost,state:=1 }=cOrd (ordN c item):=rfl
def itemC (b:Bk) (c:Chg):Int:=if (!(hasB b c.b c.n) && ((c.ref.seq == 1) && hasB b c.ref.rep c.n))=true then c.ref.rep else c.b
def placeW (b:Bk) (os:List Ord) (c:Chg):Except Int (Bk × List Ord × List Eff × Id):=
 if (itemB c.a && (itemB c.b && decide (1<=c.n/\c.n<=1000)))=true then
  if newC os (ordN c (itemC b c))=0 then
   match takeB b (itemC b c) c.n with
   | .ok d=>.ok (d,putL os (ordN c (itemC b c)),[⟨1,itemC b c,c.n,c.id⟩,⟨7,c.a,1,c.id⟩],c.id)
   | .error e=>.error e
  else .error (newC os (ordN c (itemC b c)))
 else .error 4
theorem takeB_ne {b:Bk} {i n e:Int} (h:takeB b i n=.error e):e ≠ 0:=by
 unfold takeB at h
 split at h
 · split at h <;> cases h; decide
 · cases h; decide
structure wplaceX where
 c:Chg
 b:Bk
 os:List Ord
 hL:FairB b/\os.length<=40000
noncomputable def wplaceS:HSpec:=mkH (ι:=wplaceX) (fun ⟨c,b,os,hL⟩=>([.ref (1,0) 0,.agg (cChg c)],[.obj (cWk b (.sl 7 (rows cOrd os)) .nils zId)])) fun ⟨c,b,os,hL⟩=>wkH (placeW b os c)
theorem wplaceS_atG (c:Chg) (b:Bk) (os:List Ord) (hL:FairB b/\os.length<=40000):wplaceS [.ref (1,0) 0,.agg (cChg c)] [.obj (cWk b (.sl 7 (rows cOrd os)) .nils zId)]=some (wkH (placeW b os c)):=
 mA_ (ι:=wplaceX) (fun i j h=>by obtain ⟨c,b,os,hL⟩:=i; obtain ⟨c2,b2,os2,hL2⟩:=j; simp [and_assoc,qB_,qI_,qO_,qC_,qE_,qK_,qR_,qV_,qP_,qOc_,rows_iff_Ord,rows_iff_Eff,rows_iff_Int,cWk_eq_iff] at h; obtain ⟨rfl,rfl,rfl⟩:=h; rfl) ⟨c,b,os,hL⟩
theorem wplaceS_at (c:Chg) (b:Bk) (os:List Ord) (hL:FairB b/\os.length<=40000):wplaceS [.ref (1,0) 0,.agg (cChg c)] [.obj (cWk b (.sl 7 (rows cOrd os)) .nils zId)]=some (wkH (placeW b os c)):=wplaceS_atG c b os hL
theorem wplace_ok:HSound Tryz.prog 104 wplaceS:=by
 refine sE_ (fn:=Tryz.f104) rfl rfl (by kernel_rfl) fun args bx hr hS=>?_
 obtain ⟨⟨c,b,os,hL⟩,rfl,rfl,rfl⟩:=mO_ hS
 clear hS
 refine ⟨_,(eV_ (g:=99) (by kernel_rfl) ask_ok (eH_ (g:=100) (by kernel_rfl) (twoS_sound must0_ok must1_ok) (eH_ (g:=122) (by kernel_rfl) (twoS_sound wput0_ok wput1_ok) (eH_ (g:=103) (by kernel_rfl) (twoS_sound tell0_ok tell1_ok) (eH_ (g:=121) (by kernel_rfl) order_ok (eV_ (g:=116) (by kernel_rfl) pBuyer_ok (eV_ (g:=117) (by kernel_rfl) sItem_ok (eV_ (g:=70) (by kernel_rfl) numIn_ok (eV_ (g:=118) (by kernel_rfl) sHas_ok (eV_ (g:=119) (by kernel_rfl) new_ok (eV_ (g:=120) (by kernel_rfl) sTake_ok (eN_ _)))))))))))),by simp [Tryz.f104],by simp [wkH_go,go_sem],fun w Mx pin=>?_⟩
 simp only [hB_at,lab_nil,lab_cons,hOf_nil,hOf_cons]
 obtain ⟨hF,hlen⟩:=hL
 refine aQ_ ?_
 iterate 1
  refine oC_ fun J hJ=>?_
  simp [go_sem]
  refine hJ _ _ _ ?_
  clear hJ J
 refine oN_ ?_
 refine aS_ fun K2 hK2=>?_
 by_cases hok:(itemB c.a && (itemB c.b && decide (1<=c.n/\c.n<=1000)))=true
 ·
  have hok2:=hok
  simp only [Bool.and_eq_true] at hok
  obtain ⟨h1,h2,h3⟩:=hok
  refine aR_ ?_
  iterate 14
   refine oC_ fun J hJ=>?_
   simp [go_sem,pBuyerS_at,sItemS_at,numInS_at,h1,h2,h3,askS_at,askH_t]
   refine hJ _ _ _ ?_
   clear hJ J
  refine oN_ ?_
  refine hK2 _ ?_
  clear hK2
  refine aQ_ ?_
  iterate 3
   refine oC_ fun J hJ=>?_
   simp [go_sem]
   refine hJ _ _ _ ?_
   clear hJ J
  refine oN_ ?_
  refine aS_ fun K4 hK4=>?_
  have jK4:∀ (item:Int) (s:St),item=itemC b c->Weak ⟨Tryz.prog,w,Mx,Tryz.f104.ntmps,pin,[],true⟩ ⟨ofL [(0,.ref (1,0) 0),(3,.ref (0,48) 0),(4,.int .i64 item)],hOf [((1,0),.obj (cWk b (.sl 7 (rows cOrd os)) .nils zId)),((0,48),.obj (cChg c))]⟩ s->K4 s:=by
   intro item s hi hw
   refine hK4 s (aW_ hw ?_)
   refine aS_ fun K8 hK8=>?_
   by_cases hn:newC os (ordN c item)=0
   ·
    have hnr:newR b os (ordN c item)=_:=newR_0 hn
    refine aD_ ?_
    iterate 17
     refine oC_ fun J hJ=>?_
     simp [go_sem,ordN_eq,newS_at b os (ordN c item) (by omega),hnr,must0_t]
     refine hJ _ _ _ ?_
     clear hJ J
    refine oN_ ?_
    refine ⟨rfl,?_⟩
    refine hK8 _ ?_
    clear hK8
    refine aS_ fun K9 hK9=>?_
    rcases htk:takeB b item c.n with e | d
    ·
     have hr:placeW b os c=.error e:=by unfold placeW; rw [if_pos hok2,<-hi,if_pos hn,htk]
     refine awp_drawL 11 rfl rfl ?_
     simp only [List.take_succ_cons,List.take_zero]
     iterate 11
      refine oC_ fun J hJ=>?_
      simp [go_sem,sTakeS_at b (putL os (ordN c item)) item c.n hF,htk,bkH,must0_fz (takeB_ne htk)]
      refine hJ _ _ _ ?_
      clear hJ J
     refine oN_ ?_
     refine ⟨rfl,?_⟩
     simp [go_sem,sTakeS_at b (putL os (ordN c item)) item c.n hF,htk,bkH,must0_fz (takeB_ne htk)]
     refine fQ_ [((1,0),some (1,0))] ?_
     simp [go_sem,Tryz.f104,wkH,hr]
    ·
     have hr:placeW b os c=.ok (d,putL os (ordN c item),[⟨1,item,c.n,c.id⟩,⟨7,c.a,1,c.id⟩],c.id):=by unfold placeW; rw [if_pos hok2,<-hi,if_pos hn,htk]
     have hpl:=putL_len os (ordN c item)
     refine aD_ ?_
     iterate 12
      refine oC_ fun J hJ=>?_
      simp [go_sem,sTakeS_at b (putL os (ordN c item)) item c.n hF,htk,bkH,must0_t]
      refine hJ _ _ _ ?_
      clear hJ J
     refine oN_ ?_
     refine ⟨rfl,?_⟩
     refine hK9 _ ?_
     clear hK9
     refine aQ_ ?_
     iterate 6
      refine oC_ fun J hJ=>?_
      simp [go_sem]
      refine hJ _ _ _ ?_
      clear hJ J
     refine oN_ ?_
     refine aQ_ ?_
     iterate 5
      refine oC_ fun J hJ=>?_
      simp [go_sem,tell0_at2 1 item c.n d (putL os (ordN c item)) c.id (by omega)]
      refine hJ _ _ _ ?_
      clear hJ J
     refine oN_ ?_
     refine aR_ ?_
     iterate 4
      refine oC_ fun J hJ=>?_
      simp [go_sem,tell1n 7 c.a 1 d (putL os (ordN c item)) c.id [⟨1,item,c.n,c.id⟩] 1 rfl (by simp)]
      refine hJ _ _ _ ?_
      clear hJ J
     refine oN_ ?_
     refine fQ_ [((1,0),some (1,0)),((2,0),some (0,1488))] ?_
     simp [go_sem,Tryz.f104,wkH,hr]
   ·
    have hnr:newR b os (ordN c item)=_:=newR_e rfl hn
    have hr:placeW b os c=.error (newC os (ordN c item)):=by unfold placeW; rw [if_pos hok2,<-hi,if_neg hn]
    refine awp_drawL 16 rfl rfl ?_
    simp only [List.take_succ_cons,List.take_zero]
    iterate 16
     refine oC_ fun J hJ=>?_
     simp [go_sem,ordN_eq,newS_at b os (ordN c item) (by omega),hnr,must0_fz hn]
     refine hJ _ _ _ ?_
     clear hJ J
    refine oN_ ?_
    refine ⟨rfl,?_⟩
    simp [go_sem,ordN_eq,newS_at b os (ordN c item) (by omega),hnr,must0_fz hn]
    refine fQ_ [((1,0),some (1,0))] ?_
    simp [go_sem,Tryz.f104,wkH,hr]
  refine aQ_ ?_
  iterate 4
   refine oC_ fun J hJ=>?_
   simp [go_sem]
   refine hJ _ _ _ ?_
   clear hJ J
  refine oN_ ?_
  refine aS_ fun K6 hK6=>?_
  by_cases hit:(!(hasB b c.b c.n) && ((c.ref.seq == 1) && hasB b c.ref.rep c.n))=true
  ·
   have hi:c.ref.rep=itemC b c:=(if_pos hit).symm
   simp only [Bool.and_eq_true,Bool.not_eq_true'] at hit
   obtain ⟨g1,g2,g3⟩:=hit
   refine aD_ ?_
   iterate 25
    refine oC_ fun J hJ=>?_
    simp [go_sem,sHasS_at b os _ _ hF,g1,g2,g3]
    refine hJ _ _ _ ?_
    clear hJ J
   refine oN_ ?_
   refine ⟨rfl,?_⟩
   refine hK6 _ ?_
   clear hK6
   refine aT_ rfl ?_
   refine aR_ ?_
   iterate 2
    refine oC_ fun J hJ=>?_
    simp [go_sem]
    refine hJ _ _ _ ?_
    clear hJ J
   refine oN_ ?_
   exact jK4 _ _ hi (wO_ [((1,0),some (1,0)),((0,48),some (0,48))] (by simp [go_sem]) (by simp [go_sem]) (by simp [go_sem]))
  ·
   have hi:c.b=itemC b c:=(if_neg hit).symm
   cases g1:hasB b c.b c.n <;> cases g2:(c.ref.seq == 1) <;> cases g3:hasB b c.ref.rep c.n
   all_goals first | (exfalso; simp only [g1,g2,g3] at hit; exact hit rfl) | skip
   all_goals
    refine aD_ ?_
    iterate 25
     refine oC_ fun J hJ=>?_
     simp [go_sem,sHasS_at b os _ _ hF,g1,g2,g3]
     refine hJ _ _ _ ?_
     clear hJ J
    refine oN_ ?_
    refine ⟨rfl,?_⟩
    refine hK6 _ ?_
    clear hK6
    refine aF_ rfl ?_
    refine aK_ ?_
    exact jK4 _ _ hi (wO_ [((1,0),some (1,0)),((0,48),some (0,48))] (by simp [go_sem]) (by simp [go_sem]) (by simp [go_sem]))
 ·
  have hr:placeW b os c=.error 4:=if_neg hok
  cases h1:itemB c.a <;> cases h2:itemB c.b <;> cases h3:decide (1<=c.n/\c.n<=1000)
  all_goals first | (exfalso; simp only [h1,h2,h3] at hok; exact hok rfl) | skip
  all_goals
   refine aR_ ?_
   iterate 13
    refine oC_ fun J hJ=>?_
    simp [go_sem,pBuyerS_at,sItemS_at,numInS_at,h1,h2,h3,askS_at,askH_f]
    refine hJ _ _ _ ?_
    clear hJ J
   refine oC_ fun J hJ=>?_
   clear hJ
   simp [go_sem,pBuyerS_at,sItemS_at,numInS_at,h1,h2,h3,askS_at,askH_f]
   refine fQ_ [((1,0),some (1,0))] ?_
   simp [go_sem,Tryz.f104,wkH,hr]
theorem take_cInt (n:Int):List.take 1 (cInt n)=cInt n:=rfl
theorem orderH_t {b:Bk} {os:List Ord} {r a:Id} {st:List Int} (h:inC os a st=0):orderH b os r a st=⟨.agg (cOrd (inO os a st)),[.obj (cWk b (.sl 7 (rows cOrd os)) .nils a),.row 3 1 (rows cInt st) false],[]⟩:=if_pos h
theorem orderH_f {b:Bk} {os:List Ord} {r a:Id} {st:List Int} (h:inC os a st ≠ 0):orderH b os r a st=⟨.pnc (.ifc 136 (.agg [.int .i64 (inC os a st)])),[.obj (cWk b (.sl 7 (rows cOrd os)) .nils r),.row 3 1 (rows cInt st) false],[]⟩:=if_neg h
theorem order_at1 (a:Id) (st:Int) (b:Bk) (os:List Ord) (r:Id) (h:os.length<=50000):orderS [.ref (1,0) 0,.agg (cId a),.own (1,1) 1] [.obj (cWk b (.sl 7 (rows cOrd os)) .nils r),.row 3 1 [cInt st] false]=some (orderH b os r a [st]):=orderS_at a [st] b os r ⟨h,by simp⟩
theorem order_at2 (a:Id) (s1 s2:Int) (b:Bk) (os:List Ord) (r:Id) (h:os.length<=50000):orderS [.ref (1,0) 0,.agg (cId a),.own (1,1) 2] [.obj (cWk b (.sl 7 (rows cOrd os)) .nils r),.row 3 1 (rows cInt [s1,s2]) false]=some (orderH b os r a [s1,s2]):=orderS_at a [s1,s2] b os r ⟨h,by simp⟩
def FairO (os:List Ord):Prop:=∀ o ∈ os,(0<=o.buyer/\o.buyer<=7)/\(0<=o.item/\o.item<=7)/\(1<=o.qty/\o.qty<=1000)/\(0<=o.cost/\o.cost<=1099511627776)/\1<=o.state/\o.state<=5
theorem inO_mem {os:List Ord} {a:Id} {st:List Int} (h:inC os a st=0):inO os a st ∈ os:=by
 unfold inO
 rw [if_pos h]
 unfold inC at h
 cases hf:findL os a with
 | none=>rw [hf] at h; simp at h
 | some x=>simp only [Option.getD_some]; exact List.mem_of_find?_eq_some hf
theorem addB_fair {b d:Bk} {i n:Int} (h:FairB b) (hd:addB' b i n=.ok d):FairB d:=by
 unfold addB' at hd
 split at hd
 ·
  rename_i hf
  split at hd
  ·
   rename_i hle
   cases hd
   obtain ⟨_,_,_,h5,hn,_⟩:=fineB_rng hf
   intro j hj
   obtain ⟨s0,s1,rest⟩:=h j hj
   obtain ⟨t0,t1,_⟩:=h _ h5
   refine ⟨?_,?_,rest⟩ <;> simp only [put_at _ _ _ _ h5] <;> split <;> omega
  · cases hd
 · cases hd
def chgQ (o:Ord) (q:Int):Ord:={ o with qty:=q }
def chgK (o:Ord) (k:Int):Ord:={ o with cost:=k }
@[go_sem] theorem chgK_buyer (o:Ord) (k:Int):(chgK o k).buyer=o.buyer:=rfl
@[go_sem] theorem chgQ_item (o:Ord) (k:Int):(chgQ o k).item=o.item:=rfl
def amendW (b:Bk) (os:List Ord) (c:Chg):Except Int (Bk × List Ord × List Eff × Id):=
 if decide (1<=c.n/\c.n<=1000)=true then
  if inC os c.ref [1]=0 then
   match (if 0<=c.n - (inO os c.ref [1]).qty then takeB b (inO os c.ref [1]).item (c.n - (inO os c.ref [1]).qty) else addB' b (inO os c.ref [1]).item (-(c.n - (inO os c.ref [1]).qty))) with
   | .ok d=>.ok (d,putL os (chgS (chgQ (inO os c.ref [1]) c.n) 1),[⟨2,(inO os c.ref [1]).item,c.n,c.ref⟩],c.ref)
   | .error e=>.error e
  else .error (inC os c.ref [1])
 else .error 4
def cancelW (b:Bk) (os:List Ord) (c:Chg):Except Int (Bk × List Ord × List Eff × Id):=
 if inC os c.ref [1,2]=0 then
  match addB' b (inO os c.ref [1,2]).item (inO os c.ref [1,2]).qty with
  | .error e=>.error e
  | .ok d=>
   if (inO os c.ref [1,2]).state=2 then
    match giveB d (inO os c.ref [1,2]).buyer (inO os c.ref [1,2]).cost with
    | .error e=>.error e
    | .ok d2=>.ok (d2,putL os (chgS (inO os c.ref [1,2]) 4),[⟨3,(inO os c.ref [1,2]).item,(inO os c.ref [1,2]).qty,c.ref⟩,⟨10,(inO os c.ref [1,2]).buyer,(inO os c.ref [1,2]).cost,c.ref⟩,⟨7,(inO os c.ref [1,2]).buyer,2,c.ref⟩],c.ref)
   else .ok (d,putL os (chgS (inO os c.ref [1,2]) 4),[⟨3,(inO os c.ref [1,2]).item,(inO os c.ref [1,2]).qty,c.ref⟩,⟨7,(inO os c.ref [1,2]).buyer,2,c.ref⟩],c.ref)
 else .error (inC os c.ref [1,2])
def payW (b:Bk) (os:List Ord) (c:Chg):Except Int (Bk × List Ord × List Eff × Id):=
 if inC os c.ref [1]=0 then
  match costB b (inO os c.ref [1]).item (inO os c.ref [1]).qty with
  | .error e=>.error e
  | .ok k=>
   match payB b (inO os c.ref [1]).buyer k with
   | .error e=>.error e
   | .ok d=>.ok (d,putL os (chgS (chgK (inO os c.ref [1]) k) 2),[⟨4,(inO os c.ref [1]).buyer,k,c.ref⟩,⟨9,(inO os c.ref [1]).buyer,k,c.ref⟩],c.ref)
 else .error (inC os c.ref [1])
def shipW (b:Bk) (os:List Ord) (c:Chg):Except Int (Bk × List Ord × List Eff × Id):=
 if inC os c.ref [2]=0 then
  .ok (b,putL os (chgS (inO os c.ref [2]) 3),[⟨5,(inO os c.ref [2]).item,(inO os c.ref [2]).qty,c.ref⟩,⟨6,(inO os c.ref [2]).item,(inO os c.ref [2]).qty,c.ref⟩,⟨11,(inO os c.ref [2]).item,(inO os c.ref [2]).qty,c.ref⟩,⟨7,(inO os c.ref [2]).buyer,3,c.ref⟩],c.ref)
 else .error (inC os c.ref [2])
def refundW (b:Bk) (os:List Ord) (c:Chg):Except Int (Bk × List Ord × List Eff × Id):=
 if inC os c.ref [3]=0 then
  match giveB b (inO os c.ref [3]).buyer (inO os c.ref [3]).cost with
  | .error e=>.error e
  | .ok d=>.ok (d,putL os (chgS (inO os c.ref [3]) 5),[⟨10,(inO os c.ref [3]).buyer,(inO os c.ref [3]).cost,c.ref⟩],c.ref)
 else .error (inC os c.ref [3])
theorem giveB_ne {b:Bk} {i n e:Int} (h:giveB b i n=.error e):e ≠ 0:=by
 unfold giveB at h
 split at h
 · split at h <;> cases h; decide
 · cases h; decide
theorem addB_ne {b:Bk} {i n e:Int} (h:addB' b i n=.error e):e ≠ 0:=by
 unfold addB' at h
 split at h
 · split at h <;> cases h; decide
 · cases h; decide
theorem payB_ne {b:Bk} {i n e:Int} (h:payB b i n=.error e):e ≠ 0:=by
 unfold payB at h
 split at h
 · split at h <;> cases h; decide
 · cases h; decide
theorem costB_ne {b:Bk} {i n e:Int} (h:costB b i n=.error e):(e == 0)=false:=by
 unfold costB at h
 split at h
 · split at h <;> cases h; rfl
 · cases h; rfl
structure wshipX where
 c:Chg
 b:Bk
 os:List Ord
 hL:FairB b/\FairO os/\os.length<=40000
noncomputable def wshipS:HSpec:=mkH (ι:=wshipX) (fun ⟨c,b,os,hL⟩=>([.ref (1,0) 0,.agg (cChg c)],[.obj (cWk b (.sl 7 (rows cOrd os)) .nils zId)])) fun ⟨c,b,os,hL⟩=>wkH (shipW b os c)
theorem wshipS_atG (c:Chg) (b:Bk) (os:List Ord) (hL:FairB b/\FairO os/\os.length<=40000):wshipS [.ref (1,0) 0,.agg (cChg c)] [.obj (cWk b (.sl 7 (rows cOrd os)) .nils zId)]=some (wkH (shipW b os c)):=
 mA_ (ι:=wshipX) (fun i j h=>by obtain ⟨c,b,os,hL⟩:=i; obtain ⟨c2,b2,os2,hL2⟩:=j; simp [and_assoc,qB_,qI_,qO_,qC_,qE_,qK_,qR_,qV_,qP_,qOc_,rows_iff_Ord,rows_iff_Eff,rows_iff_Int,cWk_eq_iff] at h; obtain ⟨rfl,rfl,rfl⟩:=h; rfl) ⟨c,b,os,hL⟩
theorem wshipS_at (c:Chg) (b:Bk) (os:List Ord) (hL:FairB b/\FairO os/\os.length<=40000):wshipS [.ref (1,0) 0,.agg (cChg c)] [.obj (cWk b (.sl 7 (rows cOrd os)) .nils zId)]=some (wkH (shipW b os c)):=wshipS_atG c b os hL
theorem wship_ok:HSound Tryz.prog 108 wshipS:=by
 refine sE_ (fn:=Tryz.f108) rfl rfl (by kernel_rfl) fun args bx hr hS=>?_
 obtain ⟨⟨c,b,os,hL⟩,rfl,rfl,rfl⟩:=mO_ hS
 clear hS
 refine ⟨_,(eV_ (g:=99) (by kernel_rfl) ask_ok (eH_ (g:=100) (by kernel_rfl) (twoS_sound must0_ok must1_ok) (eH_ (g:=122) (by kernel_rfl) (twoS_sound wput0_ok wput1_ok) (eH_ (g:=103) (by kernel_rfl) (twoS_sound tell0_ok tell1_ok) (eH_ (g:=121) (by kernel_rfl) order_ok (eN_ _)))))),by simp [Tryz.f108],by simp [wkH_go,go_sem],fun w Mx pin=>?_⟩
 simp only [hB_at,lab_nil,lab_cons,hOf_nil,hOf_cons]
 obtain ⟨hF,hO,hlen⟩:=hL
 refine aQ_ ?_
 iterate 1
  refine oC_ fun J hJ=>?_
  simp [go_sem]
  refine hJ _ _ _ ?_
  clear hJ J
 refine oN_ ?_
 refine aS_ fun K2 hK2=>?_
 by_cases hc:inC os c.ref [2]=0
 ·
  obtain ⟨q,hq⟩:∃ q,q=inO os c.ref [2]:=⟨_,rfl⟩
  have hqm:=hO _ (hq ▸ inO_mem hc)
  obtain ⟨_,_,hq1,_⟩:=hqm
  refine aR_ ?_
  iterate 7
   refine oC_ fun J hJ=>?_
   simp [go_sem,take_cInt,order_at1 c.ref 2 b os zId (by omega),orderH_t hc,<-hq]
   refine hJ _ _ _ ?_
   clear hJ J
  refine oN_ ?_
  refine hK2 _ ?_
  clear hK2
  refine aQ_ ?_
  iterate 3
   refine oC_ fun J hJ=>?_
   simp [go_sem,wput0_at2 q 3 b os c.ref (by omega)]
   refine hJ _ _ _ ?_
   clear hJ J
  refine oN_ ?_
  refine aQ_ ?_
  iterate 6
   refine oC_ fun J hJ=>?_
   simp [go_sem,tell0_at2 5 q.item q.qty b (putL os (chgS q 3)) c.ref (by have:=putL_len os (chgS q 3); omega)]
   refine hJ _ _ _ ?_
   clear hJ J
  refine oN_ ?_
  refine aQ_ ?_
  iterate 6
   refine oC_ fun J hJ=>?_
   simp [go_sem,tell1n 6 q.item q.qty b (putL os (chgS q 3)) c.ref [⟨5,q.item,q.qty,c.ref⟩] 1 rfl (by simp)]
   refine hJ _ _ _ ?_
   clear hJ J
  refine oN_ ?_
  refine aQ_ ?_
  iterate 6
   refine oC_ fun J hJ=>?_
   simp [go_sem,tell1n 11 q.item q.qty b (putL os (chgS q 3)) c.ref [⟨5,q.item,q.qty,c.ref⟩,⟨6,q.item,q.qty,c.ref⟩] 2 rfl (by simp)]
   refine hJ _ _ _ ?_
   clear hJ J
  refine oN_ ?_
  refine aR_ ?_
  iterate 4
   refine oC_ fun J hJ=>?_
   simp [go_sem,tell1n 7 q.buyer 3 b (putL os (chgS q 3)) c.ref [⟨5,q.item,q.qty,c.ref⟩,⟨6,q.item,q.qty,c.ref⟩,⟨11,q.item,q.qty,c.ref⟩] 3 rfl (by simp)]
   refine hJ _ _ _ ?_
   clear hJ J
  refine oN_ ?_
  have hr:shipW b os c=_:=if_pos hc
  rw [<-hq] at hr
  refine fQ_ [((1,0),some (1,0)),((2,0),some (0,544))] ?_
  simp [go_sem,Tryz.f108,wkH,hr]
 ·
  have hr:shipW b os c=.error (inC os c.ref [2]):=by unfold shipW; exact if_neg hc
  refine aR_ ?_
  iterate 4
   refine oC_ fun J hJ=>?_
   simp [go_sem,take_cInt,order_at1 c.ref 2 b os zId (by omega),orderH_f hc]
   refine hJ _ _ _ ?_
   clear hJ J
  refine oC_ fun J hJ=>?_
  clear hJ
  simp [go_sem,take_cInt,order_at1 c.ref 2 b os zId (by omega),orderH_f hc]
  refine fQ_ [((1,0),some (1,0))] ?_
  simp [go_sem,Tryz.f108,wkH,hr]
structure wrefundX where
 c:Chg
 b:Bk
 os:List Ord
 hL:FairB b/\FairO os/\os.length<=40000
noncomputable def wrefundS:HSpec:=mkH (ι:=wrefundX) (fun ⟨c,b,os,hL⟩=>([.ref (1,0) 0,.agg (cChg c)],[.obj (cWk b (.sl 7 (rows cOrd os)) .nils zId)])) fun ⟨c,b,os,hL⟩=>wkH (refundW b os c)
theorem wrefundS_atG (c:Chg) (b:Bk) (os:List Ord) (hL:FairB b/\FairO os/\os.length<=40000):wrefundS [.ref (1,0) 0,.agg (cChg c)] [.obj (cWk b (.sl 7 (rows cOrd os)) .nils zId)]=some (wkH (refundW b os c)):=
 mA_ (ι:=wrefundX) (fun i j h=>by obtain ⟨c,b,os,hL⟩:=i; obtain ⟨c2,b2,os2,hL2⟩:=j; simp [and_assoc,qB_,qI_,qO_,qC_,qE_,qK_,qR_,qV_,qP_,qOc_,rows_iff_Ord,rows_iff_Eff,rows_iff_Int,cWk_eq_iff] at h; obtain ⟨rfl,rfl,rfl⟩:=h; rfl) ⟨c,b,os,hL⟩
theorem wrefundS_at (c:Chg) (b:Bk) (os:List Ord) (hL:FairB b/\FairO os/\os.length<=40000):wrefundS [.ref (1,0) 0,.agg (cChg c)] [.obj (cWk b (.sl 7 (rows cOrd os)) .nils zId)]=some (wkH (refundW b os c)):=wrefundS_atG c b os hL
theorem wrefund_ok:HSound Tryz.prog 109 wrefundS:=by
 refine sE_ (fn:=Tryz.f109) rfl rfl (by kernel_rfl) fun args bx hr hS=>?_
 obtain ⟨⟨c,b,os,hL⟩,rfl,rfl,rfl⟩:=mO_ hS
 clear hS
 refine ⟨_,(eV_ (g:=99) (by kernel_rfl) ask_ok (eH_ (g:=100) (by kernel_rfl) (twoS_sound must0_ok must1_ok) (eH_ (g:=122) (by kernel_rfl) (twoS_sound wput0_ok wput1_ok) (eH_ (g:=103) (by kernel_rfl) (twoS_sound tell0_ok tell1_ok) (eH_ (g:=121) (by kernel_rfl) order_ok (eV_ (g:=102) (by kernel_rfl) pGive_ok (eN_ _))))))),by simp [Tryz.f109],by simp [wkH_go,go_sem],fun w Mx pin=>?_⟩
 simp only [hB_at,lab_nil,lab_cons,hOf_nil,hOf_cons]
 obtain ⟨hF,hO,hlen⟩:=hL
 refine aQ_ ?_
 iterate 1
  refine oC_ fun J hJ=>?_
  simp [go_sem]
  refine hJ _ _ _ ?_
  clear hJ J
 refine oN_ ?_
 refine aS_ fun K2 hK2=>?_
 by_cases hc:inC os c.ref [3]=0
 ·
  obtain ⟨q,hq⟩:∃ q,q=inO os c.ref [3]:=⟨_,rfl⟩
  have hqm:=hO _ (hq ▸ inO_mem hc)
  obtain ⟨_,_,hq1,_⟩:=hqm
  refine aR_ ?_
  iterate 7
   refine oC_ fun J hJ=>?_
   simp [go_sem,take_cInt,order_at1 c.ref 3 b os zId (by omega),orderH_t hc,<-hq]
   refine hJ _ _ _ ?_
   clear hJ J
  refine oN_ ?_
  refine hK2 _ ?_
  clear hK2
  refine aS_ fun K3 hK3=>?_
  rcases hg:giveB b q.buyer q.cost with e | d
  ·
   have hr:refundW b os c=.error e:=by unfold refundW; rw [if_pos hc]; simp only [<-hq,hg]
   refine awp_drawL 12 rfl rfl ?_
   simp only [List.take_succ_cons,List.take_zero]
   iterate 12
    refine oC_ fun J hJ=>?_
    simp [go_sem,pGiveS_at b os q.buyer q.cost hF,hg,bkH,must0_fz (giveB_ne hg)]
    refine hJ _ _ _ ?_
    clear hJ J
   refine oN_ ?_
   refine ⟨rfl,?_⟩
   simp [go_sem,pGiveS_at b os q.buyer q.cost hF,hg,bkH,must0_fz (giveB_ne hg)]
   refine fQ_ [((1,0),some (1,0))] ?_
   simp [go_sem,Tryz.f109,wkH,hr]
  ·
   have hr:refundW b os c=.ok (d,putL os (chgS q 5),[⟨10,q.buyer,q.cost,c.ref⟩],c.ref):=by unfold refundW; rw [if_pos hc]; simp only [<-hq,hg]
   have hpl:=putL_len os (chgS q 5)
   refine aD_ ?_
   iterate 13
    refine oC_ fun J hJ=>?_
    simp [go_sem,pGiveS_at b os q.buyer q.cost hF,hg,bkH,must0_t]
    refine hJ _ _ _ ?_
    clear hJ J
   refine oN_ ?_
   refine ⟨rfl,?_⟩
   refine hK3 _ ?_
   clear hK3
   refine aQ_ ?_
   iterate 3
    refine oC_ fun J hJ=>?_
    simp [go_sem,wput0_at2 q 5 d os c.ref (by omega)]
    refine hJ _ _ _ ?_
    clear hJ J
   refine oN_ ?_
   refine aR_ ?_
   iterate 6
    refine oC_ fun J hJ=>?_
    simp [go_sem,tell0_at2 10 q.buyer q.cost d (putL os (chgS q 5)) c.ref (by omega)]
    refine hJ _ _ _ ?_
    clear hJ J
   refine oN_ ?_
   refine fQ_ [((1,0),some (1,0)),((2,0),some (0,496))] ?_
   simp [go_sem,Tryz.f109,wkH,hr]
 ·
  have hr:refundW b os c=.error (inC os c.ref [3]):=by unfold refundW; exact if_neg hc
  refine aR_ ?_
  iterate 4
   refine oC_ fun J hJ=>?_
   simp [go_sem,take_cInt,order_at1 c.ref 3 b os zId (by omega),orderH_f hc]
   refine hJ _ _ _ ?_
   clear hJ J
  refine oC_ fun J hJ=>?_
  clear hJ
  simp [go_sem,take_cInt,order_at1 c.ref 3 b os zId (by omega),orderH_f hc]
  refine fQ_ [((1,0),some (1,0))] ?_
  simp [go_sem,Tryz.f109,wkH,hr]
structure wpayX where
 c:Chg
 b:Bk
 os:List Ord
 hL:FairB b/\FairO os/\os.length<=40000
noncomputable def wpayS:HSpec:=mkH (ι:=wpayX) (fun ⟨c,b,os,hL⟩=>([.ref (1,0) 0,.agg (cChg c)],[.obj (cWk b (.sl 7 (rows cOrd os)) .nils zId)])) fun ⟨c,b,os,hL⟩=>wkH (payW b os c)
theorem wpayS_atG (c:Chg) (b:Bk) (os:List Ord) (hL:FairB b/\FairO os/\os.length<=40000):wpayS [.ref (1,0) 0,.agg (cChg c)] [.obj (cWk b (.sl 7 (rows cOrd os)) .nils zId)]=some (wkH (payW b os c)):=
 mA_ (ι:=wpayX) (fun i j h=>by obtain ⟨c,b,os,hL⟩:=i; obtain ⟨c2,b2,os2,hL2⟩:=j; simp [and_assoc,qB_,qI_,qO_,qC_,qE_,qK_,qR_,qV_,qP_,qOc_,rows_iff_Ord,rows_iff_Eff,rows_iff_Int,cWk_eq_iff] at h; obtain ⟨rfl,rfl,rfl⟩:=h; rfl) ⟨c,b,os,hL⟩
theorem wpayS_at (c:Chg) (b:Bk) (os:List Ord) (hL:FairB b/\FairO os/\os.length<=40000):wpayS [.ref (1,0) 0,.agg (cChg c)] [.obj (cWk b (.sl 7 (rows cOrd os)) .nils zId)]=some (wkH (payW b os c)):=wpayS_atG c b os hL
theorem wpay_ok:HSound Tryz.prog 107 wpayS:=by
 refine sE_ (fn:=Tryz.f107) rfl rfl (by kernel_rfl) fun args bx hr hS=>?_
 obtain ⟨⟨c,b,os,hL⟩,rfl,rfl,rfl⟩:=mO_ hS
 clear hS
 refine ⟨_,(eV_ (g:=99) (by kernel_rfl) ask_ok (eH_ (g:=100) (by kernel_rfl) (twoS_sound must0_ok must1_ok) (eH_ (g:=122) (by kernel_rfl) (twoS_sound wput0_ok wput1_ok) (eH_ (g:=103) (by kernel_rfl) (twoS_sound tell0_ok tell1_ok) (eH_ (g:=121) (by kernel_rfl) order_ok (eV_ (g:=123) (by kernel_rfl) sCost_ok (eV_ (g:=124) (by kernel_rfl) pPay_ok (eN_ _)))))))),by simp [Tryz.f107],by simp [wkH_go,go_sem],fun w Mx pin=>?_⟩
 simp only [hB_at,lab_nil,lab_cons,hOf_nil,hOf_cons]
 obtain ⟨hF,hO,hlen⟩:=hL
 refine aQ_ ?_
 iterate 1
  refine oC_ fun J hJ=>?_
  simp [go_sem]
  refine hJ _ _ _ ?_
  clear hJ J
 refine oN_ ?_
 refine aS_ fun K2 hK2=>?_
 by_cases hc:inC os c.ref [1]=0
 ·
  obtain ⟨q,hq⟩:∃ q,q=inO os c.ref [1]:=⟨_,rfl⟩
  have hqm:=hO _ (hq ▸ inO_mem hc)
  obtain ⟨_,_,hq1,_⟩:=hqm
  refine aR_ ?_
  iterate 7
   refine oC_ fun J hJ=>?_
   simp [go_sem,take_cInt,order_at1 c.ref 1 b os zId (by omega),orderH_t hc,<-hq]
   refine hJ _ _ _ ?_
   clear hJ J
  refine oN_ ?_
  refine hK2 _ ?_
  clear hK2
  refine aS_ fun K3 hK3=>?_
  rcases hk:costB b q.item q.qty with e | k
  ·
   have hr:payW b os c=.error e:=by unfold payW; rw [if_pos hc]; simp only [<-hq,hk]
   refine aD_ ?_
   iterate 14
    refine oC_ fun J hJ=>?_
    simp [go_sem,sCostS_at b os q.item q.qty hF,hk,costH]
    refine hJ _ _ _ ?_
    clear hJ J
   refine oN_ ?_
   refine ⟨rfl,?_⟩
   refine hK3 _ ?_
   clear hK3
   refine aS_ fun K4 hK4=>?_
   refine aR_ ?_
   iterate 3
    refine oC_ fun J hJ=>?_
    simp [go_sem,costB_ne hk,askS_at,askH_f]
    refine hJ _ _ _ ?_
    clear hJ J
   refine oC_ fun J hJ=>?_
   clear hJ
   simp [go_sem,costB_ne hk,askS_at,askH_f]
   refine fQ_ [((1,0),some (1,0))] ?_
   simp [go_sem,Tryz.f107,wkH,hr]
  ·
   refine aD_ ?_
   iterate 14
    refine oC_ fun J hJ=>?_
    simp [go_sem,sCostS_at b os q.item q.qty hF,hk,costH]
    refine hJ _ _ _ ?_
    clear hJ J
   refine oN_ ?_
   refine ⟨rfl,?_⟩
   refine hK3 _ ?_
   clear hK3
   refine aQ_ ?_
   iterate 4
    refine oC_ fun J hJ=>?_
    simp [go_sem,askS_at,askH_t]
    refine hJ _ _ _ ?_
    clear hJ J
   refine oN_ ?_
   refine aS_ fun K5 hK5=>?_
   rcases hg:payB b q.buyer k with e | d
   ·
    have hr:payW b os c=.error e:=by unfold payW; rw [if_pos hc]; simp only [<-hq,hk,hg]
    refine awp_drawL 11 rfl rfl ?_
    simp only [List.take_succ_cons,List.take_zero]
    iterate 11
     refine oC_ fun J hJ=>?_
     simp [go_sem,pPayS_at b os q.buyer k hF,hg,bkH,must0_fz (payB_ne hg)]
     refine hJ _ _ _ ?_
     clear hJ J
    refine oN_ ?_
    refine ⟨rfl,?_⟩
    simp [go_sem,pPayS_at b os q.buyer k hF,hg,bkH,must0_fz (payB_ne hg)]
    refine fQ_ [((1,0),some (1,0))] ?_
    simp [go_sem,Tryz.f107,wkH,hr]
   ·
    have hr:payW b os c=.ok (d,putL os (chgS (chgK q k) 2),[⟨4,q.buyer,k,c.ref⟩,⟨9,q.buyer,k,c.ref⟩],c.ref):=by unfold payW; rw [if_pos hc]; simp only [<-hq,hk,hg]
    have hpl:=putL_len os (chgS (chgK q k) 2)
    have hck:cOrd { id:=q.id,buyer:=q.buyer,item:=q.item,qty:=q.qty,cost:=k,state:=q.state }=cOrd (chgK q k):=rfl
    refine aD_ ?_
    iterate 12
     refine oC_ fun J hJ=>?_
     simp [go_sem,pPayS_at b os q.buyer k hF,hg,bkH,must0_t]
     refine hJ _ _ _ ?_
     clear hJ J
    refine oN_ ?_
    refine ⟨rfl,?_⟩
    refine hK5 _ ?_
    clear hK5
    refine aQ_ ?_
    iterate 3
     refine oC_ fun J hJ=>?_
     simp [go_sem,hck]
     refine hJ _ _ _ ?_
     clear hJ J
    refine oN_ ?_
    refine aQ_ ?_
    iterate 3
     refine oC_ fun J hJ=>?_
     simp [go_sem,hck,wput0_at2 (chgK q k) 2 d os c.ref (by omega)]
     refine hJ _ _ _ ?_
     clear hJ J
    refine oN_ ?_
    refine aQ_ ?_
    iterate 5
     refine oC_ fun J hJ=>?_
     simp [go_sem,tell0_at2 4 q.buyer k d (putL os (chgS (chgK q k) 2)) c.ref (by omega)]
     refine hJ _ _ _ ?_
     clear hJ J
    refine oN_ ?_
    refine aR_ ?_
    iterate 5
     refine oC_ fun J hJ=>?_
     simp [go_sem,tell1n 9 q.buyer k d (putL os (chgS (chgK q k) 2)) c.ref [⟨4,q.buyer,k,c.ref⟩] 1 rfl (by simp)]
     refine hJ _ _ _ ?_
     clear hJ J
    refine oN_ ?_
    refine fQ_ [((1,0),some (1,0)),((2,0),some (0,864))] ?_
    simp [go_sem,Tryz.f107,wkH,hr]
 ·
  have hr:payW b os c=.error (inC os c.ref [1]):=by unfold payW; exact if_neg hc
  refine aR_ ?_
  iterate 4
   refine oC_ fun J hJ=>?_
   simp [go_sem,take_cInt,order_at1 c.ref 1 b os zId (by omega),orderH_f hc]
   refine hJ _ _ _ ?_
   clear hJ J
  refine oC_ fun J hJ=>?_
  clear hJ
  simp [go_sem,take_cInt,order_at1 c.ref 1 b os zId (by omega),orderH_f hc]
  refine fQ_ [((1,0),some (1,0))] ?_
  simp [go_sem,Tryz.f107,wkH,hr]
@[go_sem] theorem take_cInt2 (n:Int) (l:List AV):List.take 1 (cInt n++l)=cInt n:=rfl
@[go_sem] theorem drop_cInt2 (n:Int) (l:List AV):List.drop 1 (cInt n++l)=l:=rfl
@[go_sem] theorem tail_cInt2 (n:Int) (l:List AV):(cInt n++l).tail=l:=rfl
structure wamendX where
 c:Chg
 b:Bk
 os:List Ord
 hL:FairB b/\FairO os/\os.length<=40000
noncomputable def wamendS:HSpec:=mkH (ι:=wamendX) (fun ⟨c,b,os,hL⟩=>([.ref (1,0) 0,.agg (cChg c)],[.obj (cWk b (.sl 7 (rows cOrd os)) .nils zId)])) fun ⟨c,b,os,hL⟩=>wkH (amendW b os c)
theorem wamendS_atG (c:Chg) (b:Bk) (os:List Ord) (hL:FairB b/\FairO os/\os.length<=40000):wamendS [.ref (1,0) 0,.agg (cChg c)] [.obj (cWk b (.sl 7 (rows cOrd os)) .nils zId)]=some (wkH (amendW b os c)):=
 mA_ (ι:=wamendX) (fun i j h=>by obtain ⟨c,b,os,hL⟩:=i; obtain ⟨c2,b2,os2,hL2⟩:=j; simp [and_assoc,qB_,qI_,qO_,qC_,qE_,qK_,qR_,qV_,qP_,qOc_,rows_iff_Ord,rows_iff_Eff,rows_iff_Int,cWk_eq_iff] at h; obtain ⟨rfl,rfl,rfl⟩:=h; rfl) ⟨c,b,os,hL⟩
theorem wamendS_at (c:Chg) (b:Bk) (os:List Ord) (hL:FairB b/\FairO os/\os.length<=40000):wamendS [.ref (1,0) 0,.agg (cChg c)] [.obj (cWk b (.sl 7 (rows cOrd os)) .nils zId)]=some (wkH (amendW b os c)):=wamendS_atG c b os hL
theorem wamend_ok:HSound Tryz.prog 105 wamendS:=by
 refine sE_ (fn:=Tryz.f105) rfl rfl (by kernel_rfl) fun args bx hr hS=>?_
 obtain ⟨⟨c,b,os,hL⟩,rfl,rfl,rfl⟩:=mO_ hS
 clear hS
 refine ⟨_,(eV_ (g:=99) (by kernel_rfl) ask_ok (eH_ (g:=100) (by kernel_rfl) (twoS_sound must0_ok must1_ok) (eH_ (g:=122) (by kernel_rfl) (twoS_sound wput0_ok wput1_ok) (eH_ (g:=103) (by kernel_rfl) (twoS_sound tell0_ok tell1_ok) (eH_ (g:=121) (by kernel_rfl) order_ok (eV_ (g:=70) (by kernel_rfl) numIn_ok (eV_ (g:=120) (by kernel_rfl) sTake_ok (eV_ (g:=101) (by kernel_rfl) sAdd_ok (eN_ _))))))))),by simp [Tryz.f105],by simp [wkH_go,go_sem],fun w Mx pin=>?_⟩
 simp only [hB_at,lab_nil,lab_cons,hOf_nil,hOf_cons]
 obtain ⟨hF,hO,hlen⟩:=hL
 refine aQ_ ?_
 iterate 1
  refine oC_ fun J hJ=>?_
  simp [go_sem]
  refine hJ _ _ _ ?_
  clear hJ J
 refine oN_ ?_
 refine aS_ fun K2 hK2=>?_
 by_cases hcn:decide (1<=c.n/\c.n<=1000)=true
 ·
  have hcn2:=of_decide_eq_true hcn
  refine aR_ ?_
  iterate 4
   refine oC_ fun J hJ=>?_
   simp [go_sem,numInS_at c.n 1 1000,hcn,askS_at,askH_t]
   refine hJ _ _ _ ?_
   clear hJ J
  refine oN_ ?_
  refine hK2 _ ?_
  clear hK2
  refine aS_ fun K3 hK3=>?_
  by_cases hc:inC os c.ref [1]=0
  ·
   obtain ⟨q,hq⟩:∃ q,q=inO os c.ref [1]:=⟨_,rfl⟩
   have hqm:=hO _ (hq ▸ inO_mem hc)
   obtain ⟨_,_,hq1,_⟩:=hqm
   have hw:=wA_ (n:=c.n - q.qty) (by omega)
   have hwn:=wA_ (n:=-(c.n - q.qty)) (by omega)
   have hcq:cOrd { id:=q.id,buyer:=q.buyer,item:=q.item,qty:=c.n,cost:=q.cost,state:=q.state }=cOrd (chgQ q c.n):=rfl
   refine aR_ ?_
   iterate 7
    refine oC_ fun J hJ=>?_
    simp [go_sem,take_cInt,order_at1 c.ref 1 b os zId (by omega),orderH_t hc,<-hq]
    refine hJ _ _ _ ?_
    clear hJ J
   refine oN_ ?_
   refine hK3 _ ?_
   clear hK3
   refine aS_ fun K4 hK4=>?_
   refine aQ_ ?_
   iterate 6
    refine oC_ fun J hJ=>?_
    simp [go_sem,hw]
    refine hJ _ _ _ ?_
    clear hJ J
   refine oN_ ?_
   refine aQ_ ?_
   iterate 2
    refine oC_ fun J hJ=>?_
    simp [go_sem]
    refine hJ _ _ _ ?_
    clear hJ J
   refine oN_ ?_
   refine aC_ (t:=_) rfl (fun c7=>?_) (fun c7=>?_)
   ·
    simp [go_sem] at c7
    have c7b:0<=c.n - q.qty:=by omega
    rcases htk:takeB b q.item (c.n - q.qty) with e | d
    ·
     have hr:amendW b os c=.error e:=by unfold amendW; rw [if_pos hcn,if_pos hc,<-hq,if_pos c7b,htk]
     refine awp_drawL 11 rfl rfl ?_
     simp only [List.take_succ_cons,List.take_zero]
     iterate 11
      refine oC_ fun J hJ=>?_
      simp [go_sem,hw,sTakeS_at b os q.item (c.n - q.qty) hF,htk,bkH,must0_fz (takeB_ne htk)]
      refine hJ _ _ _ ?_
      clear hJ J
     refine oN_ ?_
     refine ⟨rfl,?_⟩
     simp [go_sem,hw,sTakeS_at b os q.item (c.n - q.qty) hF,htk,bkH,must0_fz (takeB_ne htk)]
     refine fQ_ [((1,0),some (1,0))] ?_
     simp [go_sem,Tryz.f105,wkH,hr]
    ·
     have hr:amendW b os c=.ok (d,putL os (chgS (chgQ q c.n) 1),[⟨2,q.item,c.n,c.ref⟩],c.ref):=by unfold amendW; rw [if_pos hcn,if_pos hc,<-hq,if_pos c7b,htk]
     have hpl:=putL_len os (chgS (chgQ q c.n) 1)
     refine aD_ ?_
     iterate 12
      refine oC_ fun J hJ=>?_
      simp [go_sem,hw,sTakeS_at b os q.item (c.n - q.qty) hF,htk,bkH,must0_t]
      refine hJ _ _ _ ?_
      clear hJ J
     refine oN_ ?_
     refine ⟨rfl,?_⟩
     refine hK4 _ ?_
     clear hK4
     refine aQ_ ?_
     iterate 4
      refine oC_ fun J hJ=>?_
      simp [go_sem,hcq]
      refine hJ _ _ _ ?_
      clear hJ J
     refine oN_ ?_
     refine aQ_ ?_
     iterate 3
      refine oC_ fun J hJ=>?_
      simp [go_sem,hcq,wput0_at2 (chgQ q c.n) 1 d os c.ref (by omega)]
      refine hJ _ _ _ ?_
      clear hJ J
     refine oN_ ?_
     refine aR_ ?_
     iterate 6
      refine oC_ fun J hJ=>?_
      simp [go_sem,tell0_at2 2 q.item c.n d (putL os (chgS (chgQ q c.n) 1)) c.ref (by omega)]
      refine hJ _ _ _ ?_
      clear hJ J
     refine oN_ ?_
     refine fQ_ [((1,0),some (1,0)),((2,0),some (0,928))] ?_
     simp [go_sem,Tryz.f105,wkH,hr]
   ·
    simp [go_sem] at c7
    have c7b:¬ 0<=c.n - q.qty:=by omega
    rcases htk:addB' b q.item (-(c.n - q.qty)) with e | d
    ·
     have hr:amendW b os c=.error e:=by unfold amendW; rw [if_pos hcn,if_pos hc,<-hq,if_neg c7b,htk]
     refine awp_drawL 12 rfl rfl ?_
     simp only [List.take_succ_cons,List.take_zero]
     iterate 12
      refine oC_ fun J hJ=>?_
      simp [go_sem,hw,hwn,sAddS_at b os q.item (-(c.n - q.qty)) hF,htk,bkH,must0_fz (addB_ne htk)]
      refine hJ _ _ _ ?_
      clear hJ J
     refine oN_ ?_
     refine ⟨rfl,?_⟩
     simp [go_sem,hw,hwn,sAddS_at b os q.item (-(c.n - q.qty)) hF,htk,bkH,must0_fz (addB_ne htk)]
     refine fQ_ [((1,0),some (1,0))] ?_
     simp [go_sem,Tryz.f105,wkH,hr]
    ·
     have hr:amendW b os c=.ok (d,putL os (chgS (chgQ q c.n) 1),[⟨2,q.item,c.n,c.ref⟩],c.ref):=by unfold amendW; rw [if_pos hcn,if_pos hc,<-hq,if_neg c7b,htk]
     have hpl:=putL_len os (chgS (chgQ q c.n) 1)
     refine aD_ ?_
     iterate 13
      refine oC_ fun J hJ=>?_
      simp [go_sem,hw,hwn,sAddS_at b os q.item (-(c.n - q.qty)) hF,htk,bkH,must0_t]
      refine hJ _ _ _ ?_
      clear hJ J
     refine oN_ ?_
     refine ⟨rfl,?_⟩
     refine hK4 _ ?_
     clear hK4
     refine aQ_ ?_
     iterate 4
      refine oC_ fun J hJ=>?_
      simp [go_sem,hcq]
      refine hJ _ _ _ ?_
      clear hJ J
     refine oN_ ?_
     refine aQ_ ?_
     iterate 3
      refine oC_ fun J hJ=>?_
      simp [go_sem,hcq,wput0_at2 (chgQ q c.n) 1 d os c.ref (by omega)]
      refine hJ _ _ _ ?_
      clear hJ J
     refine oN_ ?_
     refine aR_ ?_
     iterate 6
      refine oC_ fun J hJ=>?_
      simp [go_sem,tell0_at2 2 q.item c.n d (putL os (chgS (chgQ q c.n) 1)) c.ref (by omega)]
      refine hJ _ _ _ ?_
      clear hJ J
     refine oN_ ?_
     refine fQ_ [((1,0),some (1,0)),((2,0),some (0,928))] ?_
     simp [go_sem,Tryz.f105,wkH,hr]
  ·
   have hr:amendW b os c=.error (inC os c.ref [1]):=by unfold amendW; rw [if_pos hcn,if_neg hc]
   refine aR_ ?_
   iterate 4
    refine oC_ fun J hJ=>?_
    simp [go_sem,take_cInt,order_at1 c.ref 1 b os zId (by omega),orderH_f hc]
    refine hJ _ _ _ ?_
    clear hJ J
   refine oC_ fun J hJ=>?_
   clear hJ
   simp [go_sem,take_cInt,order_at1 c.ref 1 b os zId (by omega),orderH_f hc]
   refine fQ_ [((1,0),some (1,0))] ?_
   simp [go_sem,Tryz.f105,wkH,hr]
 ·
  have hr:amendW b os c=.error 4:=if_neg hcn
  have hcf:decide (1<=c.n/\c.n<=1000)=false:=by simpa using hcn
  refine aR_ ?_
  iterate 3
   refine oC_ fun J hJ=>?_
   simp [go_sem,numInS_at c.n 1 1000,hcf,askS_at,askH_f]
   refine hJ _ _ _ ?_
   clear hJ J
  refine oC_ fun J hJ=>?_
  clear hJ
  simp [go_sem,numInS_at c.n 1 1000,hcf,askS_at,askH_f]
  refine fQ_ [((1,0),some (1,0))] ?_
  simp [go_sem,Tryz.f105,wkH,hr]
structure wcancelX where
 c:Chg
 b:Bk
 os:List Ord
 hL:FairB b/\FairO os/\os.length<=40000
noncomputable def wcancelS:HSpec:=mkH (ι:=wcancelX) (fun ⟨c,b,os,hL⟩=>([.ref (1,0) 0,.agg (cChg c)],[.obj (cWk b (.sl 7 (rows cOrd os)) .nils zId)])) fun ⟨c,b,os,hL⟩=>wkH (cancelW b os c)
theorem wcancelS_atG (c:Chg) (b:Bk) (os:List Ord) (hL:FairB b/\FairO os/\os.length<=40000):wcancelS [.ref (1,0) 0,.agg (cChg c)] [.obj (cWk b (.sl 7 (rows cOrd os)) .nils zId)]=some (wkH (cancelW b os c)):=
 mA_ (ι:=wcancelX) (fun i j h=>by obtain ⟨c,b,os,hL⟩:=i; obtain ⟨c2,b2,os2,hL2⟩:=j; simp [and_assoc,qB_,qI_,qO_,qC_,qE_,qK_,qR_,qV_,qP_,qOc_,rows_iff_Ord,rows_iff_Eff,rows_iff_Int,cWk_eq_iff] at h; obtain ⟨rfl,rfl,rfl⟩:=h; rfl) ⟨c,b,os,hL⟩
theorem wcancelS_at (c:Chg) (b:Bk) (os:List Ord) (hL:FairB b/\FairO os/\os.length<=40000):wcancelS [.ref (1,0) 0,.agg (cChg c)] [.obj (cWk b (.sl 7 (rows cOrd os)) .nils zId)]=some (wkH (cancelW b os c)):=wcancelS_atG c b os hL
theorem wcancel_ok:HSound Tryz.prog 106 wcancelS:=by
 refine sE_ (fn:=Tryz.f106) rfl rfl (by kernel_rfl) fun args bx hr hS=>?_
 obtain ⟨⟨c,b,os,hL⟩,rfl,rfl,rfl⟩:=mO_ hS
 clear hS
 refine ⟨_,(eV_ (g:=99) (by kernel_rfl) ask_ok (eH_ (g:=100) (by kernel_rfl) (twoS_sound must0_ok must1_ok) (eH_ (g:=122) (by kernel_rfl) (twoS_sound wput0_ok wput1_ok) (eH_ (g:=103) (by kernel_rfl) (twoS_sound tell0_ok tell1_ok) (eH_ (g:=121) (by kernel_rfl) order_ok (eV_ (g:=101) (by kernel_rfl) sAdd_ok (eV_ (g:=102) (by kernel_rfl) pGive_ok (eN_ _)))))))),by simp [Tryz.f106],by simp [wkH_go,go_sem],fun w Mx pin=>?_⟩
 simp only [hB_at,lab_nil,lab_cons,hOf_nil,hOf_cons]
 obtain ⟨hF,hO,hlen⟩:=hL
 refine aQ_ ?_
 iterate 1
  refine oC_ fun J hJ=>?_
  simp [go_sem]
  refine hJ _ _ _ ?_
  clear hJ J
 refine oN_ ?_
 refine aS_ fun K2 hK2=>?_
 by_cases hc:inC os c.ref [1,2]=0
 ·
  obtain ⟨q,hq⟩:∃ q,q=inO os c.ref [1,2]:=⟨_,rfl⟩
  refine aR_ ?_
  iterate 7
   refine oC_ fun J hJ=>?_
   simp [go_sem,take_cInt,order_at2 c.ref 1 2 b os zId (by omega),orderH_t hc,<-hq]
   refine hJ _ _ _ ?_
   clear hJ J
  refine oN_ ?_
  refine hK2 _ ?_
  clear hK2
  refine aS_ fun K3 hK3=>?_
  rcases hg:addB' b q.item q.qty with e | d
  ·
   have hr:cancelW b os c=.error e:=by unfold cancelW; rw [if_pos hc]; simp only [<-hq,hg]
   refine awp_drawL 12 rfl rfl ?_
   simp only [List.take_succ_cons,List.take_zero]
   iterate 12
    refine oC_ fun J hJ=>?_
    simp [go_sem,sAddS_at b os q.item q.qty hF,hg,bkH,must0_fz (addB_ne hg)]
    refine hJ _ _ _ ?_
    clear hJ J
   refine oN_ ?_
   refine ⟨rfl,?_⟩
   simp [go_sem,sAddS_at b os q.item q.qty hF,hg,bkH,must0_fz (addB_ne hg)]
   refine fQ_ [((1,0),some (1,0))] ?_
   simp [go_sem,Tryz.f106,wkH,hr]
  ·
   have hFd:=addB_fair hF hg
   have hpl:=putL_len os (chgS q 4)
   refine aD_ ?_
   iterate 13
    refine oC_ fun J hJ=>?_
    simp [go_sem,sAddS_at b os q.item q.qty hF,hg,bkH,must0_t]
    refine hJ _ _ _ ?_
    clear hJ J
   refine oN_ ?_
   refine ⟨rfl,?_⟩
   refine hK3 _ ?_
   clear hK3
   refine aQ_ ?_
   iterate 6
    refine oC_ fun J hJ=>?_
    simp [go_sem,tell0_at2 3 q.item q.qty d os c.ref (by omega)]
    refine hJ _ _ _ ?_
    clear hJ J
   refine oN_ ?_
   refine aS_ fun K5 hK5=>?_
   refine aS_ fun K6 hK6=>?_
   by_cases h2:q.state=2
   ·
    have h2b:(q.state == 2)=true:=by simp [h2]
    refine aR_ ?_
    iterate 3
     refine oC_ fun J hJ=>?_
     simp [go_sem,h2b]
     refine hJ _ _ _ ?_
     clear hJ J
    refine oN_ ?_
    refine hK6 _ ?_
    clear hK6
    refine aT_ rfl ?_
    refine aS_ fun K8 hK8=>?_
    rcases hv:giveB d q.buyer q.cost with e | d2
    ·
     have hr:cancelW b os c=.error e:=by unfold cancelW; rw [if_pos hc]; simp only [<-hq,hg,if_pos h2,hv]
     refine awp_drawL 12 rfl rfl ?_
     simp only [List.take_succ_cons,List.take_zero]
     iterate 12
      refine oC_ fun J hJ=>?_
      simp [go_sem,pGiveS_at d os q.buyer q.cost hFd,hv,bkH,must1n_fz (giveB_ne hv) d os c.ref [⟨3,q.item,q.qty,c.ref⟩] 1 rfl]
      refine hJ _ _ _ ?_
      clear hJ J
     refine oN_ ?_
     refine ⟨rfl,?_⟩
     simp [go_sem,pGiveS_at d os q.buyer q.cost hFd,hv,bkH,must1n_fz (giveB_ne hv) d os c.ref [⟨3,q.item,q.qty,c.ref⟩] 1 rfl]
     refine fQ_ [((1,0),some (1,0))] ?_
     simp [go_sem,Tryz.f106,wkH,hr]
    ·
     have hr:cancelW b os c=.ok (d2,putL os (chgS q 4),[⟨3,q.item,q.qty,c.ref⟩,⟨10,q.buyer,q.cost,c.ref⟩,⟨7,q.buyer,2,c.ref⟩],c.ref):=by unfold cancelW; rw [if_pos hc]; simp only [<-hq,hg,if_pos h2,hv]
     refine aD_ ?_
     iterate 13
      refine oC_ fun J hJ=>?_
      simp [go_sem,pGiveS_at d os q.buyer q.cost hFd,hv,bkH,must1n_t d2 os d os c.ref [⟨3,q.item,q.qty,c.ref⟩] 1 rfl]
      refine hJ _ _ _ ?_
      clear hJ J
     refine oN_ ?_
     refine ⟨rfl,?_⟩
     refine hK8 _ ?_
     clear hK8
     refine aR_ ?_
     iterate 6
      refine oC_ fun J hJ=>?_
      simp [go_sem,tell1n 10 q.buyer q.cost d2 os c.ref [⟨3,q.item,q.qty,c.ref⟩] 1 rfl (by simp)]
      refine hJ _ _ _ ?_
      clear hJ J
     refine oN_ ?_
     refine hK5 _ ?_
     clear hK5
     refine aQ_ ?_
     iterate 3
      refine oC_ fun J hJ=>?_
      simp [go_sem,wput1n q 4 d2 os c.ref [⟨3,q.item,q.qty,c.ref⟩,⟨10,q.buyer,q.cost,c.ref⟩] 2 rfl (by omega)]
      refine hJ _ _ _ ?_
      clear hJ J
     refine oN_ ?_
     refine aR_ ?_
     iterate 4
      refine oC_ fun J hJ=>?_
      simp [go_sem,tell1n 7 q.buyer 2 d2 (putL os (chgS q 4)) c.ref [⟨3,q.item,q.qty,c.ref⟩,⟨10,q.buyer,q.cost,c.ref⟩] 2 rfl (by simp)]
      refine hJ _ _ _ ?_
      clear hJ J
     refine oN_ ?_
     refine fQ_ [((1,0),some (1,0)),((2,0),some (0,912))] ?_
     simp [go_sem,Tryz.f106,wkH,hr]
   ·
    have h2b:(q.state == 2)=false:=by simp [h2]
    have hr:cancelW b os c=.ok (d,putL os (chgS q 4),[⟨3,q.item,q.qty,c.ref⟩,⟨7,q.buyer,2,c.ref⟩],c.ref):=by unfold cancelW; rw [if_pos hc]; simp only [<-hq,hg,if_neg h2]
    refine aR_ ?_
    iterate 3
     refine oC_ fun J hJ=>?_
     simp [go_sem,h2b]
     refine hJ _ _ _ ?_
     clear hJ J
    refine oN_ ?_
    refine hK6 _ ?_
    clear hK6
    refine aF_ rfl ?_
    refine aK_ ?_
    refine hK5 _ ?_
    clear hK5
    refine aQ_ ?_
    iterate 3
     refine oC_ fun J hJ=>?_
     simp [go_sem,wput1n q 4 d os c.ref [⟨3,q.item,q.qty,c.ref⟩] 1 rfl (by omega)]
     refine hJ _ _ _ ?_
     clear hJ J
    refine oN_ ?_
    refine aR_ ?_
    iterate 4
     refine oC_ fun J hJ=>?_
     simp [go_sem,tell1n 7 q.buyer 2 d (putL os (chgS q 4)) c.ref [⟨3,q.item,q.qty,c.ref⟩] 1 rfl (by simp)]
     refine hJ _ _ _ ?_
     clear hJ J
    refine oN_ ?_
    refine fQ_ [((1,0),some (1,0)),((2,0),some (0,912))] ?_
    simp [go_sem,Tryz.f106,wkH,hr]
 ·
  have hr:cancelW b os c=.error (inC os c.ref [1,2]):=if_neg hc
  refine aR_ ?_
  iterate 4
   refine oC_ fun J hJ=>?_
   simp [go_sem,take_cInt,order_at2 c.ref 1 2 b os zId (by omega),orderH_f hc]
   refine hJ _ _ _ ?_
   clear hJ J
  refine oC_ fun J hJ=>?_
  clear hJ
  simp [go_sem,take_cInt,order_at2 c.ref 1 2 b os zId (by omega),orderH_f hc]
  refine fQ_ [((1,0),some (1,0))] ?_
  simp [go_sem,Tryz.f106,wkH,hr]
end Go.Proofs.YtjoaigccapegpaaGreat.AE
