/-
 Package logs: clones. Conditions: none; every contract names its own.
-/
import Derived.Test.YtjoaigccapegpaaGreatOLga
import Derived.Test.YtjoaigccapegpaaGreatOAEo
set_option linter.constructorNameAsVariable false
namespace Go.Proofs.YtjoaigccapegpaaGreat.AE
open Go Go.Proofs Go.RowKit
set_option linter.unusedVariables false
set_option linter.unusedSimpArgs false
set_option maxRecDepth 100000
set_option maxHeartbeats 4000000
structure cloneOcHX where
 L:List Outc
 hL:L.length<=100000
noncomputable def cloneOcHS:HSpec:=mkH (ι:=cloneOcHX) (fun ⟨L,hL⟩=>([.own (1,0) L.length],[.row 50 2 (rows cOc L) false])) fun ⟨L,hL⟩=>⟨.own (2,0) L.length,[.row 50 2 (rows cOc L) false],[.row 50 2 (rows cOc L) false]⟩
theorem cloneOcHS_atG (L:List Outc) (hL:L.length<=100000):cloneOcHS [.own (1,0) L.length] [.row 50 2 (rows cOc L) false]=some (⟨.own (2,0) L.length,[.row 50 2 (rows cOc L) false],[.row 50 2 (rows cOc L) false]⟩):=
 mA_ (ι:=cloneOcHX) (fun i j h=>by obtain ⟨L,hL⟩:=i; obtain ⟨L2,hL2⟩:=j; simp [and_assoc,qB_,qI_,qO_,qC_,qE_,qK_,qR_,qV_,qP_,qOc_,rows_iff_Oc] at h; obtain ⟨_,rfl⟩:=h; rfl) ⟨L,hL⟩
theorem cloneOcHS_at (L:List Outc) (hL:L.length<=100000):cloneOcHS [.own (1,0) L.length] [.row 50 2 (rows cOc L) false]=some (⟨.own (2,0) L.length,[.row 50 2 (rows cOc L) false],[.row 50 2 (rows cOc L) false]⟩):=cloneOcHS_atG L hL
theorem cloneOcH_ok:HSound Tryz.prog 44 cloneOcHS:=by
 refine sE_ (fn:=Tryz.f44) rfl rfl (by kernel_rfl) fun args bx hr hS=>?_
 obtain ⟨⟨L,hL⟩,rfl,rfl,rfl⟩:=mO_ hS
 clear hS
 refine ⟨_,(eN_ _),by simp [Tryz.f44],by simp [go_sem],fun w Mx pin=>?_⟩
 simp only [hB_at,lab_nil,lab_cons,hOf_nil,hOf_cons]
 have htk:List.take L.length L=L:=List.take_length
 refine aQ_ ?_
 iterate 1
  refine oC_ fun J hJ=>?_
  simp [go_sem]
  refine hJ _ _ _ ?_
 refine oN_ ?_
 refine aS_ fun K2 hK2=>?_
 refine aS_ fun K3 hK3=>?_
 refine awp_regionW ?_
 refine opsW_cons fun J hJ=>?_
 simp [go_sem]
 refine hJ _ _ _ ?_
 refine opsW_nilown (b:=(1,0)) (n:=L.length) (e:=50) (sz:=2) (L:=rows cOc L) (z:=false) rfl rfl (by simp [go_sem]) (by simp [go_sem]) (by simp [go_sem]) ti43 rfl ?_
 simp only [rows_take,htk,tput]
 refine opsW_nil ?_
 refine hK3 _ ?_
 refine awp_condNil rfl (fun c4=>?_) ?_
 ·
  rw [rows_eq_nil] at c4
  refine aQ_ ?_
  iterate 1
   refine oC_ fun J hJ=>?_
   simp [go_sem]
   refine hJ _ _ _ ?_
  refine oN_ ?_
  refine aE_ ?_
  refine fQ_ [((1,0),some (1,0)),((2,0),none)] ?_
  simp [go_sem,Tryz.f44,c4]
 ·
  refine aK_ ?_
  refine hK2 _ ?_
  refine aQ_ ?_
  iterate 4
   refine oC_ fun J hJ=>?_
   simp [go_sem,show L.length * 32<=140737488355328 by omega,show L.length<=maxLen by simp only [maxLen]; omega,htk]
   refine hJ _ _ _ ?_
  refine oN_ ?_
  refine aE_ ?_
  refine fQ_ [((1,0),some (1,0)),((2,0),some (0,16 * 7))] ?_
  simp [go_sem,Tryz.f44,htk]
structure lCloneX where
 d:List Chg
 r:List Chg
 v:Vn 4
 u:Vn 4
 hL:d.length + r.length<=10000
noncomputable def lCloneS:HSpec:=mkH (ι:=lCloneX) (fun ⟨d,r,v,u,hL⟩=>([.ref (1,0) 0],[.obj (cLg (.own (1,1) (d).length) (.own (1,2) (d).length) (bD (d)).1 (.sl 7 (rows cOrd (bD (d)).2)) (.bool true) (.ref (1,3) 0) v u),.row 35 9 (rows cChg (d)) false,.row 50 2 (rows cOc (oD (d))) false,.obj [.sl 9 (rows cChg (r))]])) fun ⟨d,r,v,u,hL⟩=>⟨.ref (2,0) 0,[.obj (cLg (.own (1,1) (d).length) (.own (1,2) (d).length) (bD (d)).1 (.sl 7 (rows cOrd (bD (d)).2)) (.bool true) (.ref (1,3) 0) v u),.row 35 9 (rows cChg (d)) false,.row 50 2 (rows cOc (oD (d))) false,.obj [.sl 9 (rows cChg (r))]],[.obj (cLg (.own (2,1) (d).length) (.own (2,2) (d).length) (bD (d)).1 (.sl 7 (rows cOrd (bD (d)).2)) (.bool true) (.ref (2,3) 0) v u),.row 35 9 (rows cChg (d)) false,.row 50 2 (rows cOc (oD (d))) false,.obj [.sl 9 (rows cChg (r))]]⟩
theorem lCloneS_atG (d:List Chg) (r:List Chg) (v:Vn 4) (u:Vn 4) (hL:d.length + r.length<=10000):lCloneS [.ref (1,0) 0] [.obj (cLg (.own (1,1) (d).length) (.own (1,2) (d).length) (bD (d)).1 (.sl 7 (rows cOrd (bD (d)).2)) (.bool true) (.ref (1,3) 0) v u),.row 35 9 (rows cChg (d)) false,.row 50 2 (rows cOc (oD (d))) false,.obj [.sl 9 (rows cChg (r))]]=some (⟨.ref (2,0) 0,[.obj (cLg (.own (1,1) (d).length) (.own (1,2) (d).length) (bD (d)).1 (.sl 7 (rows cOrd (bD (d)).2)) (.bool true) (.ref (1,3) 0) v u),.row 35 9 (rows cChg (d)) false,.row 50 2 (rows cOc (oD (d))) false,.obj [.sl 9 (rows cChg (r))]],[.obj (cLg (.own (2,1) (d).length) (.own (2,2) (d).length) (bD (d)).1 (.sl 7 (rows cOrd (bD (d)).2)) (.bool true) (.ref (2,3) 0) v u),.row 35 9 (rows cChg (d)) false,.row 50 2 (rows cOc (oD (d))) false,.obj [.sl 9 (rows cChg (r))]]⟩):=
 mA_ (ι:=lCloneX) (fun i j h=>by obtain ⟨d,r,v,u,hL⟩:=i; obtain ⟨d2,r2,v2,u2,hL2⟩:=j; simp [and_assoc,qB_,qI_,qO_,qC_,qE_,qK_,qR_,qV_,qP_,qOc_,rows_iff_Chg,cLg_eq_iff] at h; obtain ⟨_,_,_,rfl,rfl,rfl,_,rfl⟩:=h; rfl) ⟨d,r,v,u,hL⟩
theorem lCloneS_at (d:List Chg) (r:List Chg) (v:Vn 4) (u:Vn 4) (hL:d.length + r.length<=10000):lCloneS [.ref (1,0) 0] [.obj (cLg (.own (1,1) (d).length) (.own (1,2) (d).length) (bD (d)).1 (.sl 7 (rows cOrd (bD (d)).2)) (.bool true) (.ref (1,3) 0) v u),.row 35 9 (rows cChg (d)) false,.row 50 2 (rows cOc (oD (d))) false,.obj [.sl 9 (rows cChg (r))]]=some (⟨.ref (2,0) 0,[.obj (cLg (.own (1,1) (d).length) (.own (1,2) (d).length) (bD (d)).1 (.sl 7 (rows cOrd (bD (d)).2)) (.bool true) (.ref (1,3) 0) v u),.row 35 9 (rows cChg (d)) false,.row 50 2 (rows cOc (oD (d))) false,.obj [.sl 9 (rows cChg (r))]],[.obj (cLg (.own (2,1) (d).length) (.own (2,2) (d).length) (bD (d)).1 (.sl 7 (rows cOrd (bD (d)).2)) (.bool true) (.ref (2,3) 0) v u),.row 35 9 (rows cChg (d)) false,.row 50 2 (rows cOc (oD (d))) false,.obj [.sl 9 (rows cChg (r))]]⟩):=lCloneS_atG d r v u hL
theorem lClone_ok:HSound Tryz.prog 21 lCloneS:=by
 refine sE_ (fn:=Tryz.f21) rfl rfl (by kernel_rfl) fun args bx hr hS=>?_
 obtain ⟨⟨d,r,v,u,hL⟩,rfl,rfl,rfl⟩:=mO_ hS
 clear hS
 refine ⟨_,(eV_ (g:=32) (by kernel_rfl) isL_ok (eV_ (g:=33) (by kernel_rfl) cloneChg_ok (eH_ (g:=44) (by kernel_rfl) cloneOcH_ok (eV_ (g:=40) (by kernel_rfl) lastF_ok (eV_ (g:=45) (by kernel_rfl) tClone_ok (eN_ _)))))),by simp [Tryz.f21],by simp [go_sem],fun w Mx pin=>?_⟩
 simp only [hB_at,lab_nil,lab_cons,hOf_nil,hOf_cons]
 have hol:=oD_len d
 have htd:List.take d.length d=d:=List.take_length
 have hto:List.take d.length (oD d)=oD d:=by rw [<-hol]; exact List.take_length
 have htr:List.take r.length r=r:=List.take_length
 have hc:=cloneOcHS_at (oD d) (by rw [hol]; omega)
 rw [hol] at hc
 refine aQ_ ?_
 iterate 1
  refine oC_ fun J hJ=>?_
  simp [go_sem]
  refine hJ _ _ _ ?_
 refine oN_ ?_
 refine aS_ fun K2 hK2=>?_
 refine aQ_ ?_
 iterate 3
  refine oC_ fun J hJ=>?_
  simp [go_sem,isLS_at]
  refine hJ _ _ _ ?_
 refine oN_ ?_
 refine aF_ rfl ?_
 refine aK_ ?_
 refine hK2 _ ?_
 refine aQ_ ?_
 iterate 5
  refine oC_ fun J hJ=>?_
  simp [go_sem]
  refine hJ _ _ _ ?_
 refine oN_ ?_
 refine aU_ ?_
 iterate 27
  refine oC_ fun J hJ=>?_
  simp [go_sem,htd,hto,cloneChgS_at d (by omega),↓hc,↓lastF_bZ d (by omega)]
  refine hJ _ _ _ ?_
 refine oN_ ?_
 refine ⟨rfl,?_⟩
 refine aQ_ ?_
 iterate 7
  refine oC_ fun J hJ=>?_
  simp [go_sem,tCloneS_at r (by omega)]
  refine hJ _ _ _ ?_
 refine oN_ ?_
 refine aQ_ ?_
 iterate 1
  refine oC_ fun J hJ=>?_
  simp [go_sem]
  refine hJ _ _ _ ?_
 refine oN_ ?_
 refine aE_ ?_
 refine fQ_ [((1,0),some (1,0)),((1,1),some (1,1)),((1,2),some (1,2)),((1,3),some (1,3)),((2,0),some (0,48)),((2,1),some (0,240)),((2,2),some (0,336)),((2,3),some (0,608))] ?_
 simp [go_sem,Tryz.f21,dropped,htr,hto,htd,hol]
end Go.Proofs.YtjoaigccapegpaaGreat.AE
