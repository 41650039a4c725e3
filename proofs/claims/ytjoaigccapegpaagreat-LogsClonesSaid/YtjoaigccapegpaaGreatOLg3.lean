/-
 Package logs: what is told. Conditions: none; every contract names its own.
-/
import Derived.Test.YtjoaigccapegpaaGreatOLg2
set_option linter.constructorNameAsVariable false
namespace Go.Proofs.YtjoaigccapegpaaGreat.AE
open Go Go.Proofs Go.RowKit
set_option linter.unusedVariables false
set_option linter.unusedSimpArgs false
set_option maxRecDepth 100000
set_option maxHeartbeats 4000000
theorem cLg_u0 (L O:AV) (b:Bk) (o m t:AV) (v u:Vn 4):(cLg L O b o m t v u)[33]?=some (.int .i64 (u.at 0)):=cLg_u L O b o m t v u 0 (by omega)
theorem cLg_u1 (L O:AV) (b:Bk) (o m t:AV) (v u:Vn 4):(cLg L O b o m t v u)[34]?=some (.int .i64 (u.at 1)):=cLg_u L O b o m t v u 1 (by omega)
theorem cLg_u2 (L O:AV) (b:Bk) (o m t:AV) (v u:Vn 4):(cLg L O b o m t v u)[35]?=some (.int .i64 (u.at 2)):=cLg_u L O b o m t v u 2 (by omega)
theorem cLg_u3 (L O:AV) (b:Bk) (o m t:AV) (v u:Vn 4):(cLg L O b o m t v u)[36]?=some (.int .i64 (u.at 3)):=cLg_u L O b o m t v u 3 (by omega)
structure isLX where
 L:AV
 O:AV
 b:Bk
 o:AV
 m:Bool
 t:AV
 v:Vn 4
 u:Vn 4
noncomputable def isLS:HSpec:=mkH (ι:=isLX) (fun ⟨L,O,b,o,m,t,v,u⟩=>([.iref (cLg L O b o (.bool m) t v u) 0],[])) fun ⟨L,O,b,o,m,t,v,u⟩=>⟨.bool m,[],[]⟩
theorem isLS_atG (L:AV) (O:AV) (b:Bk) (o:AV) (m:Bool) (t:AV) (v:Vn 4) (u:Vn 4):isLS [.iref (cLg L O b o (.bool m) t v u) 0] []=some (⟨.bool m,[],[]⟩):=
 mA_ (ι:=isLX) (fun i j h=>by obtain ⟨L,O,b,o,m,t,v,u⟩:=i; obtain ⟨L2,O2,b2,o2,m2,t2,v2,u2⟩:=j; simp [and_assoc,qB_,qI_,qO_,qC_,qE_,qK_,qR_,qV_,qP_,qOc_,rows_iff_Chg,cLg_eq_iff] at h; obtain ⟨rfl,rfl,rfl,rfl,rfl,rfl,rfl,rfl⟩:=h; rfl) ⟨L,O,b,o,m,t,v,u⟩
theorem isLS_at (L:AV) (O:AV) (b:Bk) (o:AV) (m:Bool) (t:AV) (v:Vn 4) (u:Vn 4):isLS [.iref (cLg L O b o (.bool m) t v u) 0] []=some (⟨.bool m,[],[]⟩):=isLS_atG L O b o m t v u
theorem isL_ok:HSound Tryz.prog 32 isLS:=by
 refine sE_ (fn:=Tryz.f32) rfl rfl (by kernel_rfl) fun args bx hr hS=>?_
 obtain ⟨⟨L,O,b,o,m,t,v,u⟩,rfl,rfl,rfl⟩:=mO_ hS
 clear hS
 refine ⟨_,(eN_ _),by simp [Tryz.f32],by simp [go_sem],fun w Mx pin=>?_⟩
 simp only [hB_at,lab_nil,lab_cons,hOf_nil,hOf_cons]
 refine aQ_ ?_
 iterate 1
  refine oC_ fun J hJ=>?_
  simp [go_sem]
  refine hJ _ _ _ ?_
 refine oN_ ?_
 refine aQ_ ?_
 iterate 9
  refine oC_ fun J hJ=>?_
  simp [go_sem]
  refine hJ _ _ _ ?_
 refine oN_ ?_
 refine aE_ ?_
 refine fQ_ [] ?_
 simp [go_sem,Tryz.f32]
structure lFirstX where
 d:List Chg
 r:List Chg
 v:Vn 4
 u:Vn 4
noncomputable def lFirstS:HSpec:=mkH (ι:=lFirstX) (fun ⟨d,r,v,u⟩=>([.iref (cLg (.sl 9 (rows cChg d)) (.sl 2 (rows cOc (oD d))) (bD d).1 (.sl 7 (rows cOrd (bD d).2)) (.bool true) (.iref [.sl 9 (rows cChg r)] 0) v u) 0],[])) fun ⟨d,r,v,u⟩=>⟨.tup [.agg (cId (headC r).id),.bool (decide (r ≠ []))],[],[]⟩
theorem lFirstS_atG (d:List Chg) (r:List Chg) (v:Vn 4) (u:Vn 4):lFirstS [.iref (cLg (.sl 9 (rows cChg d)) (.sl 2 (rows cOc (oD d))) (bD d).1 (.sl 7 (rows cOrd (bD d).2)) (.bool true) (.iref [.sl 9 (rows cChg r)] 0) v u) 0] []=some (⟨.tup [.agg (cId (headC r).id),.bool (decide (r ≠ []))],[],[]⟩):=
 mA_ (ι:=lFirstX) (fun i j h=>by obtain ⟨d,r,v,u⟩:=i; obtain ⟨d2,r2,v2,u2⟩:=j; simp [and_assoc,qB_,qI_,qO_,qC_,qE_,qK_,qR_,qV_,qP_,qOc_,rows_iff_Chg,cLg_eq_iff] at h; obtain ⟨rfl,_,_,_,rfl,rfl,rfl⟩:=h; rfl) ⟨d,r,v,u⟩
theorem lFirstS_at (d:List Chg) (r:List Chg) (v:Vn 4) (u:Vn 4):lFirstS [.iref (cLg (.sl 9 (rows cChg d)) (.sl 2 (rows cOc (oD d))) (bD d).1 (.sl 7 (rows cOrd (bD d).2)) (.bool true) (.iref [.sl 9 (rows cChg r)] 0) v u) 0] []=some (⟨.tup [.agg (cId (headC r).id),.bool (decide (r ≠ []))],[],[]⟩):=lFirstS_atG d r v u
theorem lFirst_ok:HSound Tryz.prog 23 lFirstS:=by
 refine sE_ (fn:=Tryz.f23) rfl rfl (by kernel_rfl) fun args bx hr hS=>?_
 obtain ⟨⟨d,r,v,u⟩,rfl,rfl,rfl⟩:=mO_ hS
 clear hS
 refine ⟨_,(eV_ (g:=32) (by kernel_rfl) isL_ok (eV_ (g:=46) (by kernel_rfl) tFirst_ok (eN_ _))),by simp [Tryz.f23],by simp [go_sem],fun w Mx pin=>?_⟩
 simp only [hB_at,lab_nil,lab_cons,hOf_nil,hOf_cons]
 refine aQ_ ?_
 iterate 2
  refine oC_ fun J hJ=>?_
  simp [go_sem]
  refine hJ _ _ _ ?_
 refine oN_ ?_
 refine aS_ fun K2 hK2=>?_
 refine aQ_ ?_
 iterate 3
  refine oC_ fun J hJ=>?_
  simp [go_sem,isLS_at]
  refine hJ _ _ _ ?_
 refine oN_ ?_
 refine aF_ rfl ?_
 refine aK_ ?_
 refine hK2 _ ?_
 refine aQ_ ?_
 iterate 11
  refine oC_ fun J hJ=>?_
  simp [go_sem,tFirstS_at r]
  refine hJ _ _ _ ?_
 refine oN_ ?_
 refine aQ_ ?_
 iterate 5
  refine oC_ fun J hJ=>?_
  simp [go_sem]
  refine hJ _ _ _ ?_
 refine oN_ ?_
 refine aE_ ?_
 refine fQ_ [] ?_
 simp [go_sem,Tryz.f23]
structure lCommX where
 d:List Chg
 r:List Chg
 v:Vn 4
 u:Vn 4
 hL:d.length + r.length<=10000
noncomputable def lCommS:HSpec:=mkH (ι:=lCommX) (fun ⟨d,r,v,u,hL⟩=>([.iref (cLg (.sl 9 (rows cChg d)) (.sl 2 (rows cOc (oD d))) (bD d).1 (.sl 7 (rows cOrd (bD d).2)) (.bool true) (.iref [.sl 9 (rows cChg r)] 0) v u) 0],[])) fun ⟨d,r,v,u,hL⟩=>⟨.own (2,0) d.length,[],[.row 35 9 (rows cChg d) false]⟩
theorem lCommS_atG (d:List Chg) (r:List Chg) (v:Vn 4) (u:Vn 4) (hL:d.length + r.length<=10000):lCommS [.iref (cLg (.sl 9 (rows cChg d)) (.sl 2 (rows cOc (oD d))) (bD d).1 (.sl 7 (rows cOrd (bD d).2)) (.bool true) (.iref [.sl 9 (rows cChg r)] 0) v u) 0] []=some (⟨.own (2,0) d.length,[],[.row 35 9 (rows cChg d) false]⟩):=
 mA_ (ι:=lCommX) (fun i j h=>by obtain ⟨d,r,v,u,hL⟩:=i; obtain ⟨d2,r2,v2,u2,hL2⟩:=j; simp [and_assoc,qB_,qI_,qO_,qC_,qE_,qK_,qR_,qV_,qP_,qOc_,rows_iff_Chg,cLg_eq_iff] at h; obtain ⟨rfl,_,_,_,rfl,rfl,rfl⟩:=h; rfl) ⟨d,r,v,u,hL⟩
theorem lCommS_at (d:List Chg) (r:List Chg) (v:Vn 4) (u:Vn 4) (hL:d.length + r.length<=10000):lCommS [.iref (cLg (.sl 9 (rows cChg d)) (.sl 2 (rows cOc (oD d))) (bD d).1 (.sl 7 (rows cOrd (bD d).2)) (.bool true) (.iref [.sl 9 (rows cChg r)] 0) v u) 0] []=some (⟨.own (2,0) d.length,[],[.row 35 9 (rows cChg d) false]⟩):=lCommS_atG d r v u hL
theorem lComm_ok:HSound Tryz.prog 10 lCommS:=by
 refine sE_ (fn:=Tryz.f10) rfl rfl (by kernel_rfl) fun args bx hr hS=>?_
 obtain ⟨⟨d,r,v,u,hL⟩,rfl,rfl,rfl⟩:=mO_ hS
 clear hS
 refine ⟨_,(eV_ (g:=32) (by kernel_rfl) isL_ok (eV_ (g:=33) (by kernel_rfl) cloneChg_ok (eN_ _))),by simp [Tryz.f10],by simp [go_sem],fun w Mx pin=>?_⟩
 simp only [hB_at,lab_nil,lab_cons,hOf_nil,hOf_cons]
 refine aQ_ ?_
 iterate 1
  refine oC_ fun J hJ=>?_
  simp [go_sem]
  refine hJ _ _ _ ?_
 refine oN_ ?_
 refine aS_ fun K2 hK2=>?_
 refine aQ_ ?_
 iterate 3
  refine oC_ fun J hJ=>?_
  simp [go_sem,isLS_at]
  refine hJ _ _ _ ?_
 refine oN_ ?_
 refine aF_ rfl ?_
 refine aK_ ?_
 refine hK2 _ ?_
 refine aQ_ ?_
 iterate 7
  refine oC_ fun J hJ=>?_
  simp [go_sem,cloneChgS_at d (by omega)]
  refine hJ _ _ _ ?_
 refine oN_ ?_
 refine aE_ ?_
 refine fQ_ [((2,0),some (0,176))] ?_
 simp [go_sem,Tryz.f10]
structure lTentX where
 d:List Chg
 r:List Chg
 v:Vn 4
 u:Vn 4
 hL:d.length + r.length<=10000
noncomputable def lTentS:HSpec:=mkH (ι:=lTentX) (fun ⟨d,r,v,u,hL⟩=>([.iref (cLg (.sl 9 (rows cChg d)) (.sl 2 (rows cOc (oD d))) (bD d).1 (.sl 7 (rows cOrd (bD d).2)) (.bool true) (.iref [.sl 9 (rows cChg r)] 0) v u) 0],[])) fun ⟨d,r,v,u,hL⟩=>⟨.own (2,0) r.length,[],[.row 35 9 (rows cChg r) false]⟩
theorem lTentS_atG (d:List Chg) (r:List Chg) (v:Vn 4) (u:Vn 4) (hL:d.length + r.length<=10000):lTentS [.iref (cLg (.sl 9 (rows cChg d)) (.sl 2 (rows cOc (oD d))) (bD d).1 (.sl 7 (rows cOrd (bD d).2)) (.bool true) (.iref [.sl 9 (rows cChg r)] 0) v u) 0] []=some (⟨.own (2,0) r.length,[],[.row 35 9 (rows cChg r) false]⟩):=
 mA_ (ι:=lTentX) (fun i j h=>by obtain ⟨d,r,v,u,hL⟩:=i; obtain ⟨d2,r2,v2,u2,hL2⟩:=j; simp [and_assoc,qB_,qI_,qO_,qC_,qE_,qK_,qR_,qV_,qP_,qOc_,rows_iff_Chg,cLg_eq_iff] at h; obtain ⟨rfl,_,_,_,rfl,rfl,rfl⟩:=h; rfl) ⟨d,r,v,u,hL⟩
theorem lTentS_at (d:List Chg) (r:List Chg) (v:Vn 4) (u:Vn 4) (hL:d.length + r.length<=10000):lTentS [.iref (cLg (.sl 9 (rows cChg d)) (.sl 2 (rows cOc (oD d))) (bD d).1 (.sl 7 (rows cOrd (bD d).2)) (.bool true) (.iref [.sl 9 (rows cChg r)] 0) v u) 0] []=some (⟨.own (2,0) r.length,[],[.row 35 9 (rows cChg r) false]⟩):=lTentS_atG d r v u hL
theorem lTent_ok:HSound Tryz.prog 27 lTentS:=by
 refine sE_ (fn:=Tryz.f27) rfl rfl (by kernel_rfl) fun args bx hr hS=>?_
 obtain ⟨⟨d,r,v,u,hL⟩,rfl,rfl,rfl⟩:=mO_ hS
 clear hS
 refine ⟨_,(eV_ (g:=32) (by kernel_rfl) isL_ok (eV_ (g:=37) (by kernel_rfl) tAll_ok (eN_ _))),by simp [Tryz.f27],by simp [go_sem],fun w Mx pin=>?_⟩
 simp only [hB_at,lab_nil,lab_cons,hOf_nil,hOf_cons]
 refine aQ_ ?_
 iterate 1
  refine oC_ fun J hJ=>?_
  simp [go_sem]
  refine hJ _ _ _ ?_
 refine oN_ ?_
 refine aS_ fun K2 hK2=>?_
 refine aQ_ ?_
 iterate 3
  refine oC_ fun J hJ=>?_
  simp [go_sem,isLS_at]
  refine hJ _ _ _ ?_
 refine oN_ ?_
 refine aF_ rfl ?_
 refine aK_ ?_
 refine hK2 _ ?_
 refine aQ_ ?_
 iterate 6
  refine oC_ fun J hJ=>?_
  simp [go_sem,tAllS_at r (by omega)]
  refine hJ _ _ _ ?_
 refine oN_ ?_
 refine aE_ ?_
 refine fQ_ [((2,0),some (0,160))] ?_
 simp [go_sem,Tryz.f27]
structure lClockX where
 d:List Chg
 r:List Chg
 v:Vn 4
 u:Vn 4
noncomputable def lClockS:HSpec:=mkH (ι:=lClockX) (fun ⟨d,r,v,u⟩=>([.iref (cLg (.sl 9 (rows cChg d)) (.sl 2 (rows cOc (oD d))) (bD d).1 (.sl 7 (rows cOrd (bD d).2)) (.bool true) (.iref [.sl 9 (rows cChg r)] 0) v u) 0],[])) fun ⟨d,r,v,u⟩=>⟨.int .i64 (mx (mx (mx (u.at 0) (u.at 1)) (u.at 2)) (u.at 3)),[],[]⟩
theorem lClockS_atG (d:List Chg) (r:List Chg) (v:Vn 4) (u:Vn 4):lClockS [.iref (cLg (.sl 9 (rows cChg d)) (.sl 2 (rows cOc (oD d))) (bD d).1 (.sl 7 (rows cOrd (bD d).2)) (.bool true) (.iref [.sl 9 (rows cChg r)] 0) v u) 0] []=some (⟨.int .i64 (mx (mx (mx (u.at 0) (u.at 1)) (u.at 2)) (u.at 3)),[],[]⟩):=
 mA_ (ι:=lClockX) (fun i j h=>by obtain ⟨d,r,v,u⟩:=i; obtain ⟨d2,r2,v2,u2⟩:=j; simp [and_assoc,qB_,qI_,qO_,qC_,qE_,qK_,qR_,qV_,qP_,qOc_,rows_iff_Chg,cLg_eq_iff] at h; obtain ⟨rfl,_,_,_,rfl,rfl,rfl⟩:=h; rfl) ⟨d,r,v,u⟩
theorem lClockS_at (d:List Chg) (r:List Chg) (v:Vn 4) (u:Vn 4):lClockS [.iref (cLg (.sl 9 (rows cChg d)) (.sl 2 (rows cOc (oD d))) (bD d).1 (.sl 7 (rows cOrd (bD d).2)) (.bool true) (.iref [.sl 9 (rows cChg r)] 0) v u) 0] []=some (⟨.int .i64 (mx (mx (mx (u.at 0) (u.at 1)) (u.at 2)) (u.at 3)),[],[]⟩):=lClockS_atG d r v u
theorem lClock_ok:HSound Tryz.prog 26 lClockS:=by
 refine sE_ (fn:=Tryz.f26) rfl rfl (by kernel_rfl) fun args bx hr hS=>?_
 obtain ⟨⟨d,r,v,u⟩,rfl,rfl,rfl⟩:=mO_ hS
 clear hS
 refine ⟨_,(eV_ (g:=32) (by kernel_rfl) isL_ok (eN_ _)),by simp [Tryz.f26],by simp [go_sem],fun w Mx pin=>?_⟩
 simp only [hB_at,lab_nil,lab_cons,hOf_nil,hOf_cons]
 refine aQ_ ?_
 iterate 1
  refine oC_ fun J hJ=>?_
  simp [go_sem]
  refine hJ _ _ _ ?_
 refine oN_ ?_
 refine aS_ fun K2 hK2=>?_
 refine aQ_ ?_
 iterate 3
  refine oC_ fun J hJ=>?_
  simp [go_sem,isLS_at]
  refine hJ _ _ _ ?_
 refine oN_ ?_
 refine aF_ rfl ?_
 refine aK_ ?_
 refine hK2 _ ?_
 refine aU_ ?_
 iterate 22
  refine oC_ fun J hJ=>?_
  simp [go_sem,↓cLg_u0,↓cLg_u1,↓cLg_u2,↓cLg_u3]
  refine hJ _ _ _ ?_
 refine oN_ ?_
 refine ⟨rfl,?_⟩
 refine aE_ ?_
 refine fQ_ [] ?_
 simp [go_sem,Tryz.f26]
structure lKnownX where
 d:List Chg
 r:List Chg
 v:Vn 4
 u:Vn 4
 hL:d.length + r.length<=10000
noncomputable def lKnownS:HSpec:=mkH (ι:=lKnownX) (fun ⟨d,r,v,u,hL⟩=>([.iref (cLg (.sl 9 (rows cChg d)) (.sl 2 (rows cOc (oD d))) (bD d).1 (.sl 7 (rows cOrd (bD d).2)) (.bool true) (.iref [.sl 9 (rows cChg r)] 0) v u) 0],[])) fun ⟨d,r,v,u,hL⟩=>⟨.agg (cV (knownG (d++r) (zV 4))),[],[]⟩
theorem lKnownS_atG (d:List Chg) (r:List Chg) (v:Vn 4) (u:Vn 4) (hL:d.length + r.length<=10000):lKnownS [.iref (cLg (.sl 9 (rows cChg d)) (.sl 2 (rows cOc (oD d))) (bD d).1 (.sl 7 (rows cOrd (bD d).2)) (.bool true) (.iref [.sl 9 (rows cChg r)] 0) v u) 0] []=some (⟨.agg (cV (knownG (d++r) (zV 4))),[],[]⟩):=
 mA_ (ι:=lKnownX) (fun i j h=>by obtain ⟨d,r,v,u,hL⟩:=i; obtain ⟨d2,r2,v2,u2,hL2⟩:=j; simp [and_assoc,qB_,qI_,qO_,qC_,qE_,qK_,qR_,qV_,qP_,qOc_,rows_iff_Chg,cLg_eq_iff] at h; obtain ⟨rfl,_,_,_,rfl,rfl,rfl⟩:=h; rfl) ⟨d,r,v,u,hL⟩
theorem lKnownS_at (d:List Chg) (r:List Chg) (v:Vn 4) (u:Vn 4) (hL:d.length + r.length<=10000):lKnownS [.iref (cLg (.sl 9 (rows cChg d)) (.sl 2 (rows cOc (oD d))) (bD d).1 (.sl 7 (rows cOrd (bD d).2)) (.bool true) (.iref [.sl 9 (rows cChg r)] 0) v u) 0] []=some (⟨.agg (cV (knownG (d++r) (zV 4))),[],[]⟩):=lKnownS_atG d r v u hL
theorem lKnown_ok:HSound Tryz.prog 28 lKnownS:=by
 refine sE_ (fn:=Tryz.f28) rfl rfl (by kernel_rfl) fun args bx hr hS=>?_
 obtain ⟨⟨d,r,v,u,hL⟩,rfl,rfl,rfl⟩:=mO_ hS
 clear hS
 refine ⟨_,(eV_ (g:=32) (by kernel_rfl) isL_ok (eV_ (g:=37) (by kernel_rfl) tAll_ok (eV_ (g:=54) (by kernel_rfl) concatChg_ok (eV_ (g:=53) (by kernel_rfl) vecOf_ok (eN_ _))))),by simp [Tryz.f28],by simp [go_sem],fun w Mx pin=>?_⟩
 simp only [hB_at,lab_nil,lab_cons,hOf_nil,hOf_cons]
 have htk:List.take (d.length + r.length) (d++r)=d++r:=List.take_of_length_le (by simp)
 refine aQ_ ?_
 iterate 1
  refine oC_ fun J hJ=>?_
  simp [go_sem]
  refine hJ _ _ _ ?_
 refine oN_ ?_
 refine aS_ fun K2 hK2=>?_
 refine aQ_ ?_
 iterate 3
  refine oC_ fun J hJ=>?_
  simp [go_sem,isLS_at]
  refine hJ _ _ _ ?_
 refine oN_ ?_
 refine aF_ rfl ?_
 refine aK_ ?_
 refine hK2 _ ?_
 refine aU_ ?_
 iterate 14
  refine oC_ fun J hJ=>?_
  simp [go_sem,htk,tAllS_at r (by omega),↓concatChgS_at2 d r (by omega),vecOfS_at (d++r) (by simp; omega)]
  refine hJ _ _ _ ?_
 refine oN_ ?_
 refine ⟨rfl,?_⟩
 refine aE_ ?_
 refine fQ_ [] ?_
 simp [go_sem,Tryz.f28]
theorem lastF_bD (d r:List Chg) (h:d.length + r.length<=10000):lastFS [.agg (cBk (bD d).1 (.sl 7 (rows cOrd (bD d).2))),.sl 9 (rows cChg r)] []=some ⟨.agg (cBk (bD (d++r)).1 (.sl 7 (rows cOrd (bD (d++r)).2))),[],[]⟩:=by
 obtain ⟨h1,h2,h3⟩:=bD_fair d
 rw [bD_app]
 exact lastFS_at (bD d).1 (bD d).2 r ⟨h1,h2,by omega⟩
theorem lastF_bZ (d:List Chg) (h:d.length<=10000):lastFS [.agg (cBk (bD d).1 (.sl 7 (rows cOrd (bD d).2))),.nils] []=some ⟨.agg (cBk (bD d).1 (.sl 7 (rows cOrd (bD d).2))),[],[]⟩:=by
 obtain ⟨h1,h2,h3⟩:=bD_fair d
 exact lastFS_atG (bD d).1 (bD d).2 _ [] .nils .sl .nil ⟨h1,h2,by simp; omega⟩
structure lBaseX where
 d:List Chg
 r:List Chg
 v:Vn 4
 u:Vn 4
 hL:d.length + r.length<=10000
noncomputable def lBaseS:HSpec:=mkH (ι:=lBaseX) (fun ⟨d,r,v,u,hL⟩=>([.ref (1,0) 0],[.obj (cLg (.own (1,1) (d).length) (.own (1,2) (d).length) (bD (d)).1 (.sl 7 (rows cOrd (bD (d)).2)) (.bool true) (.ref (1,3) 0) v u),.row 35 9 (rows cChg (d)) false,.row 50 2 (rows cOc (oD (d))) false,.obj [.sl 9 (rows cChg (r))]])) fun ⟨d,r,v,u,hL⟩=>⟨.agg (cBk (bD d).1 (.sl 7 (rows cOrd (bD d).2))),[.obj (cLg (.own (1,1) (d).length) (.own (1,2) (d).length) (bD (d)).1 (.sl 7 (rows cOrd (bD (d)).2)) (.bool true) (.ref (1,3) 0) v u),.row 35 9 (rows cChg (d)) false,.row 50 2 (rows cOc (oD (d))) false,.obj [.sl 9 (rows cChg (r))]],[]⟩
theorem lBaseS_atG (d:List Chg) (r:List Chg) (v:Vn 4) (u:Vn 4) (hL:d.length + r.length<=10000):lBaseS [.ref (1,0) 0] [.obj (cLg (.own (1,1) (d).length) (.own (1,2) (d).length) (bD (d)).1 (.sl 7 (rows cOrd (bD (d)).2)) (.bool true) (.ref (1,3) 0) v u),.row 35 9 (rows cChg (d)) false,.row 50 2 (rows cOc (oD (d))) false,.obj [.sl 9 (rows cChg (r))]]=some (⟨.agg (cBk (bD d).1 (.sl 7 (rows cOrd (bD d).2))),[.obj (cLg (.own (1,1) (d).length) (.own (1,2) (d).length) (bD (d)).1 (.sl 7 (rows cOrd (bD (d)).2)) (.bool true) (.ref (1,3) 0) v u),.row 35 9 (rows cChg (d)) false,.row 50 2 (rows cOc (oD (d))) false,.obj [.sl 9 (rows cChg (r))]],[]⟩):=
 mA_ (ι:=lBaseX) (fun i j h=>by obtain ⟨d,r,v,u,hL⟩:=i; obtain ⟨d2,r2,v2,u2,hL2⟩:=j; simp [and_assoc,qB_,qI_,qO_,qC_,qE_,qK_,qR_,qV_,qP_,qOc_,rows_iff_Chg,cLg_eq_iff] at h; obtain ⟨_,_,_,rfl,rfl,rfl,_,rfl⟩:=h; rfl) ⟨d,r,v,u,hL⟩
theorem lBaseS_at (d:List Chg) (r:List Chg) (v:Vn 4) (u:Vn 4) (hL:d.length + r.length<=10000):lBaseS [.ref (1,0) 0] [.obj (cLg (.own (1,1) (d).length) (.own (1,2) (d).length) (bD (d)).1 (.sl 7 (rows cOrd (bD (d)).2)) (.bool true) (.ref (1,3) 0) v u),.row 35 9 (rows cChg (d)) false,.row 50 2 (rows cOc (oD (d))) false,.obj [.sl 9 (rows cChg (r))]]=some (⟨.agg (cBk (bD d).1 (.sl 7 (rows cOrd (bD d).2))),[.obj (cLg (.own (1,1) (d).length) (.own (1,2) (d).length) (bD (d)).1 (.sl 7 (rows cOrd (bD (d)).2)) (.bool true) (.ref (1,3) 0) v u),.row 35 9 (rows cChg (d)) false,.row 50 2 (rows cOc (oD (d))) false,.obj [.sl 9 (rows cChg (r))]],[]⟩):=lBaseS_atG d r v u hL
theorem lBase_ok:HSound Tryz.prog 16 lBaseS:=by
 refine sE_ (fn:=Tryz.f16) rfl rfl (by kernel_rfl) fun args bx hr hS=>?_
 obtain ⟨⟨d,r,v,u,hL⟩,rfl,rfl,rfl⟩:=mO_ hS
 clear hS
 refine ⟨_,(eV_ (g:=32) (by kernel_rfl) isL_ok (eV_ (g:=40) (by kernel_rfl) lastF_ok (eN_ _))),by simp [Tryz.f16],by simp [go_sem],fun w Mx pin=>?_⟩
 simp only [hB_at,lab_nil,lab_cons,hOf_nil,hOf_cons]
 refine aQ_ ?_
 iterate 1
  refine oC_ fun J hJ=>?_
  simp [go_sem]
  refine hJ _ _ _ ?_
 refine oN_ ?_
 refine aS_ fun K2 hK2=>?_
 refine aQ_ ?_
 iterate 3
  refine oC_ fun J hJ=>?_
  simp [go_sem,isLS_at]
  refine hJ _ _ _ ?_
 refine oN_ ?_
 refine aF_ rfl ?_
 refine aK_ ?_
 refine hK2 _ ?_
 refine aQ_ ?_
 iterate 7
  refine oC_ fun J hJ=>?_
  simp [go_sem,↓lastF_bZ d (by omega)]
  refine hJ _ _ _ ?_
 refine oN_ ?_
 refine aE_ ?_
 refine fQ_ [((1,0),some (1,0)),((1,1),some (1,1)),((1,2),some (1,2)),((1,3),some (1,3))] ?_
 simp [go_sem,Tryz.f16]
structure lSeenX where
 d:List Chg
 r:List Chg
 v:Vn 4
 u:Vn 4
 hL:d.length + r.length<=10000
noncomputable def lSeenS:HSpec:=mkH (ι:=lSeenX) (fun ⟨d,r,v,u,hL⟩=>([.ref (1,0) 0],[.obj (cLg (.own (1,1) (d).length) (.own (1,2) (d).length) (bD (d)).1 (.sl 7 (rows cOrd (bD (d)).2)) (.bool true) (.ref (1,3) 0) v u),.row 35 9 (rows cChg (d)) false,.row 50 2 (rows cOc (oD (d))) false,.obj [.sl 9 (rows cChg (r))]])) fun ⟨d,r,v,u,hL⟩=>⟨.agg (cBk (bD (d++r)).1 (.sl 7 (rows cOrd (bD (d++r)).2))),[.obj (cLg (.own (1,1) (d).length) (.own (1,2) (d).length) (bD (d)).1 (.sl 7 (rows cOrd (bD (d)).2)) (.bool true) (.ref (1,3) 0) v u),.row 35 9 (rows cChg (d)) false,.row 50 2 (rows cOc (oD (d))) false,.obj [.sl 9 (rows cChg (r))]],[]⟩
theorem lSeenS_atG (d:List Chg) (r:List Chg) (v:Vn 4) (u:Vn 4) (hL:d.length + r.length<=10000):lSeenS [.ref (1,0) 0] [.obj (cLg (.own (1,1) (d).length) (.own (1,2) (d).length) (bD (d)).1 (.sl 7 (rows cOrd (bD (d)).2)) (.bool true) (.ref (1,3) 0) v u),.row 35 9 (rows cChg (d)) false,.row 50 2 (rows cOc (oD (d))) false,.obj [.sl 9 (rows cChg (r))]]=some (⟨.agg (cBk (bD (d++r)).1 (.sl 7 (rows cOrd (bD (d++r)).2))),[.obj (cLg (.own (1,1) (d).length) (.own (1,2) (d).length) (bD (d)).1 (.sl 7 (rows cOrd (bD (d)).2)) (.bool true) (.ref (1,3) 0) v u),.row 35 9 (rows cChg (d)) false,.row 50 2 (rows cOc (oD (d))) false,.obj [.sl 9 (rows cChg (r))]],[]⟩):=
 mA_ (ι:=lSeenX) (fun i j h=>by obtain ⟨d,r,v,u,hL⟩:=i; obtain ⟨d2,r2,v2,u2,hL2⟩:=j; simp [and_assoc,qB_,qI_,qO_,qC_,qE_,qK_,qR_,qV_,qP_,qOc_,rows_iff_Chg,cLg_eq_iff] at h; obtain ⟨_,_,_,rfl,rfl,rfl,_,rfl⟩:=h; rfl) ⟨d,r,v,u,hL⟩
theorem lSeenS_at (d:List Chg) (r:List Chg) (v:Vn 4) (u:Vn 4) (hL:d.length + r.length<=10000):lSeenS [.ref (1,0) 0] [.obj (cLg (.own (1,1) (d).length) (.own (1,2) (d).length) (bD (d)).1 (.sl 7 (rows cOrd (bD (d)).2)) (.bool true) (.ref (1,3) 0) v u),.row 35 9 (rows cChg (d)) false,.row 50 2 (rows cOc (oD (d))) false,.obj [.sl 9 (rows cChg (r))]]=some (⟨.agg (cBk (bD (d++r)).1 (.sl 7 (rows cOrd (bD (d++r)).2))),[.obj (cLg (.own (1,1) (d).length) (.own (1,2) (d).length) (bD (d)).1 (.sl 7 (rows cOrd (bD (d)).2)) (.bool true) (.ref (1,3) 0) v u),.row 35 9 (rows cChg (d)) false,.row 50 2 (rows cOc (oD (d))) false,.obj [.sl 9 (rows cChg (r))]],[]⟩):=lSeenS_atG d r v u hL
theorem lSeen_ok:HSound Tryz.prog 19 lSeenS:=by
 refine sE_ (fn:=Tryz.f19) rfl rfl (by kernel_rfl) fun args bx hr hS=>?_
 obtain ⟨⟨d,r,v,u,hL⟩,rfl,rfl,rfl⟩:=mO_ hS
 clear hS
 refine ⟨_,(eV_ (g:=32) (by kernel_rfl) isL_ok (eV_ (g:=37) (by kernel_rfl) tAll_ok (eV_ (g:=40) (by kernel_rfl) lastF_ok (eN_ _)))),by simp [Tryz.f19],by simp [go_sem],fun w Mx pin=>?_⟩
 simp only [hB_at,lab_nil,lab_cons,hOf_nil,hOf_cons]
 have htk:List.take r.length r=r:=List.take_length
 refine aQ_ ?_
 iterate 1
  refine oC_ fun J hJ=>?_
  simp [go_sem]
  refine hJ _ _ _ ?_
 refine oN_ ?_
 refine aS_ fun K2 hK2=>?_
 refine aQ_ ?_
 iterate 3
  refine oC_ fun J hJ=>?_
  simp [go_sem,isLS_at]
  refine hJ _ _ _ ?_
 refine oN_ ?_
 refine aF_ rfl ?_
 refine aK_ ?_
 refine hK2 _ ?_
 refine aS_ fun K6 hK6=>?_
 by_cases hz:(bD (d++r)).2=[]
 all_goals
  refine aD_ ?_
  iterate 12
   refine oC_ fun J hJ=>?_
   simp [go_sem,tAllS_at r (by omega),↓lastF_bD d r hL,hz]
   refine hJ _ _ _ ?_
  refine oN_ ?_
  refine ⟨rfl,?_⟩
  refine hK6 _ ?_
  refine aE_ ?_
  refine fQ_ [((1,0),some (1,0)),((1,1),some (1,1)),((1,2),some (1,2)),((1,3),some (1,3))] ?_
  simp [go_sem,Tryz.f19,hz]
end Go.Proofs.YtjoaigccapegpaaGreat.AE
