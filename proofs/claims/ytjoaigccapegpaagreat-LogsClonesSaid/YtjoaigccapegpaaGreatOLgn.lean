/-
 Package logs: what nobody made. Conditions: none; every contract names its own.
-/
import Derived.Test.YtjoaigccapegpaaGreatOLgd
import Derived.Test.YtjoaigccapegpaaGreatPf
set_option linter.constructorNameAsVariable false
namespace Go.Proofs.YtjoaigccapegpaaGreat.AE
open Go Go.Proofs Go.RowKit
set_option linter.unusedVariables false
set_option linter.unusedSimpArgs false
set_option maxRecDepth 100000
set_option maxHeartbeats 4000000
structure isNX where
 u:Unit
noncomputable def isNS:HSpec:=mkH (ι:=isNX) (fun ⟨_⟩=>([.nilp],[])) fun ⟨_⟩=>⟨.bool false,[],[]⟩
theorem isNS_atG:isNS [.nilp] []=some (⟨.bool false,[],[]⟩):=
 mA_ (ι:=isNX) (fun i j h=>by obtain ⟨_⟩:=i; obtain ⟨_⟩:=j; rfl) ⟨()⟩
theorem isNS_at:isNS [.nilp] []=some (⟨.bool false,[],[]⟩):=isNS_atG
theorem isN_ok:HSound Tryz.prog 32 isNS:=by
 refine sE_ (fn:=Tryz.f32) rfl rfl (by kernel_rfl) fun args bx hr hS=>?_
 obtain ⟨⟨_⟩,rfl,rfl,rfl⟩:=mO_ hS
 clear hS
 refine ⟨_,(eN_ _),by simp [Tryz.f32],by simp [go_sem],fun w Mx pin=>?_⟩
 simp only [hB_at,lab_nil,lab_cons,hOf_nil,hOf_cons]
 refine aQ_ ?_
 iterate 1
  refine oC_ fun J hJ=>?_
  simp [go_sem]
  refine hJ _ _ _ ?_
 refine oN_ ?_
 refine aQ_ ?_
 iterate 9
  refine oC_ fun J hJ=>?_
  simp [go_sem]
  refine hJ _ _ _ ?_
 refine oN_ ?_
 refine aE_ ?_
 refine fQ_ [] ?_
 simp [go_sem,Tryz.f32]
structure nOutX where
 a:Id
noncomputable def nOutS:HSpec:=mkH (ι:=nOutX) (fun ⟨a⟩=>([.nilp,.agg (cId a)],[])) fun ⟨a⟩=>⟨.tup [.agg (cOc zOc),.bool false,.bool false],[],[]⟩
theorem nOutS_atG (a:Id):nOutS [.nilp,.agg (cId a)] []=some (⟨.tup [.agg (cOc zOc),.bool false,.bool false],[],[]⟩):=
 mA_ (ι:=nOutX) (fun i j h=>by obtain ⟨a⟩:=i; obtain ⟨a2⟩:=j; simp [and_assoc,qB_,qI_,qO_,qC_,qE_,qK_,qR_,qV_,qP_,qOc_] at h; obtain rfl:=h; rfl) ⟨a⟩
theorem nOutS_at (a:Id):nOutS [.nilp,.agg (cId a)] []=some (⟨.tup [.agg (cOc zOc),.bool false,.bool false],[],[]⟩):=nOutS_atG a
theorem nOut_ok:HSound Tryz.prog 13 nOutS:=by
 refine sE_ (fn:=Tryz.f13) rfl rfl (by kernel_rfl) fun args bx hr hS=>?_
 obtain ⟨⟨a⟩,rfl,rfl,rfl⟩:=mO_ hS
 clear hS
 refine ⟨_,(eV_ (g:=32) (by kernel_rfl) isN_ok (eN_ _)),by simp [Tryz.f13],by simp [go_sem],fun w Mx pin=>?_⟩
 simp only [hB_at,lab_nil,lab_cons,hOf_nil,hOf_cons]
 refine aQ_ ?_
 iterate 4
  refine oC_ fun J hJ=>?_
  simp [go_sem]
  refine hJ _ _ _ ?_
 refine oN_ ?_
 refine aS_ fun K2 hK2=>?_
 refine aQ_ ?_
 iterate 3
  refine oC_ fun J hJ=>?_
  simp [go_sem,isNS_at]
  refine hJ _ _ _ ?_
 refine oN_ ?_
 refine aT_ rfl ?_
 refine aQ_ ?_
 iterate 4
  refine oC_ fun J hJ=>?_
  simp [go_sem]
  refine hJ _ _ _ ?_
 refine oN_ ?_
 refine aE_ ?_
 refine fQ_ [] ?_
 simp [go_sem,Tryz.f13,zOc_cells]
theorem nOut_or (a:Id):twoS lOutS nOutS [.nilp,.agg (cId a)] []=some ⟨.tup [.agg (cOc zOc),.bool false,.bool false],[],[]⟩:=twoS_right (by unfold lOutS; exact mkH_none fun i h=>by cases i; simp at h) (nOutS_at a)
structure nFirstX where
 u:Unit
noncomputable def nFirstS:HSpec:=mkH (ι:=nFirstX) (fun ⟨_⟩=>([.iref (cLg .nils .nils zBk .nils (.bool false) .nilp (zV 4) (zV 4)) 0],[])) fun ⟨_⟩=>⟨.tup [.agg (cId zId),.bool false],[],[]⟩
theorem nFirstS_atG:nFirstS [.iref (cLg .nils .nils zBk .nils (.bool false) .nilp (zV 4) (zV 4)) 0] []=some (⟨.tup [.agg (cId zId),.bool false],[],[]⟩):=
 mA_ (ι:=nFirstX) (fun i j h=>by obtain ⟨_⟩:=i; obtain ⟨_⟩:=j; rfl) ⟨()⟩
theorem nFirstS_at:nFirstS [.iref (cLg .nils .nils zBk .nils (.bool false) .nilp (zV 4) (zV 4)) 0] []=some (⟨.tup [.agg (cId zId),.bool false],[],[]⟩):=nFirstS_atG
theorem nFirst_ok:HSound Tryz.prog 23 nFirstS:=by
 refine sE_ (fn:=Tryz.f23) rfl rfl (by kernel_rfl) fun args bx hr hS=>?_
 obtain ⟨⟨_⟩,rfl,rfl,rfl⟩:=mO_ hS
 clear hS
 refine ⟨_,(eV_ (g:=32) (by kernel_rfl) isL_ok (eN_ _)),by simp [Tryz.f23],by simp [go_sem],fun w Mx pin=>?_⟩
 simp only [hB_at,lab_nil,lab_cons,hOf_nil,hOf_cons]
 refine aQ_ ?_
 iterate 2
  refine oC_ fun J hJ=>?_
  simp [go_sem]
  refine hJ _ _ _ ?_
 refine oN_ ?_
 refine aS_ fun K2 hK2=>?_
 refine aQ_ ?_
 iterate 3
  refine oC_ fun J hJ=>?_
  simp [go_sem,isLS_at]
  refine hJ _ _ _ ?_
 refine oN_ ?_
 refine aT_ rfl ?_
 refine aQ_ ?_
 iterate 3
  refine oC_ fun J hJ=>?_
  simp [go_sem]
  refine hJ _ _ _ ?_
 refine oN_ ?_
 refine aE_ ?_
 refine fQ_ [] ?_
 simp [go_sem,Tryz.f23]
theorem nFirst_or:twoS lFirstS nFirstS [.iref (cLg .nils .nils zBk .nils (.bool false) .nilp (zV 4) (zV 4)) 0] []=some ⟨.tup [.agg (cId zId),.bool false],[],[]⟩:=twoS_right (by unfold lFirstS; exact mkH_none fun i h=>by cases i; simp [cLg_eq_iff] at h) (nFirstS_at)
structure nAddX where
 c:Chg
noncomputable def nAddS:HSpec:=mkH (ι:=nAddX) (fun ⟨c⟩=>([.nilp,.agg (cChg c)],[])) fun ⟨c⟩=>⟨.int .i64 9,[],[]⟩
theorem nAddS_atG (c:Chg):nAddS [.nilp,.agg (cChg c)] []=some (⟨.int .i64 9,[],[]⟩):=
 mA_ (ι:=nAddX) (fun i j h=>by obtain ⟨c⟩:=i; obtain ⟨c2⟩:=j; simp [and_assoc,qB_,qI_,qO_,qC_,qE_,qK_,qR_,qV_,qP_,qOc_] at h; obtain rfl:=h; rfl) ⟨c⟩
theorem nAddS_at (c:Chg):nAddS [.nilp,.agg (cChg c)] []=some (⟨.int .i64 9,[],[]⟩):=nAddS_atG c
theorem nAdd_ok:HSound Tryz.prog 24 nAddS:=by
 refine sE_ (fn:=Tryz.f24) rfl rfl (by kernel_rfl) fun args bx hr hS=>?_
 obtain ⟨⟨c⟩,rfl,rfl,rfl⟩:=mO_ hS
 clear hS
 refine ⟨_,(eV_ (g:=32) (by kernel_rfl) isN_ok (eN_ _)),by simp [Tryz.f24],by simp [go_sem],fun w Mx pin=>?_⟩
 simp only [hB_at,lab_nil,lab_cons,hOf_nil,hOf_cons]
 refine aQ_ ?_
 iterate 2
  refine oC_ fun J hJ=>?_
  simp [go_sem]
  refine hJ _ _ _ ?_
 refine oN_ ?_
 refine aS_ fun K2 hK2=>?_
 refine aB_ ?_
 refine aQ_ ?_
 iterate 4
  refine oC_ fun J hJ=>?_
  simp [go_sem,isNS_at]
  refine hJ _ _ _ ?_
 refine oN_ ?_
 refine aT_ rfl ?_
 refine aQ_ ?_
 iterate 1
  refine oC_ fun J hJ=>?_
  simp [go_sem]
  refine hJ _ _ _ ?_
 refine oN_ ?_
 refine aE_ ?_
 refine fQ_ [] ?_
 simp [go_sem,Tryz.f24]
theorem nAdd_or (c:Chg):twoS lAddS nAddS [.nilp,.agg (cChg c)] []=some ⟨.int .i64 9,[],[]⟩:=twoS_right (by unfold lAddS; exact mkH_none fun i h=>by cases i; simp at h) (nAddS_at c)
structure nComX where
 a:Id
noncomputable def nComS:HSpec:=mkH (ι:=nComX) (fun ⟨a⟩=>([.ref (1,0) 0,.agg (cId a)],[.obj (cLg .nils .nils zBk .nils (.bool false) .nilp (zV 4) (zV 4))])) fun ⟨a⟩=>⟨.int .i64 9,[.obj (cLg .nils .nils zBk .nils (.bool false) .nilp (zV 4) (zV 4))],[]⟩
theorem nComS_atG (a:Id):nComS [.ref (1,0) 0,.agg (cId a)] [.obj (cLg .nils .nils zBk .nils (.bool false) .nilp (zV 4) (zV 4))]=some (⟨.int .i64 9,[.obj (cLg .nils .nils zBk .nils (.bool false) .nilp (zV 4) (zV 4))],[]⟩):=
 mA_ (ι:=nComX) (fun i j h=>by obtain ⟨a⟩:=i; obtain ⟨a2⟩:=j; simp [and_assoc,qB_,qI_,qO_,qC_,qE_,qK_,qR_,qV_,qP_,qOc_] at h; obtain rfl:=h; rfl) ⟨a⟩
theorem nComS_at (a:Id):nComS [.ref (1,0) 0,.agg (cId a)] [.obj (cLg .nils .nils zBk .nils (.bool false) .nilp (zV 4) (zV 4))]=some (⟨.int .i64 9,[.obj (cLg .nils .nils zBk .nils (.bool false) .nilp (zV 4) (zV 4))],[]⟩):=nComS_atG a
theorem nCom_ok:HSound Tryz.prog 25 nComS:=by
 refine sE_ (fn:=Tryz.f25) rfl rfl (by kernel_rfl) fun args bx hr hS=>?_
 obtain ⟨⟨a⟩,rfl,rfl,rfl⟩:=mO_ hS
 clear hS
 refine ⟨_,(eV_ (g:=32) (by kernel_rfl) isL_ok (eN_ _)),by simp [Tryz.f25],by simp [go_sem],fun w Mx pin=>?_⟩
 simp only [hB_at,lab_nil,lab_cons,hOf_nil,hOf_cons]
 refine aQ_ ?_
 iterate 2
  refine oC_ fun J hJ=>?_
  simp [go_sem]
  refine hJ _ _ _ ?_
 refine oN_ ?_
 refine aS_ fun K2 hK2=>?_
 refine aQ_ ?_
 iterate 3
  refine oC_ fun J hJ=>?_
  simp [go_sem,isLS_at]
  refine hJ _ _ _ ?_
 refine oN_ ?_
 refine aT_ rfl ?_
 refine aQ_ ?_
 iterate 1
  refine oC_ fun J hJ=>?_
  simp [go_sem]
  refine hJ _ _ _ ?_
 refine oN_ ?_
 refine aE_ ?_
 refine fQ_ [((1,0),some (1,0))] ?_
 simp [go_sem,Tryz.f25]
theorem nCom_or (a:Id):twoS lComS nComS [.ref (1,0) 0,.agg (cId a)] [.obj (cLg .nils .nils zBk .nils (.bool false) .nilp (zV 4) (zV 4))]=some ⟨.int .i64 9,[.obj (cLg .nils .nils zBk .nils (.bool false) .nilp (zV 4) (zV 4))],[]⟩:=twoS_right (by unfold lComS; exact mkH_none fun i h=>by cases i; simp [cLg_eq_iff] at h) (nComS_at a)
structure nClockX where
 u:Unit
noncomputable def nClockS:HSpec:=mkH (ι:=nClockX) (fun ⟨_⟩=>([.nilp],[])) fun ⟨_⟩=>⟨.int .i64 0,[],[]⟩
theorem nClockS_atG:nClockS [.nilp] []=some (⟨.int .i64 0,[],[]⟩):=
 mA_ (ι:=nClockX) (fun i j h=>by obtain ⟨_⟩:=i; obtain ⟨_⟩:=j; rfl) ⟨()⟩
theorem nClockS_at:nClockS [.nilp] []=some (⟨.int .i64 0,[],[]⟩):=nClockS_atG
theorem nClock_ok:HSound Tryz.prog 26 nClockS:=by
 refine sE_ (fn:=Tryz.f26) rfl rfl (by kernel_rfl) fun args bx hr hS=>?_
 obtain ⟨⟨_⟩,rfl,rfl,rfl⟩:=mO_ hS
 clear hS
 refine ⟨_,(eV_ (g:=32) (by kernel_rfl) isN_ok (eN_ _)),by simp [Tryz.f26],by simp [go_sem],fun w Mx pin=>?_⟩
 simp only [hB_at,lab_nil,lab_cons,hOf_nil,hOf_cons]
 refine aQ_ ?_
 iterate 1
  refine oC_ fun J hJ=>?_
  simp [go_sem]
  refine hJ _ _ _ ?_
 refine oN_ ?_
 refine aS_ fun K2 hK2=>?_
 refine aQ_ ?_
 iterate 3
  refine oC_ fun J hJ=>?_
  simp [go_sem,isNS_at]
  refine hJ _ _ _ ?_
 refine oN_ ?_
 refine aT_ rfl ?_
 refine aQ_ ?_
 iterate 1
  refine oC_ fun J hJ=>?_
  simp [go_sem]
  refine hJ _ _ _ ?_
 refine oN_ ?_
 refine aE_ ?_
 refine fQ_ [] ?_
 simp [go_sem,Tryz.f26]
theorem nClock_or:twoS lClockS nClockS [.nilp] []=some ⟨.int .i64 0,[],[]⟩:=twoS_right (by unfold lClockS; exact mkH_none fun i h=>by cases i; simp at h) (nClockS_at)
structure nCommX where
 u:Unit
noncomputable def nCommS:HSpec:=mkH (ι:=nCommX) (fun ⟨_⟩=>([.nilp],[])) fun ⟨_⟩=>⟨.nils,[],[]⟩
theorem nCommS_atG:nCommS [.nilp] []=some (⟨.nils,[],[]⟩):=
 mA_ (ι:=nCommX) (fun i j h=>by obtain ⟨_⟩:=i; obtain ⟨_⟩:=j; rfl) ⟨()⟩
theorem nCommS_at:nCommS [.nilp] []=some (⟨.nils,[],[]⟩):=nCommS_atG
theorem nComm_ok:HSound Tryz.prog 10 nCommS:=by
 refine sE_ (fn:=Tryz.f10) rfl rfl (by kernel_rfl) fun args bx hr hS=>?_
 obtain ⟨⟨_⟩,rfl,rfl,rfl⟩:=mO_ hS
 clear hS
 refine ⟨_,(eV_ (g:=32) (by kernel_rfl) isN_ok (eN_ _)),by simp [Tryz.f10],by simp [go_sem],fun w Mx pin=>?_⟩
 simp only [hB_at,lab_nil,lab_cons,hOf_nil,hOf_cons]
 refine aQ_ ?_
 iterate 1
  refine oC_ fun J hJ=>?_
  simp [go_sem]
  refine hJ _ _ _ ?_
 refine oN_ ?_
 refine aS_ fun K2 hK2=>?_
 refine aQ_ ?_
 iterate 3
  refine oC_ fun J hJ=>?_
  simp [go_sem,isNS_at]
  refine hJ _ _ _ ?_
 refine oN_ ?_
 refine aT_ rfl ?_
 refine aQ_ ?_
 iterate 1
  refine oC_ fun J hJ=>?_
  simp [go_sem]
  refine hJ _ _ _ ?_
 refine oN_ ?_
 refine aE_ ?_
 refine fQ_ [] ?_
 simp [go_sem,Tryz.f10]
theorem nComm_or:twoS lCommS nCommS [.nilp] []=some ⟨.nils,[],[]⟩:=twoS_right (by unfold lCommS; exact mkH_none fun i h=>by cases i; simp at h) (nCommS_at)
structure nTentX where
 u:Unit
noncomputable def nTentS:HSpec:=mkH (ι:=nTentX) (fun ⟨_⟩=>([.iref (cLg .nils .nils zBk .nils (.bool false) .nilp (zV 4) (zV 4)) 0],[])) fun ⟨_⟩=>⟨.nils,[],[]⟩
theorem nTentS_atG:nTentS [.iref (cLg .nils .nils zBk .nils (.bool false) .nilp (zV 4) (zV 4)) 0] []=some (⟨.nils,[],[]⟩):=
 mA_ (ι:=nTentX) (fun i j h=>by obtain ⟨_⟩:=i; obtain ⟨_⟩:=j; rfl) ⟨()⟩
theorem nTentS_at:nTentS [.iref (cLg .nils .nils zBk .nils (.bool false) .nilp (zV 4) (zV 4)) 0] []=some (⟨.nils,[],[]⟩):=nTentS_atG
theorem nTent_ok:HSound Tryz.prog 27 nTentS:=by
 refine sE_ (fn:=Tryz.f27) rfl rfl (by kernel_rfl) fun args bx hr hS=>?_
 obtain ⟨⟨_⟩,rfl,rfl,rfl⟩:=mO_ hS
 clear hS
 refine ⟨_,(eV_ (g:=32) (by kernel_rfl) isL_ok (eN_ _)),by simp [Tryz.f27],by simp [go_sem],fun w Mx pin=>?_⟩
 simp only [hB_at,lab_nil,lab_cons,hOf_nil,hOf_cons]
 refine aQ_ ?_
 iterate 1
  refine oC_ fun J hJ=>?_
  simp [go_sem]
  refine hJ _ _ _ ?_
 refine oN_ ?_
 refine aS_ fun K2 hK2=>?_
 refine aQ_ ?_
 iterate 3
  refine oC_ fun J hJ=>?_
  simp [go_sem,isLS_at]
  refine hJ _ _ _ ?_
 refine oN_ ?_
 refine aT_ rfl ?_
 refine aQ_ ?_
 iterate 1
  refine oC_ fun J hJ=>?_
  simp [go_sem]
  refine hJ _ _ _ ?_
 refine oN_ ?_
 refine aE_ ?_
 refine fQ_ [] ?_
 simp [go_sem,Tryz.f27]
theorem nTent_or:twoS lTentS nTentS [.iref (cLg .nils .nils zBk .nils (.bool false) .nilp (zV 4) (zV 4)) 0] []=some ⟨.nils,[],[]⟩:=twoS_right (by unfold lTentS; exact mkH_none fun i h=>by cases i; simp [cLg_eq_iff] at h) (nTentS_at)
structure nKnownX where
 u:Unit
noncomputable def nKnownS:HSpec:=mkH (ι:=nKnownX) (fun ⟨_⟩=>([.nilp],[])) fun ⟨_⟩=>⟨.agg (cV (zV 4)),[],[]⟩
theorem nKnownS_atG:nKnownS [.nilp] []=some (⟨.agg (cV (zV 4)),[],[]⟩):=
 mA_ (ι:=nKnownX) (fun i j h=>by obtain ⟨_⟩:=i; obtain ⟨_⟩:=j; rfl) ⟨()⟩
theorem nKnownS_at:nKnownS [.nilp] []=some (⟨.agg (cV (zV 4)),[],[]⟩):=nKnownS_atG
theorem nKnown_ok:HSound Tryz.prog 28 nKnownS:=by
 refine sE_ (fn:=Tryz.f28) rfl rfl (by kernel_rfl) fun args bx hr hS=>?_
 obtain ⟨⟨_⟩,rfl,rfl,rfl⟩:=mO_ hS
 clear hS
 refine ⟨_,(eV_ (g:=32) (by kernel_rfl) isN_ok (eN_ _)),by simp [Tryz.f28],by simp [go_sem],fun w Mx pin=>?_⟩
 simp only [hB_at,lab_nil,lab_cons,hOf_nil,hOf_cons]
 refine aQ_ ?_
 iterate 1
  refine oC_ fun J hJ=>?_
  simp [go_sem]
  refine hJ _ _ _ ?_
 refine oN_ ?_
 refine aS_ fun K2 hK2=>?_
 refine aQ_ ?_
 iterate 3
  refine oC_ fun J hJ=>?_
  simp [go_sem,isNS_at]
  refine hJ _ _ _ ?_
 refine oN_ ?_
 refine aT_ rfl ?_
 refine aQ_ ?_
 iterate 2
  refine oC_ fun J hJ=>?_
  simp [go_sem]
  refine hJ _ _ _ ?_
 refine oN_ ?_
 refine aE_ ?_
 refine fQ_ [] ?_
 simp [go_sem,Tryz.f28]
theorem nKnown_or:twoS lKnownS nKnownS [.nilp] []=some ⟨.agg (cV (zV 4)),[],[]⟩:=twoS_right (by unfold lKnownS; exact mkH_none fun i h=>by cases i; simp at h) (nKnownS_at)
structure nCloneX where
 u:Unit
noncomputable def nCloneS:HSpec:=mkH (ι:=nCloneX) (fun ⟨_⟩=>([.nilp],[])) fun ⟨_⟩=>⟨.nilp,[],[]⟩
theorem nCloneS_atG:nCloneS [.nilp] []=some (⟨.nilp,[],[]⟩):=
 mA_ (ι:=nCloneX) (fun i j h=>by obtain ⟨_⟩:=i; obtain ⟨_⟩:=j; rfl) ⟨()⟩
theorem nCloneS_at:nCloneS [.nilp] []=some (⟨.nilp,[],[]⟩):=nCloneS_atG
theorem nClone_ok:HSound Tryz.prog 21 nCloneS:=by
 refine sE_ (fn:=Tryz.f21) rfl rfl (by kernel_rfl) fun args bx hr hS=>?_
 obtain ⟨⟨_⟩,rfl,rfl,rfl⟩:=mO_ hS
 clear hS
 refine ⟨_,(eV_ (g:=32) (by kernel_rfl) isN_ok (eN_ _)),by simp [Tryz.f21],by simp [go_sem],fun w Mx pin=>?_⟩
 simp only [hB_at,lab_nil,lab_cons,hOf_nil,hOf_cons]
 refine aQ_ ?_
 iterate 1
  refine oC_ fun J hJ=>?_
  simp [go_sem]
  refine hJ _ _ _ ?_
 refine oN_ ?_
 refine aS_ fun K2 hK2=>?_
 refine aQ_ ?_
 iterate 3
  refine oC_ fun J hJ=>?_
  simp [go_sem,isNS_at]
  refine hJ _ _ _ ?_
 refine oN_ ?_
 refine aT_ rfl ?_
 refine aQ_ ?_
 iterate 1
  refine oC_ fun J hJ=>?_
  simp [go_sem]
  refine hJ _ _ _ ?_
 refine oN_ ?_
 refine aE_ ?_
 refine fQ_ [] ?_
 simp [go_sem,Tryz.f21]
structure oCloneX where
 u:Unit
noncomputable def oCloneS:HSpec:=mkH (ι:=oCloneX) (fun ⟨_⟩=>([.ref (1,0) 0],[.obj (cLg .nils .nils zBk .nils (.bool false) .nilp (zV 4) (zV 4))])) fun ⟨_⟩=>⟨.nilp,[.obj (cLg .nils .nils zBk .nils (.bool false) .nilp (zV 4) (zV 4))],[]⟩
theorem oCloneS_atG:oCloneS [.ref (1,0) 0] [.obj (cLg .nils .nils zBk .nils (.bool false) .nilp (zV 4) (zV 4))]=some (⟨.nilp,[.obj (cLg .nils .nils zBk .nils (.bool false) .nilp (zV 4) (zV 4))],[]⟩):=
 mA_ (ι:=oCloneX) (fun i j h=>by obtain ⟨_⟩:=i; obtain ⟨_⟩:=j; rfl) ⟨()⟩
theorem oCloneS_at:oCloneS [.ref (1,0) 0] [.obj (cLg .nils .nils zBk .nils (.bool false) .nilp (zV 4) (zV 4))]=some (⟨.nilp,[.obj (cLg .nils .nils zBk .nils (.bool false) .nilp (zV 4) (zV 4))],[]⟩):=oCloneS_atG
theorem oClone_ok:HSound Tryz.prog 21 oCloneS:=by
 refine sE_ (fn:=Tryz.f21) rfl rfl (by kernel_rfl) fun args bx hr hS=>?_
 obtain ⟨⟨_⟩,rfl,rfl,rfl⟩:=mO_ hS
 clear hS
 refine ⟨_,(eV_ (g:=32) (by kernel_rfl) isL_ok (eN_ _)),by simp [Tryz.f21],by simp [go_sem],fun w Mx pin=>?_⟩
 simp only [hB_at,lab_nil,lab_cons,hOf_nil,hOf_cons]
 refine aQ_ ?_
 iterate 1
  refine oC_ fun J hJ=>?_
  simp [go_sem]
  refine hJ _ _ _ ?_
 refine oN_ ?_
 refine aS_ fun K2 hK2=>?_
 refine aQ_ ?_
 iterate 3
  refine oC_ fun J hJ=>?_
  simp [go_sem,isLS_at]
  refine hJ _ _ _ ?_
 refine oN_ ?_
 refine aT_ rfl ?_
 refine aQ_ ?_
 iterate 1
  refine oC_ fun J hJ=>?_
  simp [go_sem]
  refine hJ _ _ _ ?_
 refine oN_ ?_
 refine aE_ ?_
 refine fQ_ [((1,0),some (1,0))] ?_
 simp [go_sem,Tryz.f21]
structure nSeenX where
 u:Unit
noncomputable def nSeenS:HSpec:=mkH (ι:=nSeenX) (fun ⟨_⟩=>([.nilp],[])) fun ⟨_⟩=>⟨.agg (cBk zBk .nils),[],[]⟩
theorem nSeenS_atG:nSeenS [.nilp] []=some (⟨.agg (cBk zBk .nils),[],[]⟩):=
 mA_ (ι:=nSeenX) (fun i j h=>by obtain ⟨_⟩:=i; obtain ⟨_⟩:=j; rfl) ⟨()⟩
theorem nSeenS_at:nSeenS [.nilp] []=some (⟨.agg (cBk zBk .nils),[],[]⟩):=nSeenS_atG
theorem nSeen_ok:HSound Tryz.prog 19 nSeenS:=by
 refine sE_ (fn:=Tryz.f19) rfl rfl (by kernel_rfl) fun args bx hr hS=>?_
 obtain ⟨⟨_⟩,rfl,rfl,rfl⟩:=mO_ hS
 clear hS
 refine ⟨_,(eV_ (g:=32) (by kernel_rfl) isN_ok (eN_ _)),by simp [Tryz.f19],by simp [go_sem],fun w Mx pin=>?_⟩
 simp only [hB_at,lab_nil,lab_cons,hOf_nil,hOf_cons]
 refine aQ_ ?_
 iterate 1
  refine oC_ fun J hJ=>?_
  simp [go_sem]
  refine hJ _ _ _ ?_
 refine oN_ ?_
 refine aS_ fun K2 hK2=>?_
 refine aQ_ ?_
 iterate 3
  refine oC_ fun J hJ=>?_
  simp [go_sem,isNS_at]
  refine hJ _ _ _ ?_
 refine oN_ ?_
 refine aT_ rfl ?_
 refine aQ_ ?_
 iterate 2
  refine oC_ fun J hJ=>?_
  simp [go_sem]
  refine hJ _ _ _ ?_
 refine oN_ ?_
 refine aE_ ?_
 refine fQ_ [] ?_
 simp [go_sem,Tryz.f19]
theorem nSeen_or:twoS lSeenS nSeenS [.nilp] []=some ⟨.agg (cBk zBk .nils),[],[]⟩:=twoS_right (by unfold lSeenS; exact mkH_none fun i h=>by cases i; simp at h) (nSeenS_at)
end Go.Proofs.YtjoaigccapegpaaGreat.AE
