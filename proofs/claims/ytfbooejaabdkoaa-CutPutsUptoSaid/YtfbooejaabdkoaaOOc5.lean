/-
 A pen: order: contract. Conditions: none; every contract names its own.
-/
import Derived.Test.YtfbooejaabdkoaaOOc3
set_option linter.constructorNameAsVariable false
namespace Go.Proofs.Ytfbooejaabdkoaa.AE
open Go Go.Proofs Go.RowKit
set_option linter.unusedVariables false
set_option linter.unusedSimpArgs false
set_option maxRecDepth 100000
set_option maxHeartbeats 4000000
structure porderX where
 p:Bool
 l:List U8
 hL:l.length<=140737488355328/\Oct l
noncomputable def porderS:HSpec:=mkH (ι:=porderX) (fun ⟨p,l,hL⟩=>([.agg [.ref (1,0) 0]],[.obj [.bool true,.bool p,.sl 1 (rows cU8 l)]])) fun ⟨p,l,hL⟩=>⟨.agg (cOrd (ordG (p,l)).1),[.obj [.bool true,.bool (ordG (p,l)).2.1,.sl 1 (rows cU8 (ordG (p,l)).2.2)]],[]⟩
theorem porderS_atG (p:Bool) (l:List U8) (hL:l.length<=140737488355328/\Oct l):porderS [.agg [.ref (1,0) 0]] [.obj [.bool true,.bool p,.sl 1 (rows cU8 l)]]=some (⟨.agg (cOrd (ordG (p,l)).1),[.obj [.bool true,.bool (ordG (p,l)).2.1,.sl 1 (rows cU8 (ordG (p,l)).2.2)]],[]⟩):=
 mA_ (ι:=porderX) (fun i j h=>by obtain ⟨p,l,hL⟩:=i; obtain ⟨p2,l2,hL2⟩:=j; simp [and_assoc,qB_,qI_,qO_,qC_,qE_,qK_,qR_,qV_,qP_,qOc_,rows_iff_U8,cCut_eq_iff,Int.natCast_inj] at h; obtain ⟨rfl,rfl⟩:=h; rfl) ⟨p,l,hL⟩
theorem porderS_at (p:Bool) (l:List U8) (hL:l.length<=140737488355328/\Oct l):porderS [.agg [.ref (1,0) 0]] [.obj [.bool true,.bool p,.sl 1 (rows cU8 l)]]=some (⟨.agg (cOrd (ordG (p,l)).1),[.obj [.bool true,.bool (ordG (p,l)).2.1,.sl 1 (rows cU8 (ordG (p,l)).2.2)]],[]⟩):=porderS_atG p l hL
theorem porder_ok:HSound Try.prog 50 porderS:=by
 refine sE_ (fn:=Try.f50) rfl rfl (by kernel_rfl) fun args bx hr hS=>?_
 obtain ⟨⟨p,l,hL⟩,rfl,rfl,rfl⟩:=mO_ hS
 clear hS
 refine ⟨_,(eH_ (g:=48) (by kernel_rfl) ptake_ok (eN_ _)),by simp [Try.f50],by simp [go_sem],fun w Mx pin=>?_⟩
 simp only [hB_at,lab_nil,lab_cons,hOf_nil,hOf_cons]
 obtain ⟨r,hr⟩:∃ r:Rd,r=(p,l):=⟨_,rfl⟩
 have h0:r.2.length<=140737488355328/\Oct r.2:=by rw [hr]; exact hL
 have hp0:=ptake_r r 1 1 rfl ⟨h0,by omega,by omega⟩
 obtain ⟨r1,e1⟩:∃ r1,r1=rdR 1 r:=⟨_,rfl⟩
 have h1:r1.2.length<=140737488355328/\Oct r1.2:=e1 ▸ rdR_ok 1 h0
 have hp1:=ptake_r r1 2 2 rfl ⟨h1,by omega,by omega⟩
 obtain ⟨r2,e2⟩:∃ r2,r2=rdR 2 r1:=⟨_,rfl⟩
 have h2:r2.2.length<=140737488355328/\Oct r2.2:=e2 ▸ rdR_ok 2 h1
 have hp2:=ptake_r r2 1 1 rfl ⟨h2,by omega,by omega⟩
 obtain ⟨r3,e3⟩:∃ r3,r3=rdR 1 r2:=⟨_,rfl⟩
 have h3:r3.2.length<=140737488355328/\Oct r3.2:=e3 ▸ rdR_ok 1 h2
 have hp3:=ptake_r r3 1 1 rfl ⟨h3,by omega,by omega⟩
 obtain ⟨r4,e4⟩:∃ r4,r4=rdR 1 r3:=⟨_,rfl⟩
 have h4:r4.2.length<=140737488355328/\Oct r4.2:=e4 ▸ rdR_ok 1 h3
 have hp4:=ptake_r r4 8 8 rfl ⟨h4,by omega,by omega⟩
 obtain ⟨r5,e5⟩:∃ r5,r5=rdR 8 r4:=⟨_,rfl⟩
 have h5:r5.2.length<=140737488355328/\Oct r5.2:=e5 ▸ rdR_ok 8 h4
 have hp5:=ptake_r r5 8 8 rfl ⟨h5,by omega,by omega⟩
 obtain ⟨r6,e6⟩:∃ r6,r6=rdR 8 r5:=⟨_,rfl⟩
 have h6:r6.2.length<=140737488355328/\Oct r6.2:=e6 ▸ rdR_ok 8 h5
 have hp6:=ptake_r r6 1 1 rfl ⟨h6,by omega,by omega⟩
 obtain ⟨r7,e7⟩:∃ r7,r7=rdR 1 r6:=⟨_,rfl⟩
 have h7:r7.2.length<=140737488355328/\Oct r7.2:=e7 ▸ rdR_ok 1 h6
 skip
 rw [<-e1] at hp0
 rw [<-e2] at hp1
 rw [<-e3] at hp2
 rw [<-e4] at hp3
 rw [<-e5] at hp4
 rw [<-e6] at hp5
 rw [<-e7] at hp6
 have hG:ordG (p,l)=(⟨⟨tk 1 r,tk 2 r1⟩,tk 1 r2,tk 1 r3,tk 8 r4,tk 8 r5,tk 1 r6⟩,r7):=by rw [<-hr]; simp only [ordG,e1,e2,e3,e4,e5,e6,e7]
 have q1:p=r.1:=by rw [hr]
 have q2:l=r.2:=by rw [hr]
 rw [hG]
 clear hL hr
 subst q1 q2
 refine aQ_ ?_
 iterate 2
  refine oC_ fun J hJ=>?_
  simp [go_sem]
  refine hJ _ _ _ ?_
 refine oN_ ?_
 refine aU_ ?_
 iterate 12
  refine oC_ fun J hJ=>?_
  simp [go_sem,↓hp0,↓hp1,↓hp2,↓hp3]
  refine hJ _ _ _ ?_
 refine oN_ ?_
 refine ⟨rfl,?_⟩
 refine aU_ ?_
 iterate 12
  refine oC_ fun J hJ=>?_
  simp [go_sem,↓hp4,↓hp5,↓hp6]
  refine hJ _ _ _ ?_
 refine oN_ ?_
 refine ⟨rfl,?_⟩
 refine aQ_ ?_
 iterate 2
  refine oC_ fun J hJ=>?_
  simp [go_sem]
  refine hJ _ _ _ ?_
 refine oN_ ?_
 refine aE_ ?_
 refine fQ_ [((1,0),some (1,0))] ?_
 simp [go_sem,Try.f50]
end Go.Proofs.Ytfbooejaabdkoaa.AE
