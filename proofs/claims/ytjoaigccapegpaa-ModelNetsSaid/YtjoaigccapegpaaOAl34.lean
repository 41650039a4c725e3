/-
 Chapter 34: alive. Conditions: none; every contract names its own.
-/
import Derived.Test.YtjoaigccapegpaaORq7
set_option linter.constructorNameAsVariable false
namespace Go.Proofs.Ytjoaigccapegpaa.AE
open Go Go.Proofs Go.RowKit
set_option linter.unusedVariables false
set_option linter.unusedSimpArgs false
set_option maxRecDepth 100000
set_option maxHeartbeats 4000000
theorem m34:expMS [.sl 9 (rows cChg [c34])] []=some ⟨.own (2,0) 1,[],[.row 65 9 (rows cReq [q34]) false]⟩:=by
 have:=expMS_at [c34] (by simp)
 rw [x34,o34] at this
 exact this
theorem ma34:matS [.sl 9 (rows cReq [q34]),.sl 9 (rows cChg [c34])] []=some ⟨.bool true,[],[]⟩:=by
 have:=matS_at [q34] [c34] ⟨by simp,by simp⟩
 rw [x34,n34] at this
 simpa using this
theorem mb34:matS [.nils,.sl 9 (rows cChg [c34])] []=some ⟨.bool false,[],[]⟩:=by
 have:=matS_atG [] .nils [c34] _ .nil .sl ⟨by simp,by simp⟩
 rw [x34,o34,show ordL ordReq (netL [])=[] from rfl] at this
 simpa using this
theorem aa34:alwS [.sl 9 (rows cReq [q34]),.sl 9 (rows cChg [c34])] []=some ⟨.bool true,[],[]⟩:=by
 have:=alwS_at [q34] [c34] ⟨by simp,by simp⟩
 rw [x34,o34] at this
 exact this
theorem ab34:alwS [.sl 9 (rows cReq [q34]),.nils] []=some ⟨.bool false,[],[]⟩:=alwS_atG [q34] _ [] .nils .sl .nil ⟨by simp,by simp⟩
theorem b34:bookMS [.sl 9 (rows cChg [c34])] []=some ⟨.agg (cBk (bkL (zBk,[]) [c34]).1 (.sl 7 (rows cOrd (bkL (zBk,[]) [c34]).2))),[],[]⟩:=bookMS_at [c34] (by simp)
theorem p34:(bkL (zBk,[]) [c34]).1.pu.at 1=4:=rfl
theorem e34:cEff { kind:=8,a:=1,n:=4,ref:=zEff.ref }=cEff q34.what:=rfl
structure alive34X where
 u:Unit
noncomputable def alive34S:HSpec:=mkH (ι:=alive34X) (fun ⟨_⟩=>([],[])) fun ⟨_⟩=>⟨.bool true,[],[]⟩
theorem alive34S_atG:alive34S [] []=some (⟨.bool true,[],[]⟩):=
 mA_ (ι:=alive34X) (fun i j h=>by obtain ⟨_⟩:=i; obtain ⟨_⟩:=j; rfl) ⟨()⟩
theorem alive34S_at:alive34S [] []=some (⟨.bool true,[],[]⟩):=alive34S_atG
theorem alive34_ok:HSound Try.prog 16 alive34S:=by
 refine sE_ (fn:=Try.f16) rfl rfl (by kernel_rfl) fun args bx hr hS=>?_
 obtain ⟨⟨_⟩,rfl,rfl,rfl⟩:=mO_ hS
 clear hS
 refine ⟨_,(eV_ (g:=20) (by kernel_rfl) expM_ok (eV_ (g:=26) (by kernel_rfl) mat_ok (eV_ (g:=27) (by kernel_rfl) alw_ok (eV_ (g:=25) (by kernel_rfl) bookM_ok (eN_ _))))),by simp [Try.f16],by simp [go_sem],fun w Mx pin=>?_⟩
 simp only [hB_at,lab_nil,lab_cons,hOf_nil,hOf_cons]
 refine aQ_ ?_
 iterate 1
  refine oC_ fun J hJ=>?_
  simp [go_sem]
  refine hJ _ _ _ ?_
 refine oN_ ?_
 refine aQ_ ?_
 iterate 4
  refine oC_ fun J hJ=>?_
  simp [go_sem,c34e]
  refine hJ _ _ _ ?_
 refine oN_ ?_
 refine aQ_ ?_
 iterate 4
  refine oC_ fun J hJ=>?_
  simp [go_sem,m34]
  refine hJ _ _ _ ?_
 refine oN_ ?_
 refine aQ_ ?_
 iterate 43
  refine oC_ fun J hJ=>?_
  simp [go_sem,e34,ma34,mb34,aa34,ab34,b34,p34]
  refine hJ _ _ _ ?_
 refine oN_ ?_
 refine aE_ ?_
 refine fQ_ [] ?_
 simp [go_sem,Try.f16]
end Go.Proofs.Ytjoaigccapegpaa.AE
