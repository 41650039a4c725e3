/-
 ref19: what is written. Conditions: none; every contract names its own.
-/
import Derived.Test.YtjoaigccapegpaaGreatOLg4
set_option linter.constructorNameAsVariable false
namespace Go.Proofs.YtjoaigccapegpaaGreat.AE
open Go Go.Proofs Go.RowKit
set_option linter.unusedVariables false
set_option linter.unusedSimpArgs false
set_option maxRecDepth 100000
set_option maxHeartbeats 4000000
structure mayRfX where
 c:Chg
noncomputable def mayRfS:HSpec:=mkH (ι:=mayRfX) (fun ⟨c⟩=>([.agg (cChg c)],[])) fun ⟨c⟩=>⟨.bool (checkB c),[],[]⟩
theorem mayRfS_atG (c:Chg):mayRfS [.agg (cChg c)] []=some (⟨.bool (checkB c),[],[]⟩):=
 mA_ (ι:=mayRfX) (fun i j h=>by obtain ⟨c⟩:=i; obtain ⟨c2⟩:=j; simp [and_assoc,qB_,qI_,qO_,qC_,qE_,qK_,qR_,qV_,qP_,qOc_,rows_iff_Chg,cLg_eq_iff] at h; obtain rfl:=h; rfl) ⟨c⟩
theorem mayRfS_at (c:Chg):mayRfS [.agg (cChg c)] []=some (⟨.bool (checkB c),[],[]⟩):=mayRfS_atG c
theorem mayRf_ok:HSound Tryz.prog 56 mayRfS:=by
 refine sE_ (fn:=Tryz.f56) rfl rfl (by kernel_rfl) fun args bx hr hS=>?_
 obtain ⟨⟨c⟩,rfl,rfl,rfl⟩:=mO_ hS
 clear hS
 refine ⟨_,(eV_ (g:=76) (by kernel_rfl) mayR_ok (eV_ (g:=77) (by kernel_rfl) small_ok (eN_ _))),by simp [Tryz.f56],by simp [go_sem],fun w Mx pin=>?_⟩
 simp only [hB_at,lab_nil,lab_cons,hOf_nil,hOf_cons]
 refine aQ_ ?_
 iterate 2
  refine oC_ fun J hJ=>?_
  simp [go_sem]
  refine hJ _ _ _ ?_
 refine oN_ ?_
 refine aS_ fun K2 hK2=>?_
 rcases (show (mayI c.id=false)\/(mayI c.id=true/\¬ 1<=c.time)\/(mayI c.id=true/\1<=c.time/\¬ c.time<=1073741824)\/(mayI c.id=true/\1<=c.time/\c.time<=1073741824/\smallB c.kind=false)\/(mayI c.id=true/\1<=c.time/\c.time<=1073741824/\smallB c.kind=true/\smallB c.a=false)\/(mayI c.id=true/\1<=c.time/\c.time<=1073741824/\smallB c.kind=true/\smallB c.a=true/\smallB c.b=false)\/(mayI c.id=true/\1<=c.time/\c.time<=1073741824/\smallB c.kind=true/\smallB c.a=true/\smallB c.b=true/\smallB c.ref.rep=false)\/(mayI c.id=true/\1<=c.time/\c.time<=1073741824/\smallB c.kind=true/\smallB c.a=true/\smallB c.b=true/\smallB c.ref.rep=true/\¬ 0<=c.ref.seq)\/(mayI c.id=true/\1<=c.time/\c.time<=1073741824/\smallB c.kind=true/\smallB c.a=true/\smallB c.b=true/\smallB c.ref.rep=true/\0<=c.ref.seq) by cases mayI c.id <;> by_cases h2:1<=c.time <;> by_cases h3:c.time<=1073741824 <;> cases smallB c.kind <;> cases smallB c.a <;> cases smallB c.b <;> cases smallB c.ref.rep <;> by_cases h8:0<=c.ref.seq <;> simp [h2,h3,h8]) with g0 | ⟨g0,g1⟩ | ⟨g0,g1,g2⟩ | ⟨g0,g1,g2,g3⟩ | ⟨g0,g1,g2,g3,g4⟩ | ⟨g0,g1,g2,g3,g4,g5⟩ | ⟨g0,g1,g2,g3,g4,g5,g6⟩ | ⟨g0,g1,g2,g3,g4,g5,g6,g7⟩ | ⟨g0,g1,g2,g3,g4,g5,g6,g7⟩
 ·
  refine aR_ ?_
  iterate 47
   refine oC_ fun J hJ=>?_
   simp [go_sem,mayRS_at c.id,smallS_at,g0]
   refine hJ _ _ _ ?_
  refine oN_ ?_
  refine hK2 _ ?_
  refine aE_ ?_
  refine fQ_ [] ?_
  simp [go_sem,Tryz.f56,checkB,g0]
 ·
  refine aR_ ?_
  iterate 47
   refine oC_ fun J hJ=>?_
   simp [go_sem,mayRS_at c.id,smallS_at,g0,g1]
   refine hJ _ _ _ ?_
  refine oN_ ?_
  refine hK2 _ ?_
  refine aE_ ?_
  refine fQ_ [] ?_
  simp [go_sem,Tryz.f56,checkB,g0,g1]
 ·
  refine aR_ ?_
  iterate 47
   refine oC_ fun J hJ=>?_
   simp [go_sem,mayRS_at c.id,smallS_at,g0,g1,g2]
   refine hJ _ _ _ ?_
  refine oN_ ?_
  refine hK2 _ ?_
  refine aE_ ?_
  refine fQ_ [] ?_
  simp [go_sem,Tryz.f56,checkB,g0,g1,g2]
 ·
  refine aR_ ?_
  iterate 47
   refine oC_ fun J hJ=>?_
   simp [go_sem,mayRS_at c.id,smallS_at,g0,g1,g2,g3]
   refine hJ _ _ _ ?_
  refine oN_ ?_
  refine hK2 _ ?_
  refine aE_ ?_
  refine fQ_ [] ?_
  simp [go_sem,Tryz.f56,checkB,g0,g1,g2,g3]
 ·
  refine aR_ ?_
  iterate 47
   refine oC_ fun J hJ=>?_
   simp [go_sem,mayRS_at c.id,smallS_at,g0,g1,g2,g3,g4]
   refine hJ _ _ _ ?_
  refine oN_ ?_
  refine hK2 _ ?_
  refine aE_ ?_
  refine fQ_ [] ?_
  simp [go_sem,Tryz.f56,checkB,g0,g1,g2,g3,g4]
 ·
  refine aR_ ?_
  iterate 47
   refine oC_ fun J hJ=>?_
   simp [go_sem,mayRS_at c.id,smallS_at,g0,g1,g2,g3,g4,g5]
   refine hJ _ _ _ ?_
  refine oN_ ?_
  refine hK2 _ ?_
  refine aE_ ?_
  refine fQ_ [] ?_
  simp [go_sem,Tryz.f56,checkB,g0,g1,g2,g3,g4,g5]
 ·
  refine aR_ ?_
  iterate 47
   refine oC_ fun J hJ=>?_
   simp [go_sem,mayRS_at c.id,smallS_at,g0,g1,g2,g3,g4,g5,g6]
   refine hJ _ _ _ ?_
  refine oN_ ?_
  refine hK2 _ ?_
  refine aE_ ?_
  refine fQ_ [] ?_
  simp [go_sem,Tryz.f56,checkB,g0,g1,g2,g3,g4,g5,g6]
 ·
  refine aR_ ?_
  iterate 47
   refine oC_ fun J hJ=>?_
   simp [go_sem,mayRS_at c.id,smallS_at,g0,g1,g2,g3,g4,g5,g6,g7]
   refine hJ _ _ _ ?_
  refine oN_ ?_
  refine hK2 _ ?_
  refine aE_ ?_
  refine fQ_ [] ?_
  simp [go_sem,Tryz.f56,checkB,g0,g1,g2,g3,g4,g5,g6,g7]
 ·
  refine aR_ ?_
  iterate 47
   refine oC_ fun J hJ=>?_
   simp [go_sem,mayRS_at c.id,smallS_at,g0,g1,g2,g3,g4,g5,g6,g7]
   refine hJ _ _ _ ?_
  refine oN_ ?_
  refine hK2 _ ?_
  refine aE_ ?_
  refine fQ_ [] ?_
  simp [go_sem,Tryz.f56,checkB,g0,g1,g2,g3,g4,g5,g6,g7]
structure rAddX where
 d:List Chg
 r:List Chg
 c:Chg
 hL:(d.length + r.length<=10000)/\∀ c ∈ d++r,0<=c.id.rep/\c.id.rep < 4
noncomputable def rAddS:HSpec:=mkH (ι:=rAddX) (fun ⟨d,r,c,hL⟩=>([.ref (1,0) 0,.agg (cChg c)],[.obj [.sl 9 (rows cChg (d)),.sl 9 (rows cChg (r))]])) fun ⟨d,r,c,hL⟩=>⟨.int .i64 (rAddC d r c),[.obj [.sl 9 (rows cChg (d)),.sl 9 (rows cChg (rAddR d r c))]],[]⟩
theorem rAddS_atG (d:List Chg) (r:List Chg) (c:Chg) (hL:(d.length + r.length<=10000)/\∀ c ∈ d++r,0<=c.id.rep/\c.id.rep < 4):rAddS [.ref (1,0) 0,.agg (cChg c)] [.obj [.sl 9 (rows cChg (d)),.sl 9 (rows cChg (r))]]=some (⟨.int .i64 (rAddC d r c),[.obj [.sl 9 (rows cChg (d)),.sl 9 (rows cChg (rAddR d r c))]],[]⟩):=
 mA_ (ι:=rAddX) (fun i j h=>by obtain ⟨d,r,c,hL⟩:=i; obtain ⟨d2,r2,c2,hL2⟩:=j; simp [and_assoc,qB_,qI_,qO_,qC_,qE_,qK_,qR_,qV_,qP_,qOc_,rows_iff_Chg,cLg_eq_iff] at h; obtain ⟨rfl,rfl,rfl⟩:=h; rfl) ⟨d,r,c,hL⟩
theorem rAddS_at (d:List Chg) (r:List Chg) (c:Chg) (hL:(d.length + r.length<=10000)/\∀ c ∈ d++r,0<=c.id.rep/\c.id.rep < 4):rAddS [.ref (1,0) 0,.agg (cChg c)] [.obj [.sl 9 (rows cChg (d)),.sl 9 (rows cChg (r))]]=some (⟨.int .i64 (rAddC d r c),[.obj [.sl 9 (rows cChg (d)),.sl 9 (rows cChg (rAddR d r c))]],[]⟩):=rAddS_atG d r c hL
theorem rAdd_ok:HSound Tryz.prog 29 rAddS:=by
 refine sE_ (fn:=Tryz.f29) rfl rfl (by kernel_rfl) fun args bx hr hS=>?_
 obtain ⟨⟨d,r,c,hL⟩,rfl,rfl,rfl⟩:=mO_ hS
 clear hS
 refine ⟨_,(eV_ (g:=41) (by kernel_rfl) rKnown_ok (eV_ (g:=55) (by kernel_rfl) rLast_ok (eV_ (g:=56) (by kernel_rfl) mayRf_ok (eV_ (g:=57) (by kernel_rfl) putCR_ok (eN_ _))))),by simp [Tryz.f29],by simp [go_sem],fun w Mx pin=>?_⟩
 simp only [hB_at,lab_nil,lab_cons,hOf_nil,hOf_cons]
 obtain ⟨hL,hrep⟩:=hL
 have hw:IntKind.i64.wrap ((d.length:Int) + (r.length:Int))=(d.length:Int) + (r.length:Int):=wA_ (by omega)
 refine aQ_ ?_
 iterate 2
  refine oC_ fun J hJ=>?_
  simp [go_sem]
  refine hJ _ _ _ ?_
 refine oN_ ?_
 refine aS_ fun K2 hK2=>?_
 refine aS_ fun K3 hK3=>?_
 by_cases g1:48<=d.length + r.length
 ·
  have hc:rAddC d r c=3:=if_pos g1
  have g2:(48:Int)<=(d.length:Int) + (r.length:Int):=by omega
  refine aD_ ?_
  iterate 12
   refine oC_ fun J hJ=>?_
   simp [go_sem,hw,g2]
   refine hJ _ _ _ ?_
  refine oN_ ?_
  refine ⟨rfl,?_⟩
  refine hK3 _ ?_
  refine aT_ rfl ?_
  refine aQ_ ?_
  iterate 1
   refine oC_ fun J hJ=>?_
   simp [go_sem]
   refine hJ _ _ _ ?_
  refine oN_ ?_
  refine aE_ ?_
  refine fQ_ [((1,0),some (1,0))] ?_
  simp [go_sem,Tryz.f29,hc,rAddR]
 ·
  have g2:¬ (48:Int)<=(d.length:Int) + (r.length:Int):=by omega
  refine aD_ ?_
  iterate 12
   refine oC_ fun J hJ=>?_
   simp [go_sem,hw,g2]
   refine hJ _ _ _ ?_
  refine oN_ ?_
  refine ⟨rfl,?_⟩
  refine hK3 _ ?_
  refine aF_ rfl ?_
  refine aK_ ?_
  refine hK2 _ ?_
  refine aQ_ ?_
  iterate 4
   refine oC_ fun J hJ=>?_
   simp [go_sem]
   refine hJ _ _ _ ?_
  refine oN_ ?_
  refine aS_ fun K7 hK7=>?_
  refine aS_ fun K8 hK8=>?_
  rcases (show c.id.rep < 0\/(¬ c.id.rep < 0/\3 < c.id.rep)\/(¬ c.id.rep < 0/\¬ 3 < c.id.rep) by omega) with g3 | ⟨g3,g5⟩ | ⟨g3,g5⟩
  ·
   have hc:rAddC d r c=9:=by rw [rAddC,if_neg g1,if_pos (.inl g3)]
   refine aR_ ?_
   iterate 6
    refine oC_ fun J hJ=>?_
    simp [go_sem,g3]
    refine hJ _ _ _ ?_
   refine oN_ ?_
   refine hK8 _ ?_
   refine aT_ rfl ?_
   refine aQ_ ?_
   iterate 1
    refine oC_ fun J hJ=>?_
    simp [go_sem]
    refine hJ _ _ _ ?_
   refine oN_ ?_
   refine aE_ ?_
   refine fQ_ [((1,0),some (1,0))] ?_
   simp [go_sem,Tryz.f29,hc,rAddR]
  ·
   have hc:rAddC d r c=9:=by rw [rAddC,if_neg g1,if_pos (.inr g5)]
   refine aR_ ?_
   iterate 6
    refine oC_ fun J hJ=>?_
    simp [go_sem,g3,g5]
    refine hJ _ _ _ ?_
   refine oN_ ?_
   refine hK8 _ ?_
   refine aT_ rfl ?_
   refine aQ_ ?_
   iterate 1
    refine oC_ fun J hJ=>?_
    simp [go_sem]
    refine hJ _ _ _ ?_
   refine oN_ ?_
   refine aE_ ?_
   refine fQ_ [((1,0),some (1,0))] ?_
   simp [go_sem,Tryz.f29,hc,rAddR]
  ·
   have h0:0<=c.id.rep:=by omega
   have h4:c.id.rep < 4:=by omega
   have h5:c.id.rep.toNat < 4:=by omega
   have hk:=rKnownS_at d r ⟨hL,hrep⟩
   have hkn:AE.knownR (d++r) (zV 4)=knR d r:=rfl
   rw [hkn] at hk
   refine aR_ ?_
   iterate 6
    refine oC_ fun J hJ=>?_
    simp [go_sem,g3,g5]
    refine hJ _ _ _ ?_
   refine oN_ ?_
   refine hK8 _ ?_
   refine aF_ rfl ?_
   refine aK_ ?_
   refine hK7 _ ?_
   refine aQ_ ?_
   iterate 4
    refine oC_ fun J hJ=>?_
    simp [go_sem,↓hk]
    refine hJ _ _ _ ?_
   refine oN_ ?_
   refine aS_ fun K12 hK12=>?_
   refine aS_ fun K13 hK13=>?_
   rcases (show ((c.id.seq != IntKind.i64.wrap ((knR d r).at c.id.rep.toNat + 1))=true)\/((c.id.seq != IntKind.i64.wrap ((knR d r).at c.id.rep.toNat + 1))=false/\decide (65535 < c.id.seq)=true)\/((c.id.seq != IntKind.i64.wrap ((knR d r).at c.id.rep.toNat + 1))=false/\decide (65535 < c.id.seq)=false/\decide (c.time < 1)=true)\/((c.id.seq != IntKind.i64.wrap ((knR d r).at c.id.rep.toNat + 1))=false/\decide (65535 < c.id.seq)=false/\decide (c.time < 1)=false/\decide (1073741824 < c.time)=true)\/((c.id.seq != IntKind.i64.wrap ((knR d r).at c.id.rep.toNat + 1))=false/\decide (65535 < c.id.seq)=false/\decide (c.time < 1)=false/\decide (1073741824 < c.time)=false/\decide (c.time<=lastT c.id.rep (d++r) 0)=true)\/((c.id.seq != IntKind.i64.wrap ((knR d r).at c.id.rep.toNat + 1))=false/\decide (65535 < c.id.seq)=false/\decide (c.time < 1)=false/\decide (1073741824 < c.time)=false/\decide (c.time<=lastT c.id.rep (d++r) 0)=false) by cases c.id.seq != IntKind.i64.wrap ((knR d r).at c.id.rep.toNat + 1) <;> cases decide (65535 < c.id.seq) <;> cases decide (c.time < 1) <;> cases decide (1073741824 < c.time) <;> cases decide (c.time<=lastT c.id.rep (d++r) 0) <;> simp) with k0 | ⟨k0,k1⟩ | ⟨k0,k1,k2⟩ | ⟨k0,k1,k2,k3⟩ | ⟨k0,k1,k2,k3,k4⟩ | ⟨k0,k1,k2,k3,k4⟩
   ·
    have ho:rOff d r c=true:=by simp only [rOff,k0]; rfl
    have hc:rAddC d r c=9:=by rw [rAddC,if_neg g1,if_neg (by omega),if_pos ho]
    refine aD_ ?_
    iterate 32
     refine oC_ fun J hJ=>?_
     simp [go_sem,h0,h4,h5,rLastS_at d r c.id.rep hL,k0]
     refine hJ _ _ _ ?_
    refine oN_ ?_
    refine ⟨rfl,?_⟩
    refine hK13 _ ?_
    refine aT_ rfl ?_
    refine aQ_ ?_
    iterate 1
     refine oC_ fun J hJ=>?_
     simp [go_sem]
     refine hJ _ _ _ ?_
    refine oN_ ?_
    refine aE_ ?_
    refine fQ_ [((1,0),some (1,0))] ?_
    simp [go_sem,Tryz.f29,hc,rAddR]
   ·
    have ho:rOff d r c=true:=by simp only [rOff,k0,k1]; rfl
    simp only [decide_eq_false_iff_not,decide_eq_true_eq] at k1
    have hc:rAddC d r c=9:=by rw [rAddC,if_neg g1,if_neg (by omega),if_pos ho]
    refine aD_ ?_
    iterate 32
     refine oC_ fun J hJ=>?_
     simp [go_sem,h0,h4,h5,rLastS_at d r c.id.rep hL,k0,k1]
     refine hJ _ _ _ ?_
    refine oN_ ?_
    refine ⟨rfl,?_⟩
    refine hK13 _ ?_
    refine aT_ rfl ?_
    refine aQ_ ?_
    iterate 1
     refine oC_ fun J hJ=>?_
     simp [go_sem]
     refine hJ _ _ _ ?_
    refine oN_ ?_
    refine aE_ ?_
    refine fQ_ [((1,0),some (1,0))] ?_
    simp [go_sem,Tryz.f29,hc,rAddR]
   ·
    have ho:rOff d r c=true:=by simp only [rOff,k0,k1,k2]; rfl
    simp only [decide_eq_false_iff_not,decide_eq_true_eq] at k1
    simp only [decide_eq_false_iff_not,decide_eq_true_eq] at k2
    have hc:rAddC d r c=9:=by rw [rAddC,if_neg g1,if_neg (by omega),if_pos ho]
    refine aD_ ?_
    iterate 32
     refine oC_ fun J hJ=>?_
     simp [go_sem,h0,h4,h5,rLastS_at d r c.id.rep hL,k0,k1,k2]
     refine hJ _ _ _ ?_
    refine oN_ ?_
    refine ⟨rfl,?_⟩
    refine hK13 _ ?_
    refine aT_ rfl ?_
    refine aQ_ ?_
    iterate 1
     refine oC_ fun J hJ=>?_
     simp [go_sem]
     refine hJ _ _ _ ?_
    refine oN_ ?_
    refine aE_ ?_
    refine fQ_ [((1,0),some (1,0))] ?_
    simp [go_sem,Tryz.f29,hc,rAddR]
   ·
    have ho:rOff d r c=true:=by simp only [rOff,k0,k1,k2,k3]; rfl
    simp only [decide_eq_false_iff_not,decide_eq_true_eq] at k1
    simp only [decide_eq_false_iff_not,decide_eq_true_eq] at k2
    simp only [decide_eq_false_iff_not,decide_eq_true_eq] at k3
    have hc:rAddC d r c=9:=by rw [rAddC,if_neg g1,if_neg (by omega),if_pos ho]
    refine aD_ ?_
    iterate 32
     refine oC_ fun J hJ=>?_
     simp [go_sem,h0,h4,h5,rLastS_at d r c.id.rep hL,k0,k1,k2,k3]
     refine hJ _ _ _ ?_
    refine oN_ ?_
    refine ⟨rfl,?_⟩
    refine hK13 _ ?_
    refine aT_ rfl ?_
    refine aQ_ ?_
    iterate 1
     refine oC_ fun J hJ=>?_
     simp [go_sem]
     refine hJ _ _ _ ?_
    refine oN_ ?_
    refine aE_ ?_
    refine fQ_ [((1,0),some (1,0))] ?_
    simp [go_sem,Tryz.f29,hc,rAddR]
   ·
    have ho:rOff d r c=true:=by simp only [rOff,k0,k1,k2,k3,k4]; rfl
    simp only [decide_eq_false_iff_not,decide_eq_true_eq] at k1
    simp only [decide_eq_false_iff_not,decide_eq_true_eq] at k2
    simp only [decide_eq_false_iff_not,decide_eq_true_eq] at k3
    simp only [decide_eq_false_iff_not,decide_eq_true_eq] at k4
    have hc:rAddC d r c=9:=by rw [rAddC,if_neg g1,if_neg (by omega),if_pos ho]
    refine aD_ ?_
    iterate 32
     refine oC_ fun J hJ=>?_
     simp [go_sem,h0,h4,h5,rLastS_at d r c.id.rep hL,k0,k1,k2,k3,k4]
     refine hJ _ _ _ ?_
    refine oN_ ?_
    refine ⟨rfl,?_⟩
    refine hK13 _ ?_
    refine aT_ rfl ?_
    refine aQ_ ?_
    iterate 1
     refine oC_ fun J hJ=>?_
     simp [go_sem]
     refine hJ _ _ _ ?_
    refine oN_ ?_
    refine aE_ ?_
    refine fQ_ [((1,0),some (1,0))] ?_
    simp [go_sem,Tryz.f29,hc,rAddR]
   ·
    have ho:rOff d r c=false:=by simp only [rOff,k0,k1,k2,k3,k4]; rfl
    simp only [decide_eq_false_iff_not,decide_eq_true_eq] at k1
    simp only [decide_eq_false_iff_not,decide_eq_true_eq] at k2
    simp only [decide_eq_false_iff_not,decide_eq_true_eq] at k3
    simp only [decide_eq_false_iff_not,decide_eq_true_eq] at k4
    refine aD_ ?_
    iterate 32
     refine oC_ fun J hJ=>?_
     simp [go_sem,h0,h4,h5,rLastS_at d r c.id.rep hL,k0,k1,k2,k3,k4]
     refine hJ _ _ _ ?_
    refine oN_ ?_
    refine ⟨rfl,?_⟩
    refine hK13 _ ?_
    refine aF_ rfl ?_
    refine aK_ ?_
    refine hK12 _ ?_
    refine aS_ fun K16 hK16=>?_
    refine aS_ fun K17 hK17=>?_
    cases g4:checkB c
    ·
     have hc:rAddC d r c=4:=by rw [rAddC,if_neg g1,if_neg (by omega),if_neg (by simp [ho]),if_pos g4]
     refine aR_ ?_
     iterate 3
      refine oC_ fun J hJ=>?_
      simp [go_sem,mayRfS_at c,g4]
      refine hJ _ _ _ ?_
     refine oN_ ?_
     refine hK17 _ ?_
     refine aT_ rfl ?_
     refine aQ_ ?_
     iterate 1
      refine oC_ fun J hJ=>?_
      simp [go_sem]
      refine hJ _ _ _ ?_
     refine oN_ ?_
     refine aE_ ?_
     refine fQ_ [((1,0),some (1,0))] ?_
     simp [go_sem,Tryz.f29,hc,rAddR]
    ·
     have hc:rAddC d r c=0:=by rw [rAddC,if_neg g1,if_neg (by omega),if_neg (by simp [ho]),if_neg (by simp [g4])]
     refine aR_ ?_
     iterate 3
      refine oC_ fun J hJ=>?_
      simp [go_sem,mayRfS_at c,g4]
      refine hJ _ _ _ ?_
     refine oN_ ?_
     refine hK17 _ ?_
     refine aF_ rfl ?_
     refine aK_ ?_
     refine hK16 _ ?_
     refine aU_ ?_
     iterate 10
      refine oC_ fun J hJ=>?_
      simp [go_sem,putCRS_at r c (by omega)]
      refine hJ _ _ _ ?_
     refine oN_ ?_
     refine ⟨rfl,?_⟩
     refine aQ_ ?_
     iterate 1
      refine oC_ fun J hJ=>?_
      simp [go_sem]
      refine hJ _ _ _ ?_
     refine oN_ ?_
     refine aE_ ?_
     refine fQ_ [((1,0),some (1,0))] ?_
     simp [go_sem,Tryz.f29,hc,rAddR]
def rComI (d r:List Chg) (a:Id) (k:Nat) (pre _post:List Chg):St:=⟨ofL [(0,.ref (1,0) 0),(3,.ref (0,48) 0),(5,.int .i64 k),(6,.int .i64 pre.length)],hOf [((1,0),.obj [.sl 9 (rows cChg (d)),.sl 9 (rows cChg (r))]),((0,48),.obj (cId a))]⟩
structure rComX where
 d:List Chg
 r:List Chg
 a:Id
 hL:d.length + r.length<=10000
noncomputable def rComS:HSpec:=mkH (ι:=rComX) (fun ⟨d,r,a,hL⟩=>([.ref (1,0) 0,.agg (cId a)],[.obj [.sl 9 (rows cChg (d)),.sl 9 (rows cChg (r))]])) fun ⟨d,r,a,hL⟩=>⟨.int .i64 (comC r a),[.obj [.sl 9 (rows cChg (comD d r a)),.sl 9 (rows cChg (takeL r a))]],[]⟩
theorem rComS_atG (d:List Chg) (r:List Chg) (a:Id) (hL:d.length + r.length<=10000):rComS [.ref (1,0) 0,.agg (cId a)] [.obj [.sl 9 (rows cChg (d)),.sl 9 (rows cChg (r))]]=some (⟨.int .i64 (comC r a),[.obj [.sl 9 (rows cChg (comD d r a)),.sl 9 (rows cChg (takeL r a))]],[]⟩):=
 mA_ (ι:=rComX) (fun i j h=>by obtain ⟨d,r,a,hL⟩:=i; obtain ⟨d2,r2,a2,hL2⟩:=j; simp [and_assoc,qB_,qI_,qO_,qC_,qE_,qK_,qR_,qV_,qP_,qOc_,rows_iff_Chg,cLg_eq_iff] at h; obtain ⟨rfl,rfl,rfl⟩:=h; rfl) ⟨d,r,a,hL⟩
theorem rComS_at (d:List Chg) (r:List Chg) (a:Id) (hL:d.length + r.length<=10000):rComS [.ref (1,0) 0,.agg (cId a)] [.obj [.sl 9 (rows cChg (d)),.sl 9 (rows cChg (r))]]=some (⟨.int .i64 (comC r a),[.obj [.sl 9 (rows cChg (comD d r a)),.sl 9 (rows cChg (takeL r a))]],[]⟩):=rComS_atG d r a hL
theorem rCom_ok:HSound Tryz.prog 30 rComS:=by
 refine sE_ (fn:=Tryz.f30) rfl rfl (by kernel_rfl) fun args bx hr hS=>?_
 obtain ⟨⟨d,r,a,hL⟩,rfl,rfl,rfl⟩:=mO_ hS
 clear hS
 refine ⟨_,(eV_ (g:=58) (by kernel_rfl) findCR_ok (eV_ (g:=59) (by kernel_rfl) withCR_ok (eN_ _))),by simp [Tryz.f30],by simp [go_sem],fun w Mx pin=>?_⟩
 simp only [hB_at,lab_nil,lab_cons,hOf_nil,hOf_cons]
 have m1:d.length * 72<=140737488355328:=by omega
 have m2:d.length<=maxLen:=by simp only [maxLen]; omega
 have m3:(d.length + 1) * 72<=140737488355328:=by omega
 have m4:d.length + 1<=maxLen:=by simp only [maxLen]; omega
 have e6:r.length<=100000:=by omega
 refine aQ_ ?_
 iterate 2
  refine oC_ fun J hJ=>?_
  simp [go_sem]
  refine hJ _ _ _ ?_
 refine oN_ ?_
 refine aS_ fun K2 hK2=>?_
 by_cases g1:placeC r a < 0
 ·
  have hc:comC r a=14:=if_pos g1
  have hf:freeC r a=false:=by unfold freeC; simp; omega
  have hd:comD d r a=d:=if_neg (by simp [hf])
  have ht:takeL r a=r:=if_neg (by simp [hf])
  refine aD_ ?_
  iterate 7
   refine oC_ fun J hJ=>?_
   simp [go_sem,findCRS_at r a (by omega),g1]
   refine hJ _ _ _ ?_
  refine oN_ ?_
  refine ⟨rfl,?_⟩
  refine hK2 _ ?_
  refine aS_ fun K3 hK3=>?_
  refine aQ_ ?_
  iterate 2
   refine oC_ fun J hJ=>?_
   simp [go_sem,g1]
   refine hJ _ _ _ ?_
  refine oN_ ?_
  refine aT_ rfl ?_
  refine aQ_ ?_
  iterate 1
   refine oC_ fun J hJ=>?_
   simp [go_sem]
   refine hJ _ _ _ ?_
  refine oN_ ?_
  refine aE_ ?_
  refine fQ_ [((1,0),some (1,0))] ?_
  simp [go_sem,Tryz.f30,hc,hd,ht]
 ·
  obtain hn | ⟨k,y,hk,hpk,hy,hid⟩:=placeC_at r a
  · omega
  have h0:¬ (k:Int) < 0:=by omega
  refine aD_ ?_
  iterate 7
   refine oC_ fun J hJ=>?_
   simp [go_sem,findCRS_at r a (by omega),hpk]
   refine hJ _ _ _ ?_
  refine oN_ ?_
  refine ⟨rfl,?_⟩
  refine hK2 _ ?_
  refine aS_ fun K3 hK3=>?_
  refine aQ_ ?_
  iterate 2
   refine oC_ fun J hJ=>?_
   simp [go_sem,h0]
   refine hJ _ _ _ ?_
  refine oN_ ?_
  refine aF_ rfl ?_
  refine aK_ ?_
  refine hK3 _ ?_
  refine aS_ fun K7 hK7=>?_
  refine aQ_ ?_
  iterate 1
   refine oC_ fun J hJ=>?_
   simp [go_sem]
   refine hJ _ _ _ ?_
  refine oN_ ?_
  refine aB_ ?_
  refine aL_ (ι:={ q:List Chg × List Chg // q.1++q.2=r/\q.1.any (aheadC a)=false }) (fun q=>rComI d r a k q.1.1 q.1.2) (fun q=>q.1.2.length) ⟨([],r),rfl,rfl⟩ ?_ ?_
  · refine wO_ [((1,0),some (1,0)),((0,48),some (0,48))] (by simp [go_sem]) ?_ ?_ <;> simp [go_sem]
  intro ⟨⟨pre,post⟩,hl,hgo⟩
  simp only at hl hgo
  have hpl:=lS_ hl e6
  simp only [rComI]
  refine aS_ fun K9 hK9=>?_
  refine aQ_ ?_
  iterate 7
   refine oC_ fun J hJ=>?_
   simp [go_sem]
   refine hJ _ _ _ ?_
  refine oN_ ?_
  refine aC_ (t:=_) rfl (fun c11=>?_) (fun c11=>?_)
  ·
   simp [go_sem] at c11
   obtain ⟨x,post,rfl,hx⟩:=mL_ hl c11
   refine aK_ ?_
   refine hK9 _ ?_
   refine aS_ fun K12 hK12=>?_
   refine aB_ ?_
   refine aS_ fun K13 hK13=>?_
   cases g0:(x.id.rep == a.rep)
   ·
    have hah:aheadC a x=false:=by simp at g0; simp [aheadC,g0]
    refine aD_ ?_
    iterate 26
     refine oC_ fun J hJ=>?_
     simp [go_sem,hx,g0]
     refine hJ _ _ _ ?_
    refine oN_ ?_
    refine ⟨rfl,?_⟩
    refine hK13 _ ?_
    refine aF_ rfl ?_
    refine aK_ ?_
    refine hK12 _ ?_
    refine aR_ ?_
    iterate 3
     refine oC_ fun J hJ=>?_
     simp [go_sem]
     refine hJ _ _ _ ?_
    refine oN_ ?_
    refine ⟨⟨(pre++[x],post),by simp [<-hl],by simp [List.any_append,hgo,hah]⟩,?_,by simp⟩
    refine wO_ [((1,0),some (1,0)),((0,48),some (0,48))] (by simp [go_sem]) ?_ ?_ <;> simp [go_sem,wN_ hpl]
   ·
    refine aD_ ?_
    iterate 26
     refine oC_ fun J hJ=>?_
     simp [go_sem,hx,g0]
     refine hJ _ _ _ ?_
    refine oN_ ?_
    refine ⟨rfl,?_⟩
    refine hK13 _ ?_
    refine aC_ (t:=_) rfl (fun c14=>?_) (fun c14=>?_)
    ·
     simp [go_sem] at c14
     have hah:aheadC a x=true:=by simp at g0; simp [aheadC,g0,c14]
     have hany:r.any (aheadC a)=true:=List.any_eq_true.2 ⟨x,List.mem_of_getElem? hx,hah⟩
     have hf:freeC r a=false:=by simp [freeC,hany]
     have hc:comC r a=9:=by rw [comC,if_neg g1,if_pos hf]
     have hd:comD d r a=d:=if_neg (by simp [hf])
     have ht:takeL r a=r:=if_neg (by simp [hf])
     refine aQ_ ?_
     iterate 1
      refine oC_ fun J hJ=>?_
      simp [go_sem]
      refine hJ _ _ _ ?_
     refine oN_ ?_
     refine aE_ ?_
     refine fQ_ [((1,0),some (1,0))] ?_
     simp [go_sem,Tryz.f30,hc,hd,ht]
    ·
     simp [go_sem] at c14
     have hah:aheadC a x=false:=by simp at g0; simp [aheadC,g0,c14]
     refine aK_ ?_
     refine hK12 _ ?_
     refine aR_ ?_
     iterate 3
      refine oC_ fun J hJ=>?_
      simp [go_sem]
      refine hJ _ _ _ ?_
     refine oN_ ?_
     refine ⟨⟨(pre++[x],post),by simp [<-hl],by simp [List.any_append,hgo,hah]⟩,?_,by simp⟩
     refine wO_ [((1,0),some (1,0)),((0,48),some (0,48))] (by simp [go_sem]) ?_ ?_ <;> simp [go_sem,wN_ hpl]
  ·
   simp [go_sem] at c11
   obtain ⟨rfl,rfl⟩:=mN_ hl c11
   have hf:freeC r a=true:=by simp [freeC,hpk,hgo]
   have hc:comC r a=0:=by rw [comC,if_neg g1,if_neg (by simp [hf])]
   have h1:takeC r a=y:=by simp [takeC,hf,hpk,hy]
   have hd:comD d r a=d++[y]:=by rw [comD,if_pos hf,h1]
   have htk:List.take (d.length + 1) (d++[y])=d++[y]:=List.take_of_length_le (by simp)
   have ht:takeL r a=withoutL r (k:Int):=by rw [takeL,if_pos hf,hpk]
   refine aX_ ?_
   simp only [go_sem]
   refine hK7 _ ?_
   refine aQ_ ?_
   iterate 1
    refine oC_ fun J hJ=>?_
    simp [go_sem]
    refine hJ _ _ _ ?_
   refine oN_ ?_
   refine aQ_ ?_
   iterate 7
    refine oC_ fun J hJ=>?_
    simp [go_sem,m1,m2]
    refine hJ _ _ _ ?_
   refine oN_ ?_
   refine aQ_ ?_
   iterate 11
    refine oC_ fun J hJ=>?_
    simp [go_sem,m3,m4,hk,↓hy,hy]
    refine hJ _ _ _ ?_
   refine oN_ ?_
   refine aQ_ ?_
   iterate 5
    refine oC_ fun J hJ=>?_
    simp [go_sem]
    refine hJ _ _ _ ?_
   refine oN_ ?_
   refine aQ_ ?_
   iterate 10
    refine oC_ fun J hJ=>?_
    simp [go_sem,withCRS_at r (k:Int) (by omega)]
    refine hJ _ _ _ ?_
   refine oN_ ?_
   refine aQ_ ?_
   iterate 1
    refine oC_ fun J hJ=>?_
    simp [go_sem]
    refine hJ _ _ _ ?_
   refine oN_ ?_
   refine aE_ ?_
   refine fQ_ [((1,0),some (1,0))] ?_
   simp [go_sem,Tryz.f30,hc,hd,ht,htk]
theorem zOc_cells:cOc zOc=[.int .i64 0,.sl 5 []]:=rfl
structure rOutX where
 d:List Chg
 r:List Chg
 a:Id
 hL:d.length + r.length<=10000
noncomputable def rOutS:HSpec:=mkH (ι:=rOutX) (fun ⟨d,r,a,hL⟩=>([.ref (1,0) 0,.agg (cId a)],[.obj [.sl 9 (rows cChg (d)),.sl 9 (rows cChg (r))]])) fun ⟨d,r,a,hL⟩=>⟨.tup [.agg (cOc (outG d r a)),.bool (goodG d r a),.bool (wasG d r a)],[.obj [.sl 9 (rows cChg (d)),.sl 9 (rows cChg (r))]],[]⟩
theorem rOutS_atG (d:List Chg) (r:List Chg) (a:Id) (hL:d.length + r.length<=10000):rOutS [.ref (1,0) 0,.agg (cId a)] [.obj [.sl 9 (rows cChg (d)),.sl 9 (rows cChg (r))]]=some (⟨.tup [.agg (cOc (outG d r a)),.bool (goodG d r a),.bool (wasG d r a)],[.obj [.sl 9 (rows cChg (d)),.sl 9 (rows cChg (r))]],[]⟩):=
 mA_ (ι:=rOutX) (fun i j h=>by obtain ⟨d,r,a,hL⟩:=i; obtain ⟨d2,r2,a2,hL2⟩:=j; simp [and_assoc,qB_,qI_,qO_,qC_,qE_,qK_,qR_,qV_,qP_,qOc_,rows_iff_Chg,cLg_eq_iff] at h; obtain ⟨rfl,rfl,rfl⟩:=h; rfl) ⟨d,r,a,hL⟩
theorem rOutS_at (d:List Chg) (r:List Chg) (a:Id) (hL:d.length + r.length<=10000):rOutS [.ref (1,0) 0,.agg (cId a)] [.obj [.sl 9 (rows cChg (d)),.sl 9 (rows cChg (r))]]=some (⟨.tup [.agg (cOc (outG d r a)),.bool (goodG d r a),.bool (wasG d r a)],[.obj [.sl 9 (rows cChg (d)),.sl 9 (rows cChg (r))]],[]⟩):=rOutS_atG d r a hL
theorem rOut_ok:HSound Tryz.prog 31 rOutS:=by
 refine sE_ (fn:=Tryz.f31) rfl rfl (by kernel_rfl) fun args bx hr hS=>?_
 obtain ⟨⟨d,r,a,hL⟩,rfl,rfl,rfl⟩:=mO_ hS
 clear hS
 refine ⟨_,(eV_ (g:=43) (by kernel_rfl) rAll_ok (eV_ (g:=58) (by kernel_rfl) findCR_ok (eV_ (g:=11) (by kernel_rfl) runR_ok (eN_ _)))),by simp [Tryz.f31],by simp [go_sem],fun w Mx pin=>?_⟩
 simp only [hB_at,lab_nil,lab_cons,hOf_nil,hOf_cons]
 obtain ⟨L,hLd⟩:∃ L,L=d++r:=⟨_,rfl⟩
 have hll:L.length=d.length + r.length:=by rw [hLd]; simp
 have htk:List.take (d.length + r.length) L=L:=by rw [<-hll]; exact List.take_length
 have hol:=oD_len L
 refine aQ_ ?_
 iterate 4
  refine oC_ fun J hJ=>?_
  simp [go_sem]
  refine hJ _ _ _ ?_
 refine oN_ ?_
 refine aQ_ ?_
 iterate 3
  refine oC_ fun J hJ=>?_
  simp [go_sem,rAllS_at d r hL,<-hLd]
  refine hJ _ _ _ ?_
 refine oN_ ?_
 refine aS_ fun K3 hK3=>?_
 by_cases g1:placeC L a < 0
 ·
  have q1:outG d r a=zOc:=by rw [outG,<-hLd]; exact if_pos g1
  have q2:goodG d r a=false:=by rw [goodG,<-hLd]; simp; omega
  have q3:wasG d r a=false:=by rw [wasG,<-hLd]; simp; omega
  refine aR_ ?_
  iterate 4
   refine oC_ fun J hJ=>?_
   simp [go_sem,htk,findCRS_at L a (by omega)]
   refine hJ _ _ _ ?_
  refine oN_ ?_
  refine hK3 _ ?_
  refine aS_ fun K4 hK4=>?_
  refine aQ_ ?_
  iterate 2
   refine oC_ fun J hJ=>?_
   simp [go_sem,g1]
   refine hJ _ _ _ ?_
  refine oN_ ?_
  refine aT_ rfl ?_
  refine aQ_ ?_
  iterate 4
   refine oC_ fun J hJ=>?_
   simp [go_sem]
   refine hJ _ _ _ ?_
  refine oN_ ?_
  refine aE_ ?_
  refine fQ_ [((1,0),some (1,0))] ?_
  simp [go_sem,Tryz.f31,q1,q2,q3,zOc_cells]
 ·
  obtain hn | ⟨k,y,hk,hpk,hy,hid⟩:=placeC_at L a
  · omega
  have h0:¬ (k:Int) < 0:=by omega
  have hk2:k < (oD L).length:=by omega
  obtain ⟨oc,hoc⟩:∃ oc,(oD L)[k]?=some oc:=⟨_,List.getElem?_eq_getElem hk2⟩
  have q1:outG d r a=oc:=by rw [outG,<-hLd,if_neg g1,hpk]; simp [hoc]
  have q2:goodG d r a=decide (k < d.length):=by rw [goodG,<-hLd,hpk]; simp
  have q3:wasG d r a=true:=by rw [wasG,<-hLd,hpk]; simp
  have hk3:k < d.length + r.length:=by omega
  have hk4:(k:Int) < (d.length:Int) + (r.length:Int):=by omega
  refine aR_ ?_
  iterate 4
   refine oC_ fun J hJ=>?_
   simp [go_sem,htk,findCRS_at L a (by omega),hpk]
   refine hJ _ _ _ ?_
  refine oN_ ?_
  refine hK3 _ ?_
  refine aS_ fun K4 hK4=>?_
  refine aQ_ ?_
  iterate 2
   refine oC_ fun J hJ=>?_
   simp [go_sem,h0]
   refine hJ _ _ _ ?_
  refine oN_ ?_
  refine aF_ rfl ?_
  refine aK_ ?_
  refine hK4 _ ?_
  refine aS_ fun K8 hK8=>?_
  refine awp_regionW ?_
  refine opsW_cons fun J hJ=>?_
  simp [go_sem,htk,↓runRZ_bD L (by omega)]
  refine hJ _ _ _ ?_
  refine opsW_cons fun J hJ=>?_
  simp [go_sem,htk,↓runRZ_bD L (by omega)]
  refine hJ _ _ _ ?_
  refine opsW_frz (e:=35) (sz:=9) (L:=rows cChg L) (z:=false) (0,192) (by simp [go_sem]) ?_
  refine opsW_cons fun J hJ=>?_
  simp [go_sem,htk,↓runRZ_bD L (by omega)]
  refine hJ _ _ _ ?_
  refine opsW_cons fun J hJ=>?_
  simp [go_sem,htk,↓runRZ_bD L (by omega)]
  refine hJ _ _ _ ?_
  refine opsW_cons fun J hJ=>?_
  simp [go_sem,htk,↓runRZ_bD L (by omega)]
  refine hJ _ _ _ ?_
  refine opsW_cons fun J hJ=>?_
  simp [go_sem,htk,↓runRZ_bD L (by omega)]
  refine hJ _ _ _ ?_
  refine opsW_cons fun J hJ=>?_
  simp [go_sem,htk,↓runRZ_bD L (by omega)]
  refine hJ _ _ _ ?_
  refine opsW_cons fun J hJ=>?_
  simp [go_sem,htk,↓runRZ_bD L (by omega)]
  refine hJ _ _ _ ?_
  refine opsW_cons fun J hJ=>?_
  simp [go_sem,htk,↓runRZ_bD L (by omega)]
  refine hJ _ _ _ ?_
  refine opsW_nil ?_
  refine hK8 _ ?_
  refine aU_ ?_
  iterate 14
   refine oC_ fun J hJ=>?_
   simp [go_sem,hk2,hk3,hk4,↓hoc,hoc,hol,hll]
   refine hJ _ _ _ ?_
  refine oN_ ?_
  refine ⟨rfl,?_⟩
  refine aE_ ?_
  refine fQ_ [((1,0),some (1,0))] ?_
  simp [go_sem,Tryz.f31,q1,q2,q3]
structure rCloneX where
 d:List Chg
 r:List Chg
 hL:d.length + r.length<=10000
noncomputable def rCloneS:HSpec:=mkH (ι:=rCloneX) (fun ⟨d,r,hL⟩=>([.ref (1,0) 0],[.obj [.sl 9 (rows cChg (d)),.sl 9 (rows cChg (r))]])) fun ⟨d,r,hL⟩=>⟨.ref (2,0) 0,[.obj [.sl 9 (rows cChg (d)),.sl 9 (rows cChg (r))]],[.obj [.sl 9 (rows cChg (d)),.sl 9 (rows cChg (r))]]⟩
theorem rCloneS_atG (d:List Chg) (r:List Chg) (hL:d.length + r.length<=10000):rCloneS [.ref (1,0) 0] [.obj [.sl 9 (rows cChg (d)),.sl 9 (rows cChg (r))]]=some (⟨.ref (2,0) 0,[.obj [.sl 9 (rows cChg (d)),.sl 9 (rows cChg (r))]],[.obj [.sl 9 (rows cChg (d)),.sl 9 (rows cChg (r))]]⟩):=
 mA_ (ι:=rCloneX) (fun i j h=>by obtain ⟨d,r,hL⟩:=i; obtain ⟨d2,r2,hL2⟩:=j; simp [and_assoc,qB_,qI_,qO_,qC_,qE_,qK_,qR_,qV_,qP_,qOc_,rows_iff_Chg,cLg_eq_iff] at h; obtain ⟨rfl,rfl⟩:=h; rfl) ⟨d,r,hL⟩
theorem rCloneS_at (d:List Chg) (r:List Chg) (hL:d.length + r.length<=10000):rCloneS [.ref (1,0) 0] [.obj [.sl 9 (rows cChg (d)),.sl 9 (rows cChg (r))]]=some (⟨.ref (2,0) 0,[.obj [.sl 9 (rows cChg (d)),.sl 9 (rows cChg (r))]],[.obj [.sl 9 (rows cChg (d)),.sl 9 (rows cChg (r))]]⟩):=rCloneS_atG d r hL
theorem rClone_ok:HSound Tryz.prog 22 rCloneS:=by
 refine sE_ (fn:=Tryz.f22) rfl rfl (by kernel_rfl) fun args bx hr hS=>?_
 obtain ⟨⟨d,r,hL⟩,rfl,rfl,rfl⟩:=mO_ hS
 clear hS
 refine ⟨_,(eN_ _),by simp [Tryz.f22],by simp [go_sem],fun w Mx pin=>?_⟩
 simp only [hB_at,lab_nil,lab_cons,hOf_nil,hOf_cons]
 have m1:d.length * 72<=140737488355328:=by omega
 have m2:d.length<=maxLen:=by simp only [maxLen]; omega
 have m3:(d.length + 1) * 72<=140737488355328:=by omega
 have m4:d.length + 1<=maxLen:=by simp only [maxLen]; omega
 have m5:r.length * 72<=140737488355328:=by omega
 have m6:r.length<=maxLen:=by simp only [maxLen]; omega
 refine aQ_ ?_
 iterate 1
  refine oC_ fun J hJ=>?_
  simp [go_sem]
  refine hJ _ _ _ ?_
 refine oN_ ?_
 refine aQ_ ?_
 iterate 3
  refine oC_ fun J hJ=>?_
  simp [go_sem]
  refine hJ _ _ _ ?_
 refine oN_ ?_
 refine aU_ ?_
 iterate 13
  refine oC_ fun J hJ=>?_
  simp [go_sem,m1,m2]
  refine hJ _ _ _ ?_
 refine oN_ ?_
 refine ⟨rfl,?_⟩
 refine aU_ ?_
 iterate 13
  refine oC_ fun J hJ=>?_
  simp [go_sem,m5,m6]
  refine hJ _ _ _ ?_
 refine oN_ ?_
 refine ⟨rfl,?_⟩
 refine aQ_ ?_
 iterate 2
  refine oC_ fun J hJ=>?_
  simp [go_sem]
  refine hJ _ _ _ ?_
 refine oN_ ?_
 refine aE_ ?_
 refine fQ_ [((1,0),some (1,0)),((2,0),some (0,80))] ?_
 simp [go_sem,Tryz.f22]
end Go.Proofs.YtjoaigccapegpaaGreat.AE
