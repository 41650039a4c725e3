/-
 Law 19: what is told. Conditions: none; every contract names its own.
-/
import Derived.Test.YtjoaigccapegpaaGreatOLg6
set_option linter.constructorNameAsVariable false
namespace Go.Proofs.YtjoaigccapegpaaGreat.AE
open Go Go.Proofs Go.RowKit
set_option linter.unusedVariables false
set_option linter.unusedSimpArgs false
set_option maxRecDepth 100000
set_option maxHeartbeats 4000000
theorem clk_eq {d r:List Chg} {v u:Vn 4} (h:LgI d r v u):clkN (d++r) 4=mx (mx (mx (u.at 0) (u.at 1)) (u.at 2)) (u.at 3):=by
 have h0:=h.last (i:=0) (by omega)
 have h1:=h.last (i:=1) (by omega)
 have h2:=h.last (i:=2) (by omega)
 have h3:=h.last (i:=3) (by omega)
 have hz:=(h.tz 0 (by omega)).1
 simp only [clkN]
 rw [h0,h1,h2,h3,show mx 0 (u.at 0)=u.at 0 by simp only [mx]; split <;> omega]
theorem lgI_small {d r:List Chg} {v u:Vn 4} (h:LgI d r v u):d.length + r.length<=48:=by
 have:=h.len
 simpa using this
structure toldX where
 d:List Chg
 r:List Chg
 v:Vn 4
 u:Vn 4
 hL:LgI d r v u
noncomputable def toldS:HSpec:=mkH (ι:=toldX) (fun ⟨d,r,v,u,hL⟩=>([.iref (cLg (.sl 9 (rows cChg d)) (.sl 2 (rows cOc (oD d))) (bD d).1 (.sl 7 (rows cOrd (bD d).2)) (.bool true) (.iref [.sl 9 (rows cChg r)] 0) v u) 0,.iref [.sl 9 (rows cChg d),.sl 9 (rows cChg r)] 0],[])) fun ⟨d,r,v,u,hL⟩=>⟨.bool true,[],[]⟩
theorem toldS_atG (d:List Chg) (r:List Chg) (v:Vn 4) (u:Vn 4) (hL:LgI d r v u):toldS [.iref (cLg (.sl 9 (rows cChg d)) (.sl 2 (rows cOc (oD d))) (bD d).1 (.sl 7 (rows cOrd (bD d).2)) (.bool true) (.iref [.sl 9 (rows cChg r)] 0) v u) 0,.iref [.sl 9 (rows cChg d),.sl 9 (rows cChg r)] 0] []=some (⟨.bool true,[],[]⟩):=
 mA_ (ι:=toldX) (fun i j h=>by obtain ⟨d,r,v,u,hL⟩:=i; obtain ⟨d2,r2,v2,u2,hL2⟩:=j; simp [and_assoc,qB_,qI_,qO_,qC_,qE_,qK_,qR_,qV_,qP_,qOc_,rows_iff_Chg,cLg_eq_iff] at h; obtain ⟨⟨rfl,_,_,_,rfl,rfl,rfl⟩,_,_⟩:=h; rfl) ⟨d,r,v,u,hL⟩
theorem toldS_at (d:List Chg) (r:List Chg) (v:Vn 4) (u:Vn 4) (hL:LgI d r v u):toldS [.iref (cLg (.sl 9 (rows cChg d)) (.sl 2 (rows cOc (oD d))) (bD d).1 (.sl 7 (rows cOrd (bD d).2)) (.bool true) (.iref [.sl 9 (rows cChg r)] 0) v u) 0,.iref [.sl 9 (rows cChg d),.sl 9 (rows cChg r)] 0] []=some (⟨.bool true,[],[]⟩):=toldS_atG d r v u hL
theorem told_ok:HSound Tryz.prog 17 toldS:=by
 refine sE_ (fn:=Tryz.f17) rfl rfl (by kernel_rfl) fun args bx hr hS=>?_
 obtain ⟨⟨d,r,v,u,hL⟩,rfl,rfl,rfl⟩:=mO_ hS
 clear hS
 refine ⟨_,(eV_ (g:=10) (by kernel_rfl) lComm_ok (eV_ (g:=27) (by kernel_rfl) lTent_ok (eV_ (g:=28) (by kernel_rfl) lKnown_ok (eV_ (g:=26) (by kernel_rfl) lClock_ok (eV_ (g:=41) (by kernel_rfl) rKnown_ok (eV_ (g:=42) (by kernel_rfl) rClock_ok (eV_ (g:=12) (by kernel_rfl) plChg_ok (eN_ _)))))))),by simp [Tryz.f17],by simp [go_sem],fun w Mx pin=>?_⟩
 simp only [hB_at,lab_nil,lab_cons,hOf_nil,hOf_cons]
 have hs:=lgI_small hL
 have q1:=lKnownS_at d r v u (by omega)
 rw [hL.known] at q1
 have q2:=rKnownS_at d r ⟨by omega,hL.rep⟩
 rw [hL.knownR] at q2
 have q3:=rClockS_at d r (by omega)
 rw [clk_eq hL] at q3
 refine aQ_ ?_
 iterate 1
  refine oC_ fun J hJ=>?_
  simp [go_sem]
  refine hJ _ _ _ ?_
 refine oN_ ?_
 refine aU_ ?_
 iterate 31
  refine oC_ fun J hJ=>?_
  simp [go_sem,lCommS_at d r v u (by omega),lTentS_at d r v u (by omega),plChgS_at d d (by omega),plChgS_at r r (by omega),↓q1,↓q2,↓q3,lClockS_at d r v u,cV_eqvs]
  refine hJ _ _ _ ?_
 refine oN_ ?_
 refine ⟨rfl,?_⟩
 refine aE_ ?_
 refine fQ_ [] ?_
 simp [go_sem,Tryz.f17]
end Go.Proofs.YtjoaigccapegpaaGreat.AE
