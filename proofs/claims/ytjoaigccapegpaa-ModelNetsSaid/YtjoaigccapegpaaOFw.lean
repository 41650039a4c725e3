/-
 Package fold: Wants. Conditions: none; every contract names its own.
-/
import Derived.Test.YtjoaigccapegpaaPj
set_option linter.constructorNameAsVariable false
namespace Go.Proofs.Ytjoaigccapegpaa.AE
open Go Go.Proofs Go.RowKit
set_option linter.unusedVariables false
set_option linter.unusedSimpArgs false
set_option maxRecDepth 100000
set_option maxHeartbeats 4000000
structure wantsFX where
 L:List Chg
 L':AV
 good:Int
 h_L:SlA 9 cChg L L'
 hL:L.length<=20000
noncomputable def wantsFS:HSpec:=mkH (ι:=wantsFX) (fun ⟨L,L',good,h_L,hL⟩=>([L',.int .i64 good],[])) fun ⟨L,L',good,h_L,hL⟩=>⟨.own (2,0) L.length,[],[.row 69 1 (rows cWs (wantsL L good)) false]⟩
theorem wantsFS_atG (L:List Chg) (L':AV) (good:Int) (h_L:SlA 9 cChg L L') (hL:L.length<=20000):wantsFS [L',.int .i64 good] []=some (⟨.own (2,0) L.length,[],[.row 69 1 (rows cWs (wantsL L good)) false]⟩):=
 mA_ (ι:=wantsFX) (fun i j h=>by obtain ⟨L,L',good,h_L,hL⟩:=i; obtain ⟨L2,L'2,good2,h_L2,hL2⟩:=j; simp [and_assoc,qB_,qI_,qO_,qC_,qE_,qK_,qR_,qV_,qP_,qOc_] at h; obtain ⟨rfl,rfl⟩:=h; obtain rfl:=SlA.inj (fun x y h=>cChg_inj h) h_L h_L2; rfl) ⟨L,L',good,h_L,hL⟩
theorem wantsFS_at (L:List Chg) (good:Int) (hL:L.length<=20000):wantsFS [(.sl 9 (rows cChg L)),.int .i64 good] []=some (⟨.own (2,0) L.length,[],[.row 69 1 (rows cWs (wantsL L good)) false]⟩):=wantsFS_atG L _ good .sl hL
theorem wantsF_ok:HSound Try.prog 47 wantsFS:=by
 refine sE_ (fn:=Try.f47) rfl rfl (by kernel_rfl) fun args bx hr hS=>?_
 obtain ⟨⟨L,L',good,h_L,hL⟩,rfl,rfl,rfl⟩:=mO_ hS
 clear hS
 refine ⟨_,(eH_ (g:=60) (by kernel_rfl) runF_ok (eH_ (g:=74) (by kernel_rfl) wantF_ok (eN_ _))),by simp [Try.f47],by simp [go_sem],fun w Mx pin=>?_⟩
 simp only [hB_at,lab_nil,lab_cons,hOf_nil,hOf_cons]
 refine aW_ (s':=⟨ofL [(0,(.sl 9 (rows cChg L))),(1,.int .i64 good)],hOf []⟩) ?_ ?_
 · cases h_L <;> exact wO_ [] (by simp [go_sem]) (by simp [go_sem]) (by simp [go_sem])
 clear h_L
 have hou:(ouL (zBk,[]) L).length<=100000:=by rw [ouL_len]; omega
 refine aQ_ ?_
 iterate 1
  refine oC_ fun J hJ=>?_
  simp [go_sem]
  refine hJ _ _ _ ?_
 refine oN_ ?_
 refine aQ_ ?_
 iterate 9
  refine oC_ fun J hJ=>?_
  simp [go_sem,↓runZ_at L hL]
  refine hJ _ _ _ ?_
 refine oN_ ?_
 refine aQ_ ?_
 iterate 1
  refine oC_ fun J hJ=>?_
  simp [go_sem]
  refine hJ _ _ _ ?_
 refine oN_ ?_
 refine aS_ fun K4 hK4=>?_
 refine aQ_ ?_
 iterate 3
  refine oC_ fun J hJ=>?_
  simp [go_sem]
  refine hJ _ _ _ ?_
 refine oN_ ?_
 refine aB_ ?_
 refine aL_ (ι:={ q:List Outc × List Outc // q.1++q.2=(ouL (zBk,[]) L)/\True }) (fun q=>wantsI L good q.1.1 q.1.2) (fun q=>q.1.2.length) ⟨([],(ouL (zBk,[]) L)),rfl,trivial⟩ ?_ ?_
 · refine wO_ [((0,999),none)] (by simp [go_sem]) ?_ ?_ <;> simp [go_sem,dropped]
 intro ⟨⟨pre,post⟩,hl,hgo⟩
 simp only at hl hgo
 have hpl:=lS_ hl hou
 simp only [wantsI]
 refine aQ_ ?_
 iterate 1
  refine oC_ fun J hJ=>?_
  simp [go_sem]
  refine hJ _ _ _ ?_
 refine oN_ ?_
 refine aS_ fun K7 hK7=>?_
 refine aC_ (t:=_) rfl (fun c8=>?_) (fun c8=>?_)
 ·
  simp [go_sem] at c8
  have hxl:pre.length < (ouL (zBk,[]) L).length:=by rw [ouL_len]; omega
  obtain ⟨x,post,rfl,hx⟩:=mL_ hl hxl
  rw [ouL_len] at hxl
  refine aK_ ?_
  refine hK7 _ ?_
  refine aS_ fun K9 hK9=>?_
  refine aB_ ?_
  refine aQ_ ?_
  iterate 6
   refine oC_ fun J hJ=>?_
   simp [go_sem,hx]
   refine hJ _ _ _ ?_
  refine oN_ ?_
  refine aR_ ?_
  iterate 9
   refine oC_ fun J hJ=>?_
   simp [go_sem,wantFS_at x (decide ((pre.length:Int) < good)) (effs_of hx),cWs_at,show (pre.length + 1) * 24<=140737488355328 by omega,show pre.length + 1<=maxLen by (simp only [maxLen]; omega)]
   refine hJ _ _ _ ?_
  refine oN_ ?_
  refine hK9 _ ?_
  refine aR_ ?_
  iterate 2
   refine oC_ fun J hJ=>?_
   simp [go_sem]
   refine hJ _ _ _ ?_
  refine oN_ ?_
  refine ⟨⟨(pre++[x],post),by simp [<-hl],by exact trivial⟩,?_,by simp⟩
  refine wO_ [((0,999),some (0,480))] (by simp [go_sem]) ?_ ?_ <;> simp [go_sem,wN_ hpl,wantsG_snoc,rows_append,cWs_at]
 ·
  simp [go_sem] at c8
  obtain ⟨rfl,hpe⟩:=mN_ hl (by rw [ouL_len]; omega)
  have hpl2:pre.length=L.length:=by rw [<-hpe,ouL_len]
  have hw:wantsG good pre 0=wantsL L good:=by rw [<-hpe]; rfl
  refine aX_ ?_
  simp only [go_sem]
  refine hK4 _ ?_
  refine aQ_ ?_
  iterate 2
   refine oC_ fun J hJ=>?_
   simp [go_sem]
   refine hJ _ _ _ ?_
  refine oN_ ?_
  refine aE_ ?_
  refine fQ_ [((2,0),some (0,999))] ?_
  simp [go_sem,Try.f47,hw,hpl2]
end Go.Proofs.Ytjoaigccapegpaa.AE
