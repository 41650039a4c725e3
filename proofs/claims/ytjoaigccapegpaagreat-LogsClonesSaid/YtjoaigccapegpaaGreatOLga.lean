/-
 Package logs: what Seen tells is new. Conditions: none; every contract names its own.
-/
import Derived.Test.YtjoaigccapegpaaGreatOFo3
import Derived.Test.YtjoaigccapegpaaGreatOLg6
set_option linter.constructorNameAsVariable false
namespace Go.Proofs.YtjoaigccapegpaaGreat.AE
open Go Go.Proofs Go.RowKit
set_option linter.unusedVariables false
set_option linter.unusedSimpArgs false
set_option maxRecDepth 100000
set_option maxHeartbeats 4000000
structure lastHX where
 b:Bk
 os:List Ord
 os':AV
 L:List Chg
 h_os:SlA 7 cOrd os os'
 hL:FairB b/\FairO os/\os.length + L.length<=30000
noncomputable def lastHS:HSpec:=mkH (ι:=lastHX) (fun ⟨b,os,os',L,h_os,hL⟩=>([.agg (cBk b os'),.own (1,0) L.length],[.row 35 9 (rows cChg L) false])) fun ⟨b,os,os',L,h_os,hL⟩=>⟨.agg (cBk (bkL (b,os) L).1 (ptV (2,0) (bkL (b,os) L).2)),[.row 35 9 (rows cChg L) false],[ptB (bkL (b,os) L).2]⟩
theorem lastHS_atG (b:Bk) (os:List Ord) (os':AV) (L:List Chg) (h_os:SlA 7 cOrd os os') (hL:FairB b/\FairO os/\os.length + L.length<=30000):lastHS [.agg (cBk b os'),.own (1,0) L.length] [.row 35 9 (rows cChg L) false]=some (⟨.agg (cBk (bkL (b,os) L).1 (ptV (2,0) (bkL (b,os) L).2)),[.row 35 9 (rows cChg L) false],[ptB (bkL (b,os) L).2]⟩):=
 mA_ (ι:=lastHX) (fun i j h=>by obtain ⟨b,os,os',L,h_os,hL⟩:=i; obtain ⟨b2,os2,os'2,L2,h_os2,hL2⟩:=j; simp [and_assoc,qB_,qI_,qO_,qC_,qE_,qK_,qR_,qV_,qP_,qOc_,rows_iff_Chg] at h; obtain ⟨rfl,rfl,_,rfl⟩:=h; obtain rfl:=SlA.inj (fun x y h=>cOrd_inj h) h_os h_os2; rfl) ⟨b,os,os',L,h_os,hL⟩
theorem lastHS_at (b:Bk) (os:List Ord) (L:List Chg) (hL:FairB b/\FairO os/\os.length + L.length<=30000):lastHS [.agg (cBk b (.sl 7 (rows cOrd os))),.own (1,0) L.length] [.row 35 9 (rows cChg L) false]=some (⟨.agg (cBk (bkL (b,os) L).1 (ptV (2,0) (bkL (b,os) L).2)),[.row 35 9 (rows cChg L) false],[ptB (bkL (b,os) L).2]⟩):=lastHS_atG b os _ L .sl hL
theorem lastH_ok:HSound Tryz.prog 40 lastHS:=by
 refine sE_ (fn:=Tryz.f40) rfl rfl (by kernel_rfl) fun args bx hr hS=>?_
 obtain ⟨⟨b,os,os',L,h_os,hL⟩,rfl,rfl,rfl⟩:=mO_ hS
 clear hS
 refine ⟨_,(eH_ (g:=38) (by kernel_rfl) runH_ok (eN_ _)),by simp [Tryz.f40],by simp [go_sem],fun w Mx pin=>?_⟩
 simp only [hB_at,lab_nil,lab_cons,hOf_nil,hOf_cons]
 refine aW_ (s':=⟨ofL [(0,.agg (cBk b (.sl 7 (rows cOrd os)))),(1,.own (1,0) L.length)],hOf [((1,0),.row 35 9 (rows cChg L) false)]⟩) ?_ ?_
 · cases h_os <;> exact wO_ [((1,0),some (1,0))] (by simp [go_sem]) (by simp [go_sem]) (by simp [go_sem])
 clear h_os
 have hr:=runHS_at b os L hL
 have hgo:∀ B2:Bk × List Ord,True:=fun _=>trivial
 generalize bkL (b,os) L=B2 at hr ⊢
 refine aQ_ ?_
 iterate 2
  refine oC_ fun J hJ=>?_
  simp [go_sem]
  refine hJ _ _ _ ?_
 refine oN_ ?_
 refine aS_ fun K2 hK2=>?_
 by_cases hz:B2.2=[]
 ·
  simp only [ptV,ptB,if_pos hz] at hr
  refine aR_ ?_
  iterate 9
   refine oC_ fun J hJ=>?_
   simp [go_sem,↓hr]
   refine hJ _ _ _ ?_
  refine oN_ ?_
  refine hK2 _ ?_
  refine aQ_ ?_
  iterate 2
   refine oC_ fun J hJ=>?_
   simp [go_sem]
   refine hJ _ _ _ ?_
  refine oN_ ?_
  refine aE_ ?_
  refine fQ_ [((1,0),some (1,0)),((2,0),some (0,160))] ?_
  simp [go_sem,Tryz.f40,ptV,ptB,hz]
 ·
  simp only [ptV,ptB,if_neg hz] at hr
  refine aR_ ?_
  iterate 9
   refine oC_ fun J hJ=>?_
   simp [go_sem,↓hr]
   refine hJ _ _ _ ?_
  refine oN_ ?_
  refine hK2 _ ?_
  refine aQ_ ?_
  iterate 2
   refine oC_ fun J hJ=>?_
   simp [go_sem]
   refine hJ _ _ _ ?_
  refine oN_ ?_
  refine aE_ ?_
  refine fQ_ [((1,0),some (1,0)),((2,0),some (0,160))] ?_
  simp [go_sem,Tryz.f40,ptV,ptB,hz]
theorem lastH_bD (d r:List Chg) (h:d.length + r.length<=10000):lastHS [.agg (cBk (bD d).1 (.sl 7 (rows cOrd (bD d).2))),.own (1,0) r.length] [.row 35 9 (rows cChg r) false]=some ⟨.agg (cBk (bD (d++r)).1 (ptV (2,0) (bD (d++r)).2)),[.row 35 9 (rows cChg r) false],[ptB (bD (d++r)).2]⟩:=by
 obtain ⟨h1,h2,h3⟩:=bD_fair d
 rw [bD_app]
 exact lastHS_at (bD d).1 (bD d).2 r ⟨h1,h2,by omega⟩
structure lSeenHX where
 d:List Chg
 r:List Chg
 v:Vn 4
 u:Vn 4
 hL:d.length + r.length<=10000
noncomputable def lSeenHS:HSpec:=mkH (ι:=lSeenHX) (fun ⟨d,r,v,u,hL⟩=>([.ref (1,0) 0],[.obj (cLg (.own (1,1) (d).length) (.own (1,2) (d).length) (bD (d)).1 (.sl 7 (rows cOrd (bD (d)).2)) (.bool true) (.ref (1,3) 0) v u),.row 35 9 (rows cChg (d)) false,.row 50 2 (rows cOc (oD (d))) false,.obj [.sl 9 (rows cChg (r))]])) fun ⟨d,r,v,u,hL⟩=>⟨.agg (cBk (bD (d++r)).1 (ptV (2,0) (bD (d++r)).2)),[.obj (cLg (.own (1,1) (d).length) (.own (1,2) (d).length) (bD (d)).1 (.sl 7 (rows cOrd (bD (d)).2)) (.bool true) (.ref (1,3) 0) v u),.row 35 9 (rows cChg (d)) false,.row 50 2 (rows cOc (oD (d))) false,.obj [.sl 9 (rows cChg (r))]],[ptB (bD (d++r)).2]⟩
theorem lSeenHS_atG (d:List Chg) (r:List Chg) (v:Vn 4) (u:Vn 4) (hL:d.length + r.length<=10000):lSeenHS [.ref (1,0) 0] [.obj (cLg (.own (1,1) (d).length) (.own (1,2) (d).length) (bD (d)).1 (.sl 7 (rows cOrd (bD (d)).2)) (.bool true) (.ref (1,3) 0) v u),.row 35 9 (rows cChg (d)) false,.row 50 2 (rows cOc (oD (d))) false,.obj [.sl 9 (rows cChg (r))]]=some (⟨.agg (cBk (bD (d++r)).1 (ptV (2,0) (bD (d++r)).2)),[.obj (cLg (.own (1,1) (d).length) (.own (1,2) (d).length) (bD (d)).1 (.sl 7 (rows cOrd (bD (d)).2)) (.bool true) (.ref (1,3) 0) v u),.row 35 9 (rows cChg (d)) false,.row 50 2 (rows cOc (oD (d))) false,.obj [.sl 9 (rows cChg (r))]],[ptB (bD (d++r)).2]⟩):=
 mA_ (ι:=lSeenHX) (fun i j h=>by obtain ⟨d,r,v,u,hL⟩:=i; obtain ⟨d2,r2,v2,u2,hL2⟩:=j; simp [and_assoc,qB_,qI_,qO_,qC_,qE_,qK_,qR_,qV_,qP_,qOc_,rows_iff_Chg,cLg_eq_iff] at h; obtain ⟨_,_,_,rfl,rfl,rfl,_,rfl⟩:=h; rfl) ⟨d,r,v,u,hL⟩
theorem lSeenHS_at (d:List Chg) (r:List Chg) (v:Vn 4) (u:Vn 4) (hL:d.length + r.length<=10000):lSeenHS [.ref (1,0) 0] [.obj (cLg (.own (1,1) (d).length) (.own (1,2) (d).length) (bD (d)).1 (.sl 7 (rows cOrd (bD (d)).2)) (.bool true) (.ref (1,3) 0) v u),.row 35 9 (rows cChg (d)) false,.row 50 2 (rows cOc (oD (d))) false,.obj [.sl 9 (rows cChg (r))]]=some (⟨.agg (cBk (bD (d++r)).1 (ptV (2,0) (bD (d++r)).2)),[.obj (cLg (.own (1,1) (d).length) (.own (1,2) (d).length) (bD (d)).1 (.sl 7 (rows cOrd (bD (d)).2)) (.bool true) (.ref (1,3) 0) v u),.row 35 9 (rows cChg (d)) false,.row 50 2 (rows cOc (oD (d))) false,.obj [.sl 9 (rows cChg (r))]],[ptB (bD (d++r)).2]⟩):=lSeenHS_atG d r v u hL
theorem lSeenH_ok:HSound Tryz.prog 19 lSeenHS:=by
 refine sE_ (fn:=Tryz.f19) rfl rfl (by kernel_rfl) fun args bx hr hS=>?_
 obtain ⟨⟨d,r,v,u,hL⟩,rfl,rfl,rfl⟩:=mO_ hS
 clear hS
 refine ⟨_,(eV_ (g:=32) (by kernel_rfl) isL_ok (eV_ (g:=37) (by kernel_rfl) tAll_ok (eH_ (g:=40) (by kernel_rfl) lastH_ok (eN_ _)))),by simp [Tryz.f19],by simp [go_sem],fun w Mx pin=>?_⟩
 simp only [hB_at,lab_nil,lab_cons,hOf_nil,hOf_cons]
 have hr:=lastH_bD d r hL
 have htk:List.take r.length r=r:=List.take_length
 generalize bD (d++r)=B2 at hr ⊢
 refine aQ_ ?_
 iterate 1
  refine oC_ fun J hJ=>?_
  simp [go_sem]
  refine hJ _ _ _ ?_
 refine oN_ ?_
 refine aS_ fun K2 hK2=>?_
 refine aQ_ ?_
 iterate 3
  refine oC_ fun J hJ=>?_
  simp [go_sem,isLS_at]
  refine hJ _ _ _ ?_
 refine oN_ ?_
 refine aF_ rfl ?_
 refine aK_ ?_
 refine hK2 _ ?_
 refine aS_ fun K6 hK6=>?_
 by_cases hz:B2.2=[]
 ·
  simp only [ptV,ptB,if_pos hz] at hr
  refine aD_ ?_
  iterate 12
   refine oC_ fun J hJ=>?_
   simp [go_sem,tAllS_at r (by omega),↓hr]
   refine hJ _ _ _ ?_
  refine oN_ ?_
  refine ⟨rfl,?_⟩
  refine hK6 _ ?_
  refine aE_ ?_
  refine fQ_ [((1,0),some (1,0)),((1,1),some (1,1)),((1,2),some (1,2)),((1,3),some (1,3)),((2,0),some (0,272))] ?_
  simp [go_sem,Tryz.f19,ptV,ptB,hz]
 ·
  simp only [ptV,ptB,if_neg hz] at hr
  refine aD_ ?_
  iterate 12
   refine oC_ fun J hJ=>?_
   simp [go_sem,tAllS_at r (by omega),↓hr]
   refine hJ _ _ _ ?_
  refine oN_ ?_
  refine ⟨rfl,?_⟩
  refine hK6 _ ?_
  refine aE_ ?_
  refine fQ_ [((1,0),some (1,0)),((1,1),some (1,1)),((1,2),some (1,2)),((1,3),some (1,3)),((2,0),some (0,272))] ?_
  simp [go_sem,Tryz.f19,ptV,ptB,hz]
end Go.Proofs.YtjoaigccapegpaaGreat.AE
