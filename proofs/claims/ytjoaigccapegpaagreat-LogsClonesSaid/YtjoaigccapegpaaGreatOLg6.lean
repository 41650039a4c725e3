/-
 Package logs: New, own. Conditions: none; every contract names its own.
-/
import Derived.Test.YtjoaigccapegpaaGreatOLg5
import Derived.Test.YtjoaigccapegpaaGreatOLgq
set_option linter.constructorNameAsVariable false
namespace Go.Proofs.YtjoaigccapegpaaGreat.AE
open Go Go.Proofs Go.RowKit
set_option linter.unusedVariables false
set_option linter.unusedSimpArgs false
set_option maxRecDepth 100000
set_option maxHeartbeats 4000000
structure cloneEffX where
 L:List Eff
 L':AV
 h_L:SlA 5 cEff L L'
 hL:L.length<=100000
noncomputable def cloneEffS:HSpec:=mkH (ι:=cloneEffX) (fun ⟨L,L',h_L,hL⟩=>([L'],[])) fun ⟨L,L',h_L,hL⟩=>⟨.own (2,0) L.length,[],[.row 106 5 (rows cEff L) false]⟩
theorem cloneEffS_atG (L:List Eff) (L':AV) (h_L:SlA 5 cEff L L') (hL:L.length<=100000):cloneEffS [L'] []=some (⟨.own (2,0) L.length,[],[.row 106 5 (rows cEff L) false]⟩):=
 mA_ (ι:=cloneEffX) (fun i j h=>by obtain ⟨L,L',h_L,hL⟩:=i; obtain ⟨L2,L'2,h_L2,hL2⟩:=j; simp [and_assoc,qB_,qI_,qO_,qC_,qE_,qK_,qR_,qV_,qP_,qOc_] at h; obtain rfl:=h; obtain rfl:=SlA.inj (fun x y h=>cEff_inj h) h_L h_L2; rfl) ⟨L,L',h_L,hL⟩
theorem cloneEffS_at (L:List Eff) (hL:L.length<=100000):cloneEffS [(.sl 5 (rows cEff L))] []=some (⟨.own (2,0) L.length,[],[.row 106 5 (rows cEff L) false]⟩):=cloneEffS_atG L _ .sl hL
theorem cloneEff_ok:HSound Tryz.prog 65 cloneEffS:=by
 refine sE_ (fn:=Tryz.f65) rfl rfl (by kernel_rfl) fun args bx hr hS=>?_
 obtain ⟨⟨L,L',h_L,hL⟩,rfl,rfl,rfl⟩:=mO_ hS
 clear hS
 refine ⟨_,(eN_ _),by simp [Tryz.f65],by simp [go_sem],fun w Mx pin=>?_⟩
 simp only [hB_at,lab_nil,lab_cons,hOf_nil,hOf_cons]
 refine aW_ (s':=⟨ofL [(0,(.sl 5 (rows cEff L)))],hOf []⟩) ?_ ?_
 · cases h_L <;> exact wO_ [] (by simp [go_sem]) (by simp [go_sem]) (by simp [go_sem])
 clear h_L
 refine aQ_ ?_
 iterate 1
  refine oC_ fun J hJ=>?_
  simp [go_sem]
  refine hJ _ _ _ ?_
 refine oN_ ?_
 refine aS_ fun K2 hK2=>?_
 refine aQ_ ?_
 iterate 2
  refine oC_ fun J hJ=>?_
  simp [go_sem]
  refine hJ _ _ _ ?_
 refine oN_ ?_
 refine awp_condNil rfl (fun c4=>?_) ?_
 ·
  rw [rows_eq_nil] at c4
  refine aQ_ ?_
  iterate 1
   refine oC_ fun J hJ=>?_
   simp [go_sem]
   refine hJ _ _ _ ?_
  refine oN_ ?_
  refine aE_ ?_
  refine fQ_ [((2,0),none)] ?_
  simp [go_sem,Tryz.f65,c4]
 ·
  refine aK_ ?_
  refine hK2 _ ?_
  refine aQ_ ?_
  iterate 4
   refine oC_ fun J hJ=>?_
   simp [go_sem,show L.length * 40<=140737488355328 by omega,show L.length<=maxLen by simp only [maxLen]; omega]
   refine hJ _ _ _ ?_
  refine oN_ ?_
  refine aE_ ?_
  refine fQ_ [((2,0),some (0,16 * 7))] ?_
  simp [go_sem,Tryz.f65]
structure lNewX where
 u:Unit
noncomputable def lNewS:HSpec:=mkH (ι:=lNewX) (fun ⟨_⟩=>([],[])) fun ⟨_⟩=>⟨.ref (2,0) 0,[],[.obj (cLg (.own (2,1) (([]:List Chg)).length) (.own (2,2) (([]:List Chg)).length) (bD (([]:List Chg))).1 (.sl 7 (rows cOrd (bD (([]:List Chg))).2)) (.bool true) (.ref (2,3) 0) (zV 4) (zV 4)),.row 35 9 (rows cChg (([]:List Chg))) false,.row 50 2 (rows cOc (oD (([]:List Chg)))) false,.obj [.sl 9 (rows cChg (([]:List Chg)))]]⟩
theorem lNewS_atG:lNewS [] []=some (⟨.ref (2,0) 0,[],[.obj (cLg (.own (2,1) (([]:List Chg)).length) (.own (2,2) (([]:List Chg)).length) (bD (([]:List Chg))).1 (.sl 7 (rows cOrd (bD (([]:List Chg))).2)) (.bool true) (.ref (2,3) 0) (zV 4) (zV 4)),.row 35 9 (rows cChg (([]:List Chg))) false,.row 50 2 (rows cOc (oD (([]:List Chg)))) false,.obj [.sl 9 (rows cChg (([]:List Chg)))]]⟩):=
 mA_ (ι:=lNewX) (fun i j h=>by obtain ⟨_⟩:=i; obtain ⟨_⟩:=j; rfl) ⟨()⟩
theorem lNewS_at:lNewS [] []=some (⟨.ref (2,0) 0,[],[.obj (cLg (.own (2,1) (([]:List Chg)).length) (.own (2,2) (([]:List Chg)).length) (bD (([]:List Chg))).1 (.sl 7 (rows cOrd (bD (([]:List Chg))).2)) (.bool true) (.ref (2,3) 0) (zV 4) (zV 4)),.row 35 9 (rows cChg (([]:List Chg))) false,.row 50 2 (rows cOc (oD (([]:List Chg)))) false,.obj [.sl 9 (rows cChg (([]:List Chg)))]]⟩):=lNewS_atG
theorem bD_nil:bD []=(zBk,[]):=rfl
theorem oD_nil:oD []=[]:=rfl
theorem lNew_ok:HSound Tryz.prog 7 lNewS:=by
 refine sE_ (fn:=Tryz.f7) rfl rfl (by kernel_rfl) fun args bx hr hS=>?_
 obtain ⟨⟨_⟩,rfl,rfl,rfl⟩:=mO_ hS
 clear hS
 refine ⟨_,(eN_ _),by simp [Tryz.f7],by simp [go_sem],fun w Mx pin=>?_⟩
 simp only [hB_at,lab_nil,lab_cons,hOf_nil,hOf_cons]
 refine aQ_ ?_
 iterate 1
  refine oC_ fun J hJ=>?_
  simp [go_sem]
  refine hJ _ _ _ ?_
 refine oN_ ?_
 refine aQ_ ?_
 iterate 5
  refine oC_ fun J hJ=>?_
  simp [go_sem]
  refine hJ _ _ _ ?_
 refine oN_ ?_
 refine aE_ ?_
 refine fQ_ [((2,0),some (0,64)),((2,1),none),((2,2),none),((2,3),some (0,32))] ?_
 simp [go_sem,Tryz.f7,bD_nil,oD_nil]
structure lOwnX where
 x:Outc
 hL:x.effs.length<=100000
noncomputable def lOwnS:HSpec:=mkH (ι:=lOwnX) (fun ⟨x,hL⟩=>([.agg (cOc x)],[])) fun ⟨x,hL⟩=>⟨.agg (cOc x),[],[]⟩
theorem lOwnS_atG (x:Outc) (hL:x.effs.length<=100000):lOwnS [.agg (cOc x)] []=some (⟨.agg (cOc x),[],[]⟩):=
 mA_ (ι:=lOwnX) (fun i j h=>by obtain ⟨x,hL⟩:=i; obtain ⟨x2,hL2⟩:=j; simp [and_assoc,qB_,qI_,qO_,qC_,qE_,qK_,qR_,qV_,qP_,qOc_] at h; obtain rfl:=h; rfl) ⟨x,hL⟩
theorem lOwnS_at (x:Outc) (hL:x.effs.length<=100000):lOwnS [.agg (cOc x)] []=some (⟨.agg (cOc x),[],[]⟩):=lOwnS_atG x hL
theorem lOwn_ok:HSound Tryz.prog 36 lOwnS:=by
 refine sE_ (fn:=Tryz.f36) rfl rfl (by kernel_rfl) fun args bx hr hS=>?_
 obtain ⟨⟨x,hL⟩,rfl,rfl,rfl⟩:=mO_ hS
 clear hS
 refine ⟨_,(eV_ (g:=65) (by kernel_rfl) cloneEff_ok (eN_ _)),by simp [Tryz.f36],by simp [go_sem],fun w Mx pin=>?_⟩
 simp only [hB_at,lab_nil,lab_cons,hOf_nil,hOf_cons]
 refine aQ_ ?_
 iterate 2
  refine oC_ fun J hJ=>?_
  simp [go_sem]
  refine hJ _ _ _ ?_
 refine oN_ ?_
 refine aQ_ ?_
 iterate 5
  refine oC_ fun J hJ=>?_
  simp [go_sem,cloneEffS_at x.effs hL]
  refine hJ _ _ _ ?_
 refine oN_ ?_
 refine aQ_ ?_
 iterate 2
  refine oC_ fun J hJ=>?_
  simp [go_sem]
  refine hJ _ _ _ ?_
 refine oN_ ?_
 refine aE_ ?_
 refine fQ_ [] ?_
 simp [go_sem,Tryz.f36,cOc]
theorem runF_bL (d r:List Chg) (n:Nat) (h:d.length + r.length<=10000):runFS [.agg (cBk (bD d).1 (.sl 7 (rows cOrd (bD d).2))),.sl 9 (rows cChg (r.take n))] []=some ⟨.tup [.agg (cBk (bkL (bD d) (r.take n)).1 (.sl 7 (rows cOrd (bkL (bD d) (r.take n)).2))),.own (2,0) (r.take n).length],[],[.row 50 2 (rows cOc (ouL (bD d) (r.take n))) false]⟩:=by
 obtain ⟨h1,h2,h3⟩:=bD_fair d
 exact runFS_at (bD d).1 (bD d).2 (r.take n) ⟨h1,h2,by simp; omega⟩
theorem ocs_effs (p:Bk × List Ord) (h:FairP p) (L:List Chg) {k:Nat} {oc:Outc} (hk:(ouL p L)[k]?=some oc):oc.effs.length<=100000:=by
 have:=ouL_effs h L oc (List.mem_of_getElem? hk)
 omega
structure lOutX where
 d:List Chg
 r:List Chg
 v:Vn 4
 u:Vn 4
 a:Id
 hL:d.length + r.length<=10000
noncomputable def lOutS:HSpec:=mkH (ι:=lOutX) (fun ⟨d,r,v,u,a,hL⟩=>([.ref (1,0) 0,.agg (cId a)],[.obj (cLg (.own (1,1) (d).length) (.own (1,2) (d).length) (bD (d)).1 (.sl 7 (rows cOrd (bD (d)).2)) (.bool true) (.ref (1,3) 0) v u),.row 35 9 (rows cChg (d)) false,.row 50 2 (rows cOc (oD (d))) false,.obj [.sl 9 (rows cChg (r))]])) fun ⟨d,r,v,u,a,hL⟩=>⟨.tup [.agg (cOc (outG d r a)),.bool (goodG d r a),.bool (wasG d r a)],[.obj (cLg (.own (1,1) (d).length) (.own (1,2) (d).length) (bD (d)).1 (.sl 7 (rows cOrd (bD (d)).2)) (.bool true) (.ref (1,3) 0) v u),.row 35 9 (rows cChg (d)) false,.row 50 2 (rows cOc (oD (d))) false,.obj [.sl 9 (rows cChg (r))]],[]⟩
theorem lOutS_atG (d:List Chg) (r:List Chg) (v:Vn 4) (u:Vn 4) (a:Id) (hL:d.length + r.length<=10000):lOutS [.ref (1,0) 0,.agg (cId a)] [.obj (cLg (.own (1,1) (d).length) (.own (1,2) (d).length) (bD (d)).1 (.sl 7 (rows cOrd (bD (d)).2)) (.bool true) (.ref (1,3) 0) v u),.row 35 9 (rows cChg (d)) false,.row 50 2 (rows cOc (oD (d))) false,.obj [.sl 9 (rows cChg (r))]]=some (⟨.tup [.agg (cOc (outG d r a)),.bool (goodG d r a),.bool (wasG d r a)],[.obj (cLg (.own (1,1) (d).length) (.own (1,2) (d).length) (bD (d)).1 (.sl 7 (rows cOrd (bD (d)).2)) (.bool true) (.ref (1,3) 0) v u),.row 35 9 (rows cChg (d)) false,.row 50 2 (rows cOc (oD (d))) false,.obj [.sl 9 (rows cChg (r))]],[]⟩):=
 mA_ (ι:=lOutX) (fun i j h=>by obtain ⟨d,r,v,u,a,hL⟩:=i; obtain ⟨d2,r2,v2,u2,a2,hL2⟩:=j; simp [and_assoc,qB_,qI_,qO_,qC_,qE_,qK_,qR_,qV_,qP_,qOc_,rows_iff_Chg,cLg_eq_iff] at h; obtain ⟨rfl,_,_,_,rfl,rfl,rfl,_,rfl⟩:=h; rfl) ⟨d,r,v,u,a,hL⟩
theorem lOutS_at (d:List Chg) (r:List Chg) (v:Vn 4) (u:Vn 4) (a:Id) (hL:d.length + r.length<=10000):lOutS [.ref (1,0) 0,.agg (cId a)] [.obj (cLg (.own (1,1) (d).length) (.own (1,2) (d).length) (bD (d)).1 (.sl 7 (rows cOrd (bD (d)).2)) (.bool true) (.ref (1,3) 0) v u),.row 35 9 (rows cChg (d)) false,.row 50 2 (rows cOc (oD (d))) false,.obj [.sl 9 (rows cChg (r))]]=some (⟨.tup [.agg (cOc (outG d r a)),.bool (goodG d r a),.bool (wasG d r a)],[.obj (cLg (.own (1,1) (d).length) (.own (1,2) (d).length) (bD (d)).1 (.sl 7 (rows cOrd (bD (d)).2)) (.bool true) (.ref (1,3) 0) v u),.row 35 9 (rows cChg (d)) false,.row 50 2 (rows cOc (oD (d))) false,.obj [.sl 9 (rows cChg (r))]],[]⟩):=lOutS_atG d r v u a hL
theorem lOut_ok:HSound Tryz.prog 13 lOutS:=by
 refine sE_ (fn:=Tryz.f13) rfl rfl (by kernel_rfl) fun args bx hr hS=>?_
 obtain ⟨⟨d,r,v,u,a,hL⟩,rfl,rfl,rfl⟩:=mO_ hS
 clear hS
 refine ⟨_,(eV_ (g:=32) (by kernel_rfl) isL_ok (eV_ (g:=35) (by kernel_rfl) findC_ok (eV_ (g:=36) (by kernel_rfl) lOwn_ok (eV_ (g:=37) (by kernel_rfl) tAll_ok (eV_ (g:=38) (by kernel_rfl) runF_ok (eN_ _)))))),by simp [Tryz.f13],by simp [go_sem],fun w Mx pin=>?_⟩
 simp only [hB_at,lab_nil,lab_cons,hOf_nil,hOf_cons]
 have hol:=oD_len d
 have hfd:=bD_fair d
 refine aQ_ ?_
 iterate 4
  refine oC_ fun J hJ=>?_
  simp [go_sem]
  refine hJ _ _ _ ?_
 refine oN_ ?_
 refine aS_ fun K2 hK2=>?_
 refine aQ_ ?_
 iterate 3
  refine oC_ fun J hJ=>?_
  simp [go_sem,isLS_at]
  refine hJ _ _ _ ?_
 refine oN_ ?_
 refine aF_ rfl ?_
 refine aK_ ?_
 refine hK2 _ ?_
 refine aS_ fun K6 hK6=>?_
 refine aS_ fun K7 hK7=>?_
 rcases placeC_at d a with hm1 | ⟨k,y,hk,hpk,hy,hid⟩
 ·
  refine aD_ ?_
  iterate 8
   refine oC_ fun J hJ=>?_
   simp [go_sem,findCS_at d a (by omega),hm1]
   refine hJ _ _ _ ?_
  refine oN_ ?_
  refine ⟨rfl,?_⟩
  refine hK7 _ ?_
  refine aQ_ ?_
  iterate 2
   refine oC_ fun J hJ=>?_
   simp [go_sem,hm1]
   refine hJ _ _ _ ?_
  refine oN_ ?_
  refine aF_ rfl ?_
  refine aK_ ?_
  refine hK6 _ ?_
  refine aQ_ ?_
  iterate 6
   refine oC_ fun J hJ=>?_
   simp [go_sem,tAllS_at r (by omega)]
   refine hJ _ _ _ ?_
  refine oN_ ?_
  refine aS_ fun K12 hK12=>?_
  rcases placeC_at r a with hm2 | ⟨k,y,hk,hpk,hy,hid⟩
  ·
   have hp:placeC (d++r) a=-1:=by rw [place_app,hm1,hm2]; rfl
   have q1:outG d r a=zOc:=by rw [outG,hp]; rfl
   have q2:goodG d r a=false:=by rw [goodG,hp]; rfl
   have q3:wasG d r a=false:=by rw [wasG,hp]; rfl
   refine aR_ ?_
   iterate 4
    refine oC_ fun J hJ=>?_
    simp [go_sem,findCS_at r a (by omega),hm2]
    refine hJ _ _ _ ?_
   refine oN_ ?_
   refine hK12 _ ?_
   refine aS_ fun K13 hK13=>?_
   refine aQ_ ?_
   iterate 2
    refine oC_ fun J hJ=>?_
    simp [go_sem,hm2]
    refine hJ _ _ _ ?_
   refine oN_ ?_
   refine aT_ rfl ?_
   refine aQ_ ?_
   iterate 4
    refine oC_ fun J hJ=>?_
    simp [go_sem]
    refine hJ _ _ _ ?_
   refine oN_ ?_
   refine aE_ ?_
   refine fQ_ [((1,0),some (1,0)),((1,1),some (1,1)),((1,2),some (1,2)),((1,3),some (1,3))] ?_
   simp [go_sem,Tryz.f13,q1,q2,q3,zOc_cells]
  ·
   have hp:placeC (d++r) a=((d.length + k:Nat):Int):=by rw [place_app,hm1,hpk]; simp; omega
   have hk2:k < (ouL (bD d) r).length:=by rw [ouL_len]; exact hk
   obtain ⟨oc,hoc⟩:∃ oc,(ouL (bD d) r)[k]?=some oc:=⟨_,List.getElem?_eq_getElem hk2⟩
   have hoc2:(ouL (bD d) (r.take (k + 1)))[k]?=some oc:=by rw [ouL_pre _ _ (by omega)]; exact hoc
   have h0:¬ (k:Int) < 0:=by omega
   have q1:outG d r a=oc:=by rw [outG,hp,if_neg (by omega),Int.toNat_natCast,oD_right,hoc]; rfl
   have q2:goodG d r a=false:=by rw [goodG,hp]; simp; omega
   have q3:wasG d r a=true:=by rw [wasG,hp]; simp; omega
   have hk4:(k:Int) < (k:Int) + 1:=by omega
   have wk:=wN_ (n:=k) (by omega)
   have hkt:((k:Int) + 1).toNat=k + 1:=by omega
   have h1:(0:Int)<=(k:Int) + 1:=by omega
   have hk3:k + 1<=r.length:=by omega
   have hr:=runF_bL d r (k + 1) (by omega)
   have hlt:(r.take (k + 1)).length=k + 1:=by simp; omega
   rw [hlt] at hr
   have hO3:(ouL (bD d) (r.take (k + 1))).length=k + 1:=by rw [ouL_len]; exact hlt
   generalize hO:ouL (bD d) (r.take (k + 1))=O2 at hr hoc2 hO3
   generalize hB:bkL (bD d) (r.take (k + 1))=B2 at hr
   refine aR_ ?_
   iterate 4
    refine oC_ fun J hJ=>?_
    simp [go_sem,findCS_at r a (by omega),hpk]
    refine hJ _ _ _ ?_
   refine oN_ ?_
   refine hK12 _ ?_
   refine aS_ fun K13 hK13=>?_
   refine aQ_ ?_
   iterate 2
    refine oC_ fun J hJ=>?_
    simp [go_sem,h0]
    refine hJ _ _ _ ?_
   refine oN_ ?_
   refine aF_ rfl ?_
   refine aK_ ?_
   refine hK13 _ ?_
   refine aS_ fun K17 hK17=>?_
   by_cases hz:B2.2=[]/\∀ (x:List AV),x ∈ rows cOc O2->∀ (y:AV),y ∈ x->light y=true
   ·
    refine aD_ ?_
    iterate 16
     refine oC_ fun J hJ=>?_
     simp [go_sem,wk,hkt,h1,hk3,↓hr,if_pos hz]
     refine hJ _ _ _ ?_
    refine oN_ ?_
    refine ⟨rfl,?_⟩
    refine hK17 _ ?_
    refine aQ_ ?_
    iterate 7
     refine oC_ fun J hJ=>?_
     simp [go_sem,hO3,hk4,↓hoc2,hoc2]
     refine hJ _ _ _ ?_
    refine oN_ ?_
    refine aE_ ?_
    refine fQ_ [((1,0),some (1,0)),((1,1),some (1,1)),((1,2),some (1,2)),((1,3),some (1,3))] ?_
    simp [go_sem,Tryz.f13,q1,q2,q3]
   ·
    refine aD_ ?_
    iterate 16
     refine oC_ fun J hJ=>?_
     simp [go_sem,wk,hkt,h1,hk3,↓hr,if_neg hz]
     refine hJ _ _ _ ?_
    refine oN_ ?_
    refine ⟨rfl,?_⟩
    refine hK17 _ ?_
    refine aQ_ ?_
    iterate 7
     refine oC_ fun J hJ=>?_
     simp [go_sem,hO3,hk4,↓hoc2,hoc2]
     refine hJ _ _ _ ?_
    refine oN_ ?_
    refine aE_ ?_
    refine fQ_ [((1,0),some (1,0)),((1,1),some (1,1)),((1,2),some (1,2)),((1,3),some (1,3))] ?_
    simp [go_sem,Tryz.f13,q1,q2,q3]
 ·
  have hp:placeC (d++r) a=(k:Int):=by rw [place_app,hpk,if_neg (by omega)]
  have hk2:k < (oD d).length:=by omega
  obtain ⟨oc,hoc⟩:∃ oc,(oD d)[k]?=some oc:=⟨_,List.getElem?_eq_getElem hk2⟩
  have q1:outG d r a=oc:=by rw [outG,hp,if_neg (by omega),Int.toNat_natCast,oD_left hk,hoc]; rfl
  have q2:goodG d r a=true:=by rw [goodG,hp]; simp; omega
  have q3:wasG d r a=true:=by rw [wasG,hp]; simp
  have hef:=ocs_effs (zBk,[]) fairZ d hoc
  have h0:(0:Int)<=(k:Int):=by omega
  refine aD_ ?_
  iterate 8
   refine oC_ fun J hJ=>?_
   simp [go_sem,findCS_at d a (by omega),hpk]
   refine hJ _ _ _ ?_
  refine oN_ ?_
  refine ⟨rfl,?_⟩
  refine hK7 _ ?_
  refine aQ_ ?_
  iterate 2
   refine oC_ fun J hJ=>?_
   simp [go_sem,h0]
   refine hJ _ _ _ ?_
  refine oN_ ?_
  refine aT_ rfl ?_
  refine aQ_ ?_
  iterate 12
   refine oC_ fun J hJ=>?_
   simp [go_sem,hk,hk2,hol,↓hoc,hoc,lOwnS_at oc hef]
   refine hJ _ _ _ ?_
  refine oN_ ?_
  refine aE_ ?_
  refine fQ_ [((1,0),some (1,0)),((1,1),some (1,1)),((1,2),some (1,2)),((1,3),some (1,3))] ?_
  simp [go_sem,Tryz.f13,q1,q2,q3]
end Go.Proofs.YtjoaigccapegpaaGreat.AE
