/-
 Law 19: few, step. Conditions: none; every contract names its own.
-/
import Derived.Test.YtjoaigccapegpaaGreatOLg7
import Derived.Test.YtjoaigccapegpaaGreatOLgs
import Derived.Test.YtjoaigccapegpaaGreatPj
set_option linter.constructorNameAsVariable false
namespace Go.Proofs.YtjoaigccapegpaaGreat.AE
open Go Go.Proofs Go.RowKit
set_option linter.unusedVariables false
set_option linter.unusedSimpArgs false
set_option maxRecDepth 100000
set_option maxHeartbeats 4000000
theorem headC_nil:(headC []).id=zId:=rfl
theorem cOp_tail (x:Op):List.take 9 (cOp x).tail=cChg x.c:=rfl
@[go_sem] theorem take_oD (d:List Chg):List.take d.length (oD d)=oD d:=by rw [<-oD_len d]; exact List.take_length
theorem outG_big (d r:List Chg) (a:Id):(outG d r a).effs.length<=9223372036854775807:=by
 unfold outG
 split
 · simp [zOc]
 ·
  cases h:(oD (d++r))[(placeC (d++r) a).toNat]? with
  | none=>simp [zOc]
  | some oc=>have:=ocs_effs (zBk,[]) fairZ (d++r) h; simp; omega
structure few19X where
 os:List Op
 os':AV
 h_os:SlA 12 cOp os os'
noncomputable def few19S:HSpec:=mkH (ι:=few19X) (fun ⟨os,os',h_os⟩=>([os'],[])) fun ⟨os,os',h_os⟩=>⟨.sl 12 (rows cOp (os.take 60)),[],[]⟩
theorem few19S_atG (os:List Op) (os':AV) (h_os:SlA 12 cOp os os'):few19S [os'] []=some (⟨.sl 12 (rows cOp (os.take 60)),[],[]⟩):=
 mA_ (ι:=few19X) (fun i j h=>by obtain ⟨os,os',h_os⟩:=i; obtain ⟨os2,os'2,h_os2⟩:=j; simp [and_assoc,qB_,qI_,qO_,qC_,qE_,qK_,qR_,qV_,qP_,qOc_] at h; obtain rfl:=h; obtain rfl:=SlA.inj (fun x y h=>cOp_inj h) h_os h_os2; rfl) ⟨os,os',h_os⟩
theorem few19S_at (os:List Op):few19S [(.sl 12 (rows cOp os))] []=some (⟨.sl 12 (rows cOp (os.take 60)),[],[]⟩):=few19S_atG os _ .sl
theorem few19_ok:HSound Tryz.prog 8 few19S:=by
 refine sE_ (fn:=Tryz.f8) rfl rfl (by kernel_rfl) fun args bx hr hS=>?_
 obtain ⟨⟨os,os',h_os⟩,rfl,rfl,rfl⟩:=mO_ hS
 clear hS
 refine ⟨_,(eN_ _),by simp [Tryz.f8],by simp [go_sem],fun w Mx pin=>?_⟩
 simp only [hB_at,lab_nil,lab_cons,hOf_nil,hOf_cons]
 refine aW_ (s':=⟨ofL [(0,(.sl 12 (rows cOp os)))],hOf []⟩) ?_ ?_
 · cases h_os <;> exact wO_ [] (by simp [go_sem]) (by simp [go_sem]) (by simp [go_sem])
 clear h_os
 refine aQ_ ?_
 iterate 1
  refine oC_ fun J hJ=>?_
  simp [go_sem]
  refine hJ _ _ _ ?_
 refine oN_ ?_
 refine aS_ fun K2 hK2=>?_
 refine aQ_ ?_
 iterate 3
  refine oC_ fun J hJ=>?_
  simp [go_sem]
  refine hJ _ _ _ ?_
 refine oN_ ?_
 refine aC_ (t:=_) rfl (fun c4=>?_) (fun c4=>?_)
 ·
  simp [go_sem] at c4
  have h3:60<=os.length:=by omega
  refine aQ_ ?_
  iterate 3
   refine oC_ fun J hJ=>?_
   simp [go_sem,h3]
   refine hJ _ _ _ ?_
  refine oN_ ?_
  refine aE_ ?_
  refine fQ_ [] ?_
  simp [go_sem,Tryz.f8]
 ·
  simp [go_sem] at c4
  have h2:List.take 60 os=os:=List.take_of_length_le (by omega)
  refine aK_ ?_
  refine hK2 _ ?_
  refine aQ_ ?_
  iterate 2
   refine oC_ fun J hJ=>?_
   simp [go_sem]
   refine hJ _ _ _ ?_
  refine oN_ ?_
  refine aE_ ?_
  refine fQ_ [] ?_
  simp [go_sem,Tryz.f8,h2]
structure stepX where
 s:LS
 x:Op
 hL:okS s
noncomputable def stepS:HSpec:=mkH (ι:=stepX) (fun ⟨s,x,hL⟩=>([.ref (1,0) 0,.ref (1,4) 0,.agg (cOp x)],[.obj (cLg (.own (1,1) (s.d).length) (.own (1,2) (s.d).length) (bD (s.d)).1 (.sl 7 (rows cOrd (bD (s.d)).2)) (.bool true) (.ref (1,3) 0) s.v s.u),.row 35 9 (rows cChg (s.d)) false,.row 50 2 (rows cOc (oD (s.d))) false,.obj [.sl 9 (rows cChg (s.r))],.obj [.sl 9 (rows cChg (s.d)),.sl 9 (rows cChg (s.r))]])) fun ⟨s,x,hL⟩=>⟨.bool true,[.obj (cLg (.own (2,0) ((stS s x).d).length) (.own (2,1) ((stS s x).d).length) (bD ((stS s x).d)).1 (.sl 7 (rows cOrd (bD ((stS s x).d)).2)) (.bool true) (.ref (1,3) 0) (stS s x).v (stS s x).u),.dead,.dead,.obj [.sl 9 (rows cChg ((stS s x).r))],.obj [.sl 9 (rows cChg ((stS s x).d)),.sl 9 (rows cChg ((stS s x).r))]],[.row 35 9 (rows cChg ((stS s x).d)) false,.row 50 2 (rows cOc (oD ((stS s x).d))) false]⟩
theorem stepS_atG (s:LS) (x:Op) (hL:okS s):stepS [.ref (1,0) 0,.ref (1,4) 0,.agg (cOp x)] [.obj (cLg (.own (1,1) (s.d).length) (.own (1,2) (s.d).length) (bD (s.d)).1 (.sl 7 (rows cOrd (bD (s.d)).2)) (.bool true) (.ref (1,3) 0) s.v s.u),.row 35 9 (rows cChg (s.d)) false,.row 50 2 (rows cOc (oD (s.d))) false,.obj [.sl 9 (rows cChg (s.r))],.obj [.sl 9 (rows cChg (s.d)),.sl 9 (rows cChg (s.r))]]=some (⟨.bool true,[.obj (cLg (.own (2,0) ((stS s x).d).length) (.own (2,1) ((stS s x).d).length) (bD ((stS s x).d)).1 (.sl 7 (rows cOrd (bD ((stS s x).d)).2)) (.bool true) (.ref (1,3) 0) (stS s x).v (stS s x).u),.dead,.dead,.obj [.sl 9 (rows cChg ((stS s x).r))],.obj [.sl 9 (rows cChg ((stS s x).d)),.sl 9 (rows cChg ((stS s x).r))]],[.row 35 9 (rows cChg ((stS s x).d)) false,.row 50 2 (rows cOc (oD ((stS s x).d))) false]⟩):=
 mA_ (ι:=stepX) (fun i j h=>by obtain ⟨s,x,hL⟩:=i; obtain ⟨s2,x2,hL2⟩:=j; obtain ⟨d,r,v,u⟩:=s; obtain ⟨d2,r2,v2,u2⟩:=s2; simp [and_assoc,qB_,qI_,qO_,qC_,qE_,qK_,qR_,qV_,qP_,qOc_,rows_iff_Chg,cLg_eq_iff] at h; obtain ⟨rfl,_,_,_,rfl,rfl,rfl,_,rfl,_⟩:=h; rfl) ⟨s,x,hL⟩
theorem stepS_at (s:LS) (x:Op) (hL:okS s):stepS [.ref (1,0) 0,.ref (1,4) 0,.agg (cOp x)] [.obj (cLg (.own (1,1) (s.d).length) (.own (1,2) (s.d).length) (bD (s.d)).1 (.sl 7 (rows cOrd (bD (s.d)).2)) (.bool true) (.ref (1,3) 0) s.v s.u),.row 35 9 (rows cChg (s.d)) false,.row 50 2 (rows cOc (oD (s.d))) false,.obj [.sl 9 (rows cChg (s.r))],.obj [.sl 9 (rows cChg (s.d)),.sl 9 (rows cChg (s.r))]]=some (⟨.bool true,[.obj (cLg (.own (2,0) ((stS s x).d).length) (.own (2,1) ((stS s x).d).length) (bD ((stS s x).d)).1 (.sl 7 (rows cOrd (bD ((stS s x).d)).2)) (.bool true) (.ref (1,3) 0) (stS s x).v (stS s x).u),.dead,.dead,.obj [.sl 9 (rows cChg ((stS s x).r))],.obj [.sl 9 (rows cChg ((stS s x).d)),.sl 9 (rows cChg ((stS s x).r))]],[.row 35 9 (rows cChg ((stS s x).d)) false,.row 50 2 (rows cOc (oD ((stS s x).d))) false]⟩):=stepS_atG s x hL
theorem step_ok:HSound Tryz.prog 9 stepS:=by
 refine sE_ (fn:=Tryz.f9) rfl rfl (by kernel_rfl) fun args bx hr hS=>?_
 obtain ⟨⟨s,x,hL⟩,rfl,rfl,rfl⟩:=mO_ hS
 clear hS
 refine ⟨_,(eH_ (g:=24) (by kernel_rfl) lAdd_ok (eH_ (g:=29) (by kernel_rfl) rAdd_ok (eH_ (g:=25) (by kernel_rfl) lCom_ok (eH_ (g:=30) (by kernel_rfl) rCom_ok (eV_ (g:=23) (by kernel_rfl) lFirst_ok (eH_ (g:=13) (by kernel_rfl) lOut_ok (eH_ (g:=31) (by kernel_rfl) rOut_ok (eV_ (g:=14) (by kernel_rfl) plOcB_ok (eN_ _))))))))),by simp [Tryz.f9],by simp [go_sem],fun w Mx pin=>?_⟩
 simp only [hB_at,lab_nil,lab_cons,hOf_nil,hOf_cons]
 have hs:=okS_len hL
 have hrep:=LgI.rep hL
 refine aQ_ ?_
 iterate 2
  refine oC_ fun J hJ=>?_
  simp [go_sem]
  refine hJ _ _ _ ?_
 refine oN_ ?_
 refine aS_ fun K2 hK2=>?_
 refine aQ_ ?_
 iterate 3
  refine oC_ fun J hJ=>?_
  simp [go_sem]
  refine hJ _ _ _ ?_
 refine oN_ ?_
 refine aC_ (t:=_) rfl (fun c4=>?_) (fun c4=>?_)
 ·
  simp [go_sem] at c4
  have ha:=rAddS_at s.d s.r x.c ⟨by omega,hrep⟩
  rw [add_code hL x.c,<-(add_lgI hL x.c).2] at ha
  have hq:stS s x=addS s x.c:=if_pos c4
  refine aU_ ?_
  iterate 10
   refine oC_ fun J hJ=>?_
   simp [go_sem,cOp_tail,lAddS_at s.d s.r s.v s.u x.c (by omega),↓ha]
   refine hJ _ _ _ ?_
  refine oN_ ?_
  refine ⟨rfl,?_⟩
  refine aE_ ?_
  refine fQ_ [((1,0),some (1,0)),((1,3),some (1,3)),((1,4),some (1,4)),((2,0),some (1,1)),((2,1),some (1,2))] ?_
  simp [go_sem,Tryz.f9,hq,addS]
 ·
  simp [go_sem] at c4
  refine aK_ ?_
  refine hK2 _ ?_
  refine aS_ fun K6 hK6=>?_
  refine aQ_ ?_
  iterate 3
   refine oC_ fun J hJ=>?_
   simp [go_sem]
   refine hJ _ _ _ ?_
  refine oN_ ?_
  refine aC_ (t:=_) rfl (fun c8=>?_) (fun c8=>?_)
  ·
   simp [go_sem] at c8
   have e0:stS s x=comS s x.id:=by rw [stS,if_neg c4,if_pos c8]
   refine aS_ fun K9 hK9=>?_
   cases hf:freeC s.r x.id
   ·
    have hc:=lComS_at s.d s.r s.v s.u (x.id) (by omega)
    rw [show comH s.d s.r s.v s.u (x.id)=_ from if_neg (by simp [hf])] at hc
    have hq:stS s x=s:=by rw [e0]; exact comS_no hf
    have hcd:comD s.d s.r (x.id)=s.d:=if_neg (by simp [hf])
    have htk:takeL s.r (x.id)=s.r:=if_neg (by simp [hf])
    have hrc:=rComS_at s.d s.r (x.id) (by omega)
    rw [hcd,htk] at hrc
    refine aD_ ?_
    iterate 10
     refine oC_ fun J hJ=>?_
     simp [go_sem,↓hc,↓hrc]
     refine hJ _ _ _ ?_
    refine oN_ ?_
    refine ⟨rfl,?_⟩
    refine hK9 _ ?_
    refine aE_ ?_
    refine fQ_ [((1,0),some (1,0)),((1,3),some (1,3)),((1,4),some (1,4)),((2,0),some (1,1)),((2,1),some (1,2))] ?_
    simp [go_sem,Tryz.f9,hq]
   ·
    have hc:=lComS_at s.d s.r s.v s.u (x.id) (by omega)
    rw [show comH s.d s.r s.v s.u (x.id)=_ from if_pos hf] at hc
    have hq:stS s x=⟨s.d++[takeC s.r (x.id)],takeL s.r (x.id),s.v,s.u⟩:=by rw [e0,comS,comD,if_pos hf]
    have hcd:comD s.d s.r (x.id)=s.d++[takeC s.r (x.id)]:=if_pos hf
    obtain ⟨kk,cc,k1,k2,k3,k4,k5,k6,k7⟩:=freeC_at hf
    have hcc:comC s.r (x.id)=0:=by rw [comC,if_neg (by omega),if_neg (by simp [hf])]
    have hrc:=rComS_at s.d s.r (x.id) (by omega)
    rw [hcd,hcc] at hrc
    refine aD_ ?_
    iterate 10
     refine oC_ fun J hJ=>?_
     simp [go_sem,↓hc,↓hrc]
     refine hJ _ _ _ ?_
    refine oN_ ?_
    refine ⟨rfl,?_⟩
    refine hK9 _ ?_
    refine aE_ ?_
    refine fQ_ [((1,0),some (1,0)),((1,3),some (1,3)),((1,4),some (1,4)),((2,0),some (0,528)),((2,1),some (0,529))] ?_
    simp [go_sem,Tryz.f9,hq]
  ·
   simp [go_sem] at c8
   refine aK_ ?_
   refine hK6 _ ?_
   refine aS_ fun K10 hK10=>?_
   refine aQ_ ?_
   iterate 3
    refine oC_ fun J hJ=>?_
    simp [go_sem]
    refine hJ _ _ _ ?_
   refine oN_ ?_
   refine aC_ (t:=_) rfl (fun c12=>?_) (fun c12=>?_)
   ·
    simp [go_sem] at c12
    have e0:stS s x=comS s (headC s.r).id:=by rw [stS,if_neg c4,if_neg c8,if_pos c12]
    refine aQ_ ?_
    iterate 8
     refine oC_ fun J hJ=>?_
     simp [go_sem,take_oD,lFirstS_at s.d s.r s.v s.u]
     refine hJ _ _ _ ?_
    refine oN_ ?_
    refine aS_ fun K14 hK14=>?_
    refine aQ_ ?_
    iterate 6
     refine oC_ fun J hJ=>?_
     simp [go_sem]
     refine hJ _ _ _ ?_
    refine oN_ ?_
    refine aC_ (t:=_) rfl (fun c16=>?_) (fun c16=>?_)
    ·
     simp [go_sem] at c16
     have hq:stS s x=s:=by rw [e0]; exact comS_no (by rw [c16]; exact free_nil _)
     have hh:(headC s.r).id=zId:=by rw [c16]; rfl
     refine aQ_ ?_
     iterate 8
      refine oC_ fun J hJ=>?_
      simp [go_sem,c16,hh]
      refine hJ _ _ _ ?_
     refine oN_ ?_
     refine aE_ ?_
     refine fQ_ [((1,0),some (1,0)),((1,3),some (1,3)),((1,4),some (1,4)),((2,0),some (1,1)),((2,1),some (1,2))] ?_
     simp [go_sem,Tryz.f9,hq,c16,headC_nil]
    ·
     simp [go_sem] at c16
     rcases head_cases s.r with ⟨h0,hh,hn⟩ | ⟨y,h0,hx,hh,hn⟩
     · exact absurd (List.eq_nil_of_length_eq_zero h0) c16
     rw [hh] at e0
     have hnr:s.r ≠ []:=c16
     refine aK_ ?_
     refine hK14 _ ?_
     refine aS_ fun K18 hK18=>?_
     cases hf:freeC s.r y.id
     ·
      have hc:=lComS_at s.d s.r s.v s.u (y.id) (by omega)
      rw [show comH s.d s.r s.v s.u (y.id)=_ from if_neg (by simp [hf])] at hc
      have hq:stS s x=s:=by rw [e0]; exact comS_no hf
      have hcd:comD s.d s.r (y.id)=s.d:=if_neg (by simp [hf])
      have htk:takeL s.r (y.id)=s.r:=if_neg (by simp [hf])
      have hrc:=rComS_at s.d s.r (y.id) (by omega)
      rw [hcd,htk] at hrc
      refine aD_ ?_
      iterate 22
       refine oC_ fun J hJ=>?_
       simp [go_sem,↓hc,↓hrc,h0,↓hx,hx,hh,hnr]
       refine hJ _ _ _ ?_
      refine oN_ ?_
      refine ⟨rfl,?_⟩
      refine hK18 _ ?_
      refine aE_ ?_
      refine fQ_ [((1,0),some (1,0)),((1,3),some (1,3)),((1,4),some (1,4)),((2,0),some (1,1)),((2,1),some (1,2))] ?_
      simp [go_sem,Tryz.f9,hq]
     ·
      have hc:=lComS_at s.d s.r s.v s.u (y.id) (by omega)
      rw [show comH s.d s.r s.v s.u (y.id)=_ from if_pos hf] at hc
      have hq:stS s x=⟨s.d++[takeC s.r (y.id)],takeL s.r (y.id),s.v,s.u⟩:=by rw [e0,comS,comD,if_pos hf]
      have hcd:comD s.d s.r (y.id)=s.d++[takeC s.r (y.id)]:=if_pos hf
      obtain ⟨kk,cc,k1,k2,k3,k4,k5,k6,k7⟩:=freeC_at hf
      have hcc:comC s.r (y.id)=0:=by rw [comC,if_neg (by omega),if_neg (by simp [hf])]
      have hrc:=rComS_at s.d s.r (y.id) (by omega)
      rw [hcd,hcc] at hrc
      refine aD_ ?_
      iterate 22
       refine oC_ fun J hJ=>?_
       simp [go_sem,↓hc,↓hrc,h0,↓hx,hx,hh,hnr]
       refine hJ _ _ _ ?_
      refine oN_ ?_
      refine ⟨rfl,?_⟩
      refine hK18 _ ?_
      refine aE_ ?_
      refine fQ_ [((1,0),some (1,0)),((1,3),some (1,3)),((1,4),some (1,4)),((2,0),some (0,1200)),((2,1),some (0,1201))] ?_
      simp [go_sem,Tryz.f9,hq]
   ·
    simp [go_sem] at c12
    have hq:stS s x=s:=by rw [stS,if_neg c4,if_neg c8,if_neg c12]
    refine aK_ ?_
    refine hK10 _ ?_
    refine aS_ fun K19 hK19=>?_
    have hob:=outG_big s.d s.r x.id
    refine aR_ ?_
    iterate 12
     refine oC_ fun J hJ=>?_
     simp [go_sem,lOutS_at s.d s.r s.v s.u x.id (by omega)]
     refine hJ _ _ _ ?_
    refine oN_ ?_
    refine hK19 _ ?_
    refine aQ_ ?_
    iterate 12
     refine oC_ fun J hJ=>?_
     simp [go_sem,rOutS_at s.d s.r x.id (by omega)]
     refine hJ _ _ _ ?_
    refine oN_ ?_
    refine aQ_ ?_
    iterate 14
     refine oC_ fun J hJ=>?_
     simp [go_sem,plOcBS_at (outG s.d s.r x.id) (outG s.d s.r x.id) hob]
     refine hJ _ _ _ ?_
    refine oN_ ?_
    refine aE_ ?_
    refine fQ_ [((1,0),some (1,0)),((1,3),some (1,3)),((1,4),some (1,4)),((2,0),some (1,1)),((2,1),some (1,2))] ?_
    simp [go_sem,Tryz.f9,hq]
end Go.Proofs.YtjoaigccapegpaaGreat.AE
