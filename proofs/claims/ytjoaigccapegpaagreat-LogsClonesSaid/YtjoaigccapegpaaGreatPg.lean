/-
 A change is done: the contract. Conditions: none; every contract names its own.
-/
import Derived.Test.YtjoaigccapegpaaGreatPf
import Derived.Test.YtjoaigccapegpaaGreatPc
import Derived.Test.YtjoaigccapegpaaGreatPe
set_option linter.constructorNameAsVariable false
namespace Go.Proofs.YtjoaigccapegpaaGreat.AE
open Go Go.Proofs Go.RowKit
set_option linter.unusedVariables false
set_option linter.unusedSimpArgs false
set_option maxRecDepth 100000
set_option maxHeartbeats 4000000
@[go_sem] theorem uWk_self (H0 H ρ):le.leC H0 H ρ uWk uWk=True:=by
 have:=leC_u H0 H ρ uWk
 rw [uWk_len] at this
 exact eq_true this
def doW (b:Bk) (os:List Ord) (c:Chg):Except Int (Bk × List Ord × List Eff × Id):=
 if c.kind=1 then if 1<=c.n then match addB' b c.a c.n with
   | .ok d=>.ok (d,os,[],zId)
   | .error e=>.error e
  else .error 4
 else if c.kind=2 then if 1<=c.n then match giveB b c.a c.n with
   | .ok d=>.ok (d,os,[⟨8,c.a,c.n,zId⟩],zId)
   | .error e=>.error e
  else .error 4
 else if c.kind=3 then placeW b os c
 else if c.kind=4 then amendW b os c
 else if c.kind=5 then cancelW b os c
 else if c.kind=6 then payW b os c
 else if c.kind=7 then shipW b os c
 else if c.kind=8 then refundW b os c
 else if c.kind=9 then match priceB b c.a c.n with
   | .ok d=>.ok (d,os,[],zId)
   | .error e=>.error e
 else .error 12
theorem priceB_ne {b:Bk} {i n e:Int} (h:priceB b i n=.error e):e ≠ 0:=by
 unfold priceB at h
 split at h
 · cases h
 · cases h; decide
structure wdoX where
 c:Chg
 b:Bk
 os:List Ord
 hL:FairB b/\FairO os/\os.length<=40000
noncomputable def wdoS:HSpec:=mkH (ι:=wdoX) (fun ⟨c,b,os,hL⟩=>([.ref (1,0) 0,.agg (cChg c)],[.obj (cWk b (.sl 7 (rows cOrd os)) .nils zId)])) fun ⟨c,b,os,hL⟩=>wkH (doW b os c)
theorem wdoS_atG (c:Chg) (b:Bk) (os:List Ord) (hL:FairB b/\FairO os/\os.length<=40000):wdoS [.ref (1,0) 0,.agg (cChg c)] [.obj (cWk b (.sl 7 (rows cOrd os)) .nils zId)]=some (wkH (doW b os c)):=
 mA_ (ι:=wdoX) (fun i j h=>by obtain ⟨c,b,os,hL⟩:=i; obtain ⟨c2,b2,os2,hL2⟩:=j; simp [and_assoc,qB_,qI_,qO_,qC_,qE_,qK_,qR_,qV_,qP_,qOc_,rows_iff_Ord,rows_iff_Eff,rows_iff_Int,cWk_eq_iff] at h; obtain ⟨rfl,rfl,rfl⟩:=h; rfl) ⟨c,b,os,hL⟩
theorem wdoS_at (c:Chg) (b:Bk) (os:List Ord) (hL:FairB b/\FairO os/\os.length<=40000):wdoS [.ref (1,0) 0,.agg (cChg c)] [.obj (cWk b (.sl 7 (rows cOrd os)) .nils zId)]=some (wkH (doW b os c)):=wdoS_atG c b os hL
theorem wdo_ok:HSound Tryz.prog 96 wdoS:=by
 refine sE_ (fn:=Tryz.f96) rfl rfl (by kernel_rfl) fun args bx hr hS=>?_
 obtain ⟨⟨c,b,os,hL⟩,rfl,rfl,rfl⟩:=mO_ hS
 clear hS
 refine ⟨_,(eV_ (g:=99) (by kernel_rfl) ask_ok (eH_ (g:=100) (by kernel_rfl) (twoS_sound must0_ok must1_ok) (eH_ (g:=122) (by kernel_rfl) (twoS_sound wput0_ok wput1_ok) (eH_ (g:=103) (by kernel_rfl) (twoS_sound tell0_ok tell1_ok) (eH_ (g:=121) (by kernel_rfl) order_ok (eV_ (g:=101) (by kernel_rfl) sAdd_ok (eV_ (g:=102) (by kernel_rfl) pGive_ok (eV_ (g:=110) (by kernel_rfl) sPrice_ok (eH_ (g:=104) (by kernel_rfl) wplace_ok (eH_ (g:=105) (by kernel_rfl) wamend_ok (eH_ (g:=106) (by kernel_rfl) wcancel_ok (eH_ (g:=107) (by kernel_rfl) wpay_ok (eH_ (g:=108) (by kernel_rfl) wship_ok (eH_ (g:=109) (by kernel_rfl) wrefund_ok (eN_ _))))))))))))))),by simp [Tryz.f96],by simp [wkH_go,go_sem],fun w Mx pin=>?_⟩
 simp only [hB_at,lab_nil,lab_cons,hOf_nil,hOf_cons]
 obtain ⟨hF,hO,hlen⟩:=hL
 refine aQ_ ?_
 iterate 1
  refine oC_ fun J hJ=>?_
  simp [go_sem]
  refine hJ _ _ _ ?_
  clear hJ J
 refine oN_ ?_
 refine aQ_ ?_
 iterate 2
  refine oC_ fun J hJ=>?_
  simp [go_sem]
  refine hJ _ _ _ ?_
  clear hJ J
 refine oN_ ?_
 refine aB_ ?_
 refine aQ_ ?_
 iterate 2
  refine oC_ fun J hJ=>?_
  simp [go_sem]
  refine hJ _ _ _ ?_
  clear hJ J
 refine oN_ ?_
 refine aC_ (t:=_) rfl (fun c4=>?_) (fun c4=>?_)
 ·
  simp [go_sem] at c4
  refine aS_ fun K5 hK5=>?_
  by_cases hn:1<=c.n
  ·
   have hn1:decide (1<=c.n)=true:=decide_eq_true hn
   refine aR_ ?_
   iterate 4
    refine oC_ fun J hJ=>?_
    simp [go_sem,hn,hn1,askS_at,askH_t]
    refine hJ _ _ _ ?_
    clear hJ J
   refine oN_ ?_
   refine hK5 _ ?_
   clear hK5
   rcases hb:addB' b c.a c.n with e | d
   ·
    have hr:doW b os c=.error e:=by unfold doW; rw [if_pos c4,if_pos hn,hb]
    refine awp_drawL 12 rfl rfl ?_
    simp only [List.take_succ_cons,List.take_zero]
    iterate 12
     refine oC_ fun J hJ=>?_
     simp [go_sem,sAddS_at b os c.a c.n hF,hb,bkH,must0_fz (addB_ne hb)]
     refine hJ _ _ _ ?_
     clear hJ J
    refine oN_ ?_
    refine ⟨rfl,?_⟩
    simp [go_sem,sAddS_at b os c.a c.n hF,hb,bkH,must0_fz (addB_ne hb)]
    refine fQ_ [((1,0),some (1,0))] ?_
    simp [go_sem,Tryz.f96,wkH,hr]
   ·
    have hr:doW b os c=.ok (d,os,[],zId):=by unfold doW; rw [if_pos c4,if_pos hn,hb]
    refine aD_ ?_
    iterate 13
     refine oC_ fun J hJ=>?_
     simp [go_sem,sAddS_at b os c.a c.n hF,hb,bkH,must0_t]
     refine hJ _ _ _ ?_
     clear hJ J
    refine oN_ ?_
    refine ⟨rfl,?_⟩
    refine fQ_ [((1,0),some (1,0)),((2,0),none)] ?_
    simp [go_sem,Tryz.f96,wkH,hr]
  ·
   have hr:doW b os c=.error 4:=by unfold doW; rw [if_pos c4,if_neg hn]
   refine aR_ ?_
   iterate 3
    refine oC_ fun J hJ=>?_
    simp [go_sem,hn,askS_at,askH_f]
    refine hJ _ _ _ ?_
    clear hJ J
   refine oC_ fun J hJ=>?_
   clear hJ
   simp [go_sem,hn,askS_at,askH_f]
   refine fQ_ [((1,0),some (1,0))] ?_
   simp [go_sem,Tryz.f96,wkH,hr]
 ·
  simp [go_sem] at c4
  refine aQ_ ?_
  iterate 2
   refine oC_ fun J hJ=>?_
   simp [go_sem]
   refine hJ _ _ _ ?_
   clear hJ J
  refine oN_ ?_
  refine aC_ (t:=_) rfl (fun c7=>?_) (fun c7=>?_)
  ·
   simp [go_sem] at c7
   refine aS_ fun K8 hK8=>?_
   by_cases hn:1<=c.n
   ·
    have hn1:decide (1<=c.n)=true:=decide_eq_true hn
    refine aR_ ?_
    iterate 4
     refine oC_ fun J hJ=>?_
     simp [go_sem,hn,hn1,askS_at,askH_t]
     refine hJ _ _ _ ?_
     clear hJ J
    refine oN_ ?_
    refine hK8 _ ?_
    clear hK8
    refine aS_ fun K9 hK9=>?_
    rcases hb:giveB b c.a c.n with e | d
    ·
     have hr:doW b os c=.error e:=by unfold doW; rw [if_neg c4,if_pos c7,if_pos hn,hb]
     refine awp_drawL 12 rfl rfl ?_
     simp only [List.take_succ_cons,List.take_zero]
     iterate 12
      refine oC_ fun J hJ=>?_
      simp [go_sem,pGiveS_at b os c.a c.n hF,hb,bkH,must0_fz (giveB_ne hb)]
      refine hJ _ _ _ ?_
      clear hJ J
     refine oN_ ?_
     refine ⟨rfl,?_⟩
     simp [go_sem,pGiveS_at b os c.a c.n hF,hb,bkH,must0_fz (giveB_ne hb)]
     refine fQ_ [((1,0),some (1,0))] ?_
     simp [go_sem,Tryz.f96,wkH,hr]
    ·
     have hr:doW b os c=.ok (d,os,[⟨8,c.a,c.n,zId⟩],zId):=by unfold doW; rw [if_neg c4,if_pos c7,if_pos hn,hb]
     refine aD_ ?_
     iterate 13
      refine oC_ fun J hJ=>?_
      simp [go_sem,pGiveS_at b os c.a c.n hF,hb,bkH,must0_t]
      refine hJ _ _ _ ?_
      clear hJ J
     refine oN_ ?_
     refine ⟨rfl,?_⟩
     refine hK9 _ ?_
     clear hK9
     refine aR_ ?_
     iterate 6
      refine oC_ fun J hJ=>?_
      simp [go_sem,tell0_at2 8 c.a c.n d os zId (by omega)]
      refine hJ _ _ _ ?_
      clear hJ J
     refine oN_ ?_
     refine fQ_ [((1,0),some (1,0)),((2,0),some (0,816))] ?_
     simp [go_sem,Tryz.f96,wkH,hr]
   ·
    have hr:doW b os c=.error 4:=by unfold doW; rw [if_neg c4,if_pos c7,if_neg hn]
    refine aR_ ?_
    iterate 3
     refine oC_ fun J hJ=>?_
     simp [go_sem,hn,askS_at,askH_f]
     refine hJ _ _ _ ?_
     clear hJ J
    refine oC_ fun J hJ=>?_
    clear hJ
    simp [go_sem,hn,askS_at,askH_f]
    refine fQ_ [((1,0),some (1,0))] ?_
    simp [go_sem,Tryz.f96,wkH,hr]
  ·
   simp [go_sem] at c7
   refine aQ_ ?_
   iterate 2
    refine oC_ fun J hJ=>?_
    simp [go_sem]
    refine hJ _ _ _ ?_
    clear hJ J
   refine oN_ ?_
   refine aC_ (t:=_) rfl (fun c11=>?_) (fun c11=>?_)
   ·
    simp [go_sem] at c11
    rcases hp:placeW b os c with e | ⟨b2,os2,l2,r2⟩
    ·
     have hr:doW b os c=.error e:=by unfold doW; rw [if_neg c4,if_neg c7,if_pos c11,hp]
     refine aR_ ?_
     iterate 2
      refine oC_ fun J hJ=>?_
      simp [go_sem,wplaceS_at c b os ⟨hF,hlen⟩,hp,wkH]
      refine hJ _ _ _ ?_
      clear hJ J
     refine oC_ fun J hJ=>?_
     clear hJ
     simp [go_sem,wplaceS_at c b os ⟨hF,hlen⟩,hp,wkH]
     refine fQ_ [((1,0),some (1,0))] ?_
     simp [go_sem,Tryz.f96,wkH,hr]
    ·
     have hr:doW b os c=.ok (b2,os2,l2,r2):=by unfold doW; rw [if_neg c4,if_neg c7,if_pos c11,hp]
     refine aR_ ?_
     iterate 3
      refine oC_ fun J hJ=>?_
      simp [go_sem,wplaceS_at c b os ⟨hF,hlen⟩,hp,wkH]
      refine hJ _ _ _ ?_
      clear hJ J
     refine oN_ ?_
     refine fQ_ [((1,0),some (1,0)),((2,0),some (0,896))] ?_
     simp [go_sem,Tryz.f96,wkH,hr]
   ·
    simp [go_sem] at c11
    refine aQ_ ?_
    iterate 2
     refine oC_ fun J hJ=>?_
     simp [go_sem]
     refine hJ _ _ _ ?_
     clear hJ J
    refine oN_ ?_
    refine aC_ (t:=_) rfl (fun c13=>?_) (fun c13=>?_)
    ·
     simp [go_sem] at c13
     rcases hp:amendW b os c with e | ⟨b2,os2,l2,r2⟩
     ·
      have hr:doW b os c=.error e:=by unfold doW; rw [if_neg c4,if_neg c7,if_neg c11,if_pos c13,hp]
      refine aR_ ?_
      iterate 2
       refine oC_ fun J hJ=>?_
       simp [go_sem,wamendS_at c b os ⟨hF,hO,hlen⟩,hp,wkH]
       refine hJ _ _ _ ?_
       clear hJ J
      refine oC_ fun J hJ=>?_
      clear hJ
      simp [go_sem,wamendS_at c b os ⟨hF,hO,hlen⟩,hp,wkH]
      refine fQ_ [((1,0),some (1,0))] ?_
      simp [go_sem,Tryz.f96,wkH,hr]
     ·
      have hr:doW b os c=.ok (b2,os2,l2,r2):=by unfold doW; rw [if_neg c4,if_neg c7,if_neg c11,if_pos c13,hp]
      refine aR_ ?_
      iterate 3
       refine oC_ fun J hJ=>?_
       simp [go_sem,wamendS_at c b os ⟨hF,hO,hlen⟩,hp,wkH]
       refine hJ _ _ _ ?_
       clear hJ J
      refine oN_ ?_
      refine fQ_ [((1,0),some (1,0)),((2,0),some (0,976))] ?_
      simp [go_sem,Tryz.f96,wkH,hr]
    ·
     simp [go_sem] at c13
     refine aQ_ ?_
     iterate 2
      refine oC_ fun J hJ=>?_
      simp [go_sem]
      refine hJ _ _ _ ?_
      clear hJ J
     refine oN_ ?_
     refine aC_ (t:=_) rfl (fun c15=>?_) (fun c15=>?_)
     ·
      simp [go_sem] at c15
      rcases hp:cancelW b os c with e | ⟨b2,os2,l2,r2⟩
      ·
       have hr:doW b os c=.error e:=by unfold doW; rw [if_neg c4,if_neg c7,if_neg c11,if_neg c13,if_pos c15,hp]
       refine aR_ ?_
       iterate 2
        refine oC_ fun J hJ=>?_
        simp [go_sem,wcancelS_at c b os ⟨hF,hO,hlen⟩,hp,wkH]
        refine hJ _ _ _ ?_
        clear hJ J
       refine oC_ fun J hJ=>?_
       clear hJ
       simp [go_sem,wcancelS_at c b os ⟨hF,hO,hlen⟩,hp,wkH]
       refine fQ_ [((1,0),some (1,0))] ?_
       simp [go_sem,Tryz.f96,wkH,hr]
      ·
       have hr:doW b os c=.ok (b2,os2,l2,r2):=by unfold doW; rw [if_neg c4,if_neg c7,if_neg c11,if_neg c13,if_pos c15,hp]
       refine aR_ ?_
       iterate 3
        refine oC_ fun J hJ=>?_
        simp [go_sem,wcancelS_at c b os ⟨hF,hO,hlen⟩,hp,wkH]
        refine hJ _ _ _ ?_
        clear hJ J
       refine oN_ ?_
       refine fQ_ [((1,0),some (1,0)),((2,0),some (0,1056))] ?_
       simp [go_sem,Tryz.f96,wkH,hr]
     ·
      simp [go_sem] at c15
      refine aQ_ ?_
      iterate 2
       refine oC_ fun J hJ=>?_
       simp [go_sem]
       refine hJ _ _ _ ?_
       clear hJ J
      refine oN_ ?_
      refine aC_ (t:=_) rfl (fun c17=>?_) (fun c17=>?_)
      ·
       simp [go_sem] at c17
       rcases hp:payW b os c with e | ⟨b2,os2,l2,r2⟩
       ·
        have hr:doW b os c=.error e:=by unfold doW; rw [if_neg c4,if_neg c7,if_neg c11,if_neg c13,if_neg c15,if_pos c17,hp]
        refine aR_ ?_
        iterate 2
         refine oC_ fun J hJ=>?_
         simp [go_sem,wpayS_at c b os ⟨hF,hO,hlen⟩,hp,wkH]
         refine hJ _ _ _ ?_
         clear hJ J
        refine oC_ fun J hJ=>?_
        clear hJ
        simp [go_sem,wpayS_at c b os ⟨hF,hO,hlen⟩,hp,wkH]
        refine fQ_ [((1,0),some (1,0))] ?_
        simp [go_sem,Tryz.f96,wkH,hr]
       ·
        have hr:doW b os c=.ok (b2,os2,l2,r2):=by unfold doW; rw [if_neg c4,if_neg c7,if_neg c11,if_neg c13,if_neg c15,if_pos c17,hp]
        refine aR_ ?_
        iterate 3
         refine oC_ fun J hJ=>?_
         simp [go_sem,wpayS_at c b os ⟨hF,hO,hlen⟩,hp,wkH]
         refine hJ _ _ _ ?_
         clear hJ J
        refine oN_ ?_
        refine fQ_ [((1,0),some (1,0)),((2,0),some (0,1136))] ?_
        simp [go_sem,Tryz.f96,wkH,hr]
      ·
       simp [go_sem] at c17
       refine aQ_ ?_
       iterate 2
        refine oC_ fun J hJ=>?_
        simp [go_sem]
        refine hJ _ _ _ ?_
        clear hJ J
       refine oN_ ?_
       refine aC_ (t:=_) rfl (fun c19=>?_) (fun c19=>?_)
       ·
        simp [go_sem] at c19
        rcases hp:shipW b os c with e | ⟨b2,os2,l2,r2⟩
        ·
         have hr:doW b os c=.error e:=by unfold doW; rw [if_neg c4,if_neg c7,if_neg c11,if_neg c13,if_neg c15,if_neg c17,if_pos c19,hp]
         refine aR_ ?_
         iterate 2
          refine oC_ fun J hJ=>?_
          simp [go_sem,wshipS_at c b os ⟨hF,hO,hlen⟩,hp,wkH]
          refine hJ _ _ _ ?_
          clear hJ J
         refine oC_ fun J hJ=>?_
         clear hJ
         simp [go_sem,wshipS_at c b os ⟨hF,hO,hlen⟩,hp,wkH]
         refine fQ_ [((1,0),some (1,0))] ?_
         simp [go_sem,Tryz.f96,wkH,hr]
        ·
         have hr:doW b os c=.ok (b2,os2,l2,r2):=by unfold doW; rw [if_neg c4,if_neg c7,if_neg c11,if_neg c13,if_neg c15,if_neg c17,if_pos c19,hp]
         refine aR_ ?_
         iterate 3
          refine oC_ fun J hJ=>?_
          simp [go_sem,wshipS_at c b os ⟨hF,hO,hlen⟩,hp,wkH]
          refine hJ _ _ _ ?_
          clear hJ J
         refine oN_ ?_
         refine fQ_ [((1,0),some (1,0)),((2,0),some (0,1216))] ?_
         simp [go_sem,Tryz.f96,wkH,hr]
       ·
        simp [go_sem] at c19
        refine aQ_ ?_
        iterate 2
         refine oC_ fun J hJ=>?_
         simp [go_sem]
         refine hJ _ _ _ ?_
         clear hJ J
        refine oN_ ?_
        refine aC_ (t:=_) rfl (fun c21=>?_) (fun c21=>?_)
        ·
         simp [go_sem] at c21
         rcases hp:refundW b os c with e | ⟨b2,os2,l2,r2⟩
         ·
          have hr:doW b os c=.error e:=by unfold doW; rw [if_neg c4,if_neg c7,if_neg c11,if_neg c13,if_neg c15,if_neg c17,if_neg c19,if_pos c21,hp]
          refine aR_ ?_
          iterate 2
           refine oC_ fun J hJ=>?_
           simp [go_sem,wrefundS_at c b os ⟨hF,hO,hlen⟩,hp,wkH]
           refine hJ _ _ _ ?_
           clear hJ J
          refine oC_ fun J hJ=>?_
          clear hJ
          simp [go_sem,wrefundS_at c b os ⟨hF,hO,hlen⟩,hp,wkH]
          refine fQ_ [((1,0),some (1,0))] ?_
          simp [go_sem,Tryz.f96,wkH,hr]
         ·
          have hr:doW b os c=.ok (b2,os2,l2,r2):=by unfold doW; rw [if_neg c4,if_neg c7,if_neg c11,if_neg c13,if_neg c15,if_neg c17,if_neg c19,if_pos c21,hp]
          refine aR_ ?_
          iterate 3
           refine oC_ fun J hJ=>?_
           simp [go_sem,wrefundS_at c b os ⟨hF,hO,hlen⟩,hp,wkH]
           refine hJ _ _ _ ?_
           clear hJ J
          refine oN_ ?_
          refine fQ_ [((1,0),some (1,0)),((2,0),some (0,1296))] ?_
          simp [go_sem,Tryz.f96,wkH,hr]
        ·
         simp [go_sem] at c21
         refine aQ_ ?_
         iterate 2
          refine oC_ fun J hJ=>?_
          simp [go_sem]
          refine hJ _ _ _ ?_
          clear hJ J
         refine oN_ ?_
         refine aC_ (t:=_) rfl (fun c23=>?_) (fun c23=>?_)
         ·
          simp [go_sem] at c23
          rcases hb:priceB b c.a c.n with e | d
          ·
           have hr:doW b os c=.error e:=by unfold doW; rw [if_neg c4,if_neg c7,if_neg c11,if_neg c13,if_neg c15,if_neg c17,if_neg c19,if_neg c21,if_pos c23,hb]
           refine awp_drawL 12 rfl rfl ?_
           simp only [List.take_succ_cons,List.take_zero]
           iterate 12
            refine oC_ fun J hJ=>?_
            simp [go_sem,sPriceS_at b os c.a c.n,hb,bkH,must0_fz (priceB_ne hb)]
            refine hJ _ _ _ ?_
            clear hJ J
           refine oN_ ?_
           refine ⟨rfl,?_⟩
           simp [go_sem,sPriceS_at b os c.a c.n,hb,bkH,must0_fz (priceB_ne hb)]
           refine fQ_ [((1,0),some (1,0))] ?_
           simp [go_sem,Tryz.f96,wkH,hr]
          ·
           have hr:doW b os c=.ok (d,os,[],zId):=by unfold doW; rw [if_neg c4,if_neg c7,if_neg c11,if_neg c13,if_neg c15,if_neg c17,if_neg c19,if_neg c21,if_pos c23,hb]
           refine aD_ ?_
           iterate 13
            refine oC_ fun J hJ=>?_
            simp [go_sem,sPriceS_at b os c.a c.n,hb,bkH,must0_t]
            refine hJ _ _ _ ?_
            clear hJ J
           refine oN_ ?_
           refine ⟨rfl,?_⟩
           refine fQ_ [((1,0),some (1,0)),((2,0),none)] ?_
           simp [go_sem,Tryz.f96,wkH,hr]
         ·
          simp [go_sem] at c23
          have hr:doW b os c=.error 12:=by unfold doW; rw [if_neg c4,if_neg c7,if_neg c11,if_neg c13,if_neg c15,if_neg c17,if_neg c19,if_neg c21,if_neg c23]
          refine aR_ ?_
          iterate 2
           refine oC_ fun J hJ=>?_
           simp [go_sem]
           refine hJ _ _ _ ?_
           clear hJ J
          refine oC_ fun J hJ=>?_
          clear hJ
          simp [go_sem]
          refine fQ_ [((1,0),some (1,0))] ?_
          simp [go_sem,Tryz.f96,wkH,hr]
structure ownBX where
 b:Bk
 os:List Ord
 os':AV
 h_os:SlA 7 cOrd os os'
 hL:os.length<=100000
noncomputable def ownBS:HSpec:=mkH (ι:=ownBX) (fun ⟨b,os,os',h_os,hL⟩=>([.agg (cBk b os')],[])) fun ⟨b,os,os',h_os,hL⟩=>⟨.agg (cBk b (.sl 7 (rows cOrd os))),[],[]⟩
theorem ownBS_atG (b:Bk) (os:List Ord) (os':AV) (h_os:SlA 7 cOrd os os') (hL:os.length<=100000):ownBS [.agg (cBk b os')] []=some (⟨.agg (cBk b (.sl 7 (rows cOrd os))),[],[]⟩):=
 mA_ (ι:=ownBX) (fun i j h=>by obtain ⟨b,os,os',h_os,hL⟩:=i; obtain ⟨b2,os2,os'2,h_os2,hL2⟩:=j; simp [and_assoc,qB_,qI_,qO_,qC_,qE_,qK_,qR_,qV_,qP_,qOc_] at h; obtain ⟨rfl,rfl⟩:=h; obtain rfl:=SlA.inj (fun x y h=>cOrd_inj h) h_os h_os2; rfl) ⟨b,os,os',h_os,hL⟩
theorem ownBS_at (b:Bk) (os:List Ord) (hL:os.length<=100000):ownBS [.agg (cBk b (.sl 7 (rows cOrd os)))] []=some (⟨.agg (cBk b (.sl 7 (rows cOrd os))),[],[]⟩):=ownBS_atG b os _ .sl hL
theorem ownB_ok:HSound Tryz.prog 94 ownBS:=by
 refine sE_ (fn:=Tryz.f94) rfl rfl (by kernel_rfl) fun args bx hr hS=>?_
 obtain ⟨⟨b,os,os',h_os,hL⟩,rfl,rfl,rfl⟩:=mO_ hS
 clear hS
 refine ⟨_,(eV_ (g:=66) (by kernel_rfl) cloneOrd_ok (eN_ _)),by simp [Tryz.f94],by simp [go_sem],fun w Mx pin=>?_⟩
 simp only [hB_at,lab_nil,lab_cons,hOf_nil,hOf_cons]
 refine aW_ (s':=⟨ofL [(0,.agg (cBk b (.sl 7 (rows cOrd os))))],hOf []⟩) ?_ ?_
 · cases h_os <;> exact wO_ [] (by simp [go_sem]) (by simp [go_sem]) (by simp [go_sem])
 clear h_os
 refine aQ_ ?_
 iterate 2
  refine oC_ fun J hJ=>?_
  simp [go_sem]
  refine hJ _ _ _ ?_
  clear hJ J
 refine oN_ ?_
 refine aQ_ ?_
 iterate 5
  refine oC_ fun J hJ=>?_
  simp [go_sem,cloneOrdS_at os hL]
  refine hJ _ _ _ ?_
  clear hJ J
 refine oN_ ?_
 refine aQ_ ?_
 iterate 2
  refine oC_ fun J hJ=>?_
  simp [go_sem]
  refine hJ _ _ _ ?_
  clear hJ J
 refine oN_ ?_
 refine aE_ ?_
 refine fQ_ [] ?_
 simp [go_sem,Tryz.f94]
 try rw [List.take_of_length_le (Nat.le_refl _)]
structure do1N where
 b:Bk
 os:List Ord
 d:Bk
 ps:List Ord
 l:List Eff
structure do1E where
 b:Bk
 os:List Ord
 e:Int
 hL:os.length<=100000
noncomputable def do1S:Option AV->HSpec
 | none=>mkH (ι:=do1N) (fun ⟨b,os,d,ps,l⟩=>([.ref (1,0) 0,.ref (1,1) 0,.ref (1,2) 0],[.obj (cBk b (.sl 7 (rows cOrd os))),.obj (cBk d (.sl 7 (rows cOrd ps))),.obj (cOc ⟨0,l⟩)])) fun ⟨b,os,d,ps,l⟩=>⟨.tup [],[.obj (cBk b (.sl 7 (rows cOrd os))),.obj (cBk d (.sl 7 (rows cOrd ps))),.obj (cOc ⟨0,l⟩)],[]⟩
 | some q=>mkH (ι:={ x:do1E // q=.ifc 136 (.agg [.int .i64 x.e]) }) (fun ⟨⟨b,os,e,_⟩,_⟩=>([.ref (1,0) 0,.ref (1,1) 0,.ref (1,2) 0],[.obj (cBk b (.sl 7 (rows cOrd os))),.obj (cBk zBk .nils),.obj [.int .i64 0,.nils]])) fun ⟨⟨b,os,e,_⟩,_⟩=>⟨.tup [],[.obj (cBk b (.sl 7 (rows cOrd os))),.obj (cBk b (.sl 7 (rows cOrd os))),.obj (cOc ⟨e,[]⟩)],[]⟩
theorem do1S_n (b:Bk) (os:List Ord) (d:Bk) (ps:List Ord) (l:List Eff):do1S none [.ref (1,0) 0,.ref (1,1) 0,.ref (1,2) 0] [.obj (cBk b (.sl 7 (rows cOrd os))),.obj (cBk d (.sl 7 (rows cOrd ps))),.obj (cOc ⟨0,l⟩)]=some ⟨.tup [],[.obj (cBk b (.sl 7 (rows cOrd os))),.obj (cBk d (.sl 7 (rows cOrd ps))),.obj (cOc ⟨0,l⟩)],[]⟩:=
 mA_ (ι:=(do1N)) (A:=fun ⟨b,os,d,ps,l⟩=>([.ref (1,0) 0,.ref (1,1) 0,.ref (1,2) 0],[.obj (cBk b (.sl 7 (rows cOrd os))),.obj (cBk d (.sl 7 (rows cOrd ps))),.obj (cOc ⟨0,l⟩)])) (R:=fun ⟨b,os,d,ps,l⟩=>⟨.tup [],[.obj (cBk b (.sl 7 (rows cOrd os))),.obj (cBk d (.sl 7 (rows cOrd ps))),.obj (cOc ⟨0,l⟩)],[]⟩) (fun i j h=>by
  obtain ⟨b,os,d,ps,l⟩:=i
  obtain ⟨b2,os2,d2,ps2,l2⟩:=j
  simp only [Prod.mk.injEq,List.cons.injEq,Box.obj.injEq,true_and,and_true] at h
  simp only [h]) ⟨b,os,d,ps,l⟩
theorem do1S_e (b:Bk) (os:List Ord) (e:Int) (hL:os.length<=100000):do1S (some (.ifc 136 (.agg [.int .i64 e]))) [.ref (1,0) 0,.ref (1,1) 0,.ref (1,2) 0] [.obj (cBk b (.sl 7 (rows cOrd os))),.obj (cBk zBk .nils),.obj [.int .i64 0,.nils]]=some ⟨.tup [],[.obj (cBk b (.sl 7 (rows cOrd os))),.obj (cBk b (.sl 7 (rows cOrd os))),.obj (cOc ⟨e,[]⟩)],[]⟩:=
 mA_ (ι:={ x:do1E // (.ifc 136 (.agg [.int .i64 e]):AV)=.ifc 136 (.agg [.int .i64 x.e]) }) (A:=fun ⟨⟨b,os,e,_⟩,_⟩=>([.ref (1,0) 0,.ref (1,1) 0,.ref (1,2) 0],[.obj (cBk b (.sl 7 (rows cOrd os))),.obj (cBk zBk .nils),.obj [.int .i64 0,.nils]])) (R:=fun ⟨⟨b,os,e,_⟩,_⟩=>⟨.tup [],[.obj (cBk b (.sl 7 (rows cOrd os))),.obj (cBk b (.sl 7 (rows cOrd os))),.obj (cOc ⟨e,[]⟩)],[]⟩) (fun i j h=>by
  obtain ⟨⟨b,os,e1,_⟩,h1⟩:=i
  obtain ⟨⟨b2,os2,e2,_⟩,h2⟩:=j
  simp only [AV.ifc.injEq,AV.agg.injEq,List.cons.injEq,AV.int.injEq,true_and,and_true] at h1 h2
  subst h1
  subst h2
  simp only [Prod.mk.injEq,List.cons.injEq,Box.obj.injEq,true_and,and_true] at h
  simp only [h]) ⟨⟨b,os,e,hL⟩,rfl⟩
theorem ifc_desc:(Tryz.prog).underlying 20=some (.interface (Tryz.prog.methodsAt 20)):=by kernel_rfl
theorem eq_held (u:TypeId) (x:Value) (w:World):(Op.equal 20 (.iface u x) .nilIface).run Tryz.prog w=.ok false w:=by
 have h:∀ d:Nat,(Op.equalIn (d + 1) 20 (.iface u x) .nilIface).run Tryz.prog w=.ok false w:=fun d=>by simp [Op.equalIn,run_underlying ifc_desc]
 exact h 9999
theorem eq_nilnil (w:World):(Op.equal 20 .nilIface .nilIface).run Tryz.prog w=.ok true w:=by
 have h:∀ d:Nat,(Op.equalIn (d + 1) 20 .nilIface .nilIface).run Tryz.prog w=.ok true w:=fun d=>by simp [Op.equalIn,run_underlying ifc_desc]
 exact h 9999
theorem do1_ok:DSound Tryz.prog 95 do1S:=by
 refine sound_ofD (fn:=Tryz.f95) rfl rfl rfl rfl (by decide) (by decide) fun p args bx hr hS=>?_
 cases p with
 | none=>
  simp only [do1S] at hS
  obtain ⟨⟨b,os,d,ps,l⟩,rfl,rfl,rfl⟩:=mO_ hS
  refine ⟨by simp [Tryz.f95],by simp [go_sem],by simp,fun w Mx pin=>?_⟩
  simp only [hB_at,lab_nil,lab_cons,hOf_nil,hOf_cons,Option.getD_none]
  refine awpQ_val (l1:=[_]) (l2:=[]) (eN_ _) rfl rfl rfl (by intro t ht; cases ht; show _ < Tryz.f95.ntmps; decide) ?_
  refine oC_ fun J hJ=>?_
  simp [go_sem]
  refine hJ _ _ _ ?_
  clear hJ J
  refine oN_ ?_
  refine ⟨.bool false,fun μ a w hR=>⟨.bool false,?_,.bool _ _⟩,?_⟩
  ·
   have h7:Rep _ _ _ _ .nili (a.tmps.getD 7 undef):=hR.ht 7
   generalize hx:a.tmps.getD 7 undef=x at h7
   cases h7
   have he:a.eval (.tmp 7)=.nilIface:=hx
   have h0:a.eval (.const .nilIface)=.nilIface:=rfl
   generalize a.eval=ρ at he h0 ⊢
   simp [execOp,he,h0,eq_nilnil,eqGuard,binOp,Sem.run_bind,Sem.run_pure,Result.andThen_ok,go_sem]
  refine oN_ ?_
  refine awpQ_cond (t:=false) (by simp [go_sem]) (fun h=>by cases h) fun _=>?_
  exact awpQ_skip ⟨[((1,0),some (1,0)),((1,1),some (1,1)),((1,2),some (1,2))],by simp [go_sem,Tryz.f95]⟩
 | some q=>
  simp only [do1S] at hS
  obtain ⟨⟨⟨b,os,e,hL⟩,rfl⟩,rfl,rfl,rfl⟩:=mO_ hS
  refine ⟨by simp [Tryz.f95],by simp [go_sem],by simp,fun w Mx pin=>?_⟩
  simp only [hB_at,lab_nil,lab_cons,hOf_nil,hOf_cons,Option.getD_some]
  refine awpQ_val (l1:=[_]) (l2:=[]) (eN_ _) rfl rfl rfl (by intro t ht; cases ht; show _ < Tryz.f95.ntmps; decide) ?_
  refine oC_ fun J hJ=>?_
  simp [go_sem]
  refine hJ _ _ _ ?_
  clear hJ J
  refine oN_ ?_
  refine ⟨.bool true,fun μ a w hR=>⟨.bool true,?_,.bool _ _⟩,?_⟩
  ·
   have h7:Rep _ _ _ _ (.ifc 136 (.agg [.int .i64 e])) (a.tmps.getD 7 undef):=hR.ht 7
   generalize hx:a.tmps.getD 7 undef=x at h7
   cases h7 with
   | ifc _ _ _ y hy=>
    have he:a.eval (.tmp 7)=.iface 136 y:=hx
    have h0:a.eval (.const .nilIface)=.nilIface:=rfl
    generalize a.eval=ρ at he h0 ⊢
    simp [execOp,he,h0,eq_held,eqGuard,binOp,Sem.run_bind,Sem.run_pure,Result.andThen_ok,go_sem]
  refine oN_ ?_
  refine awpQ_cond (t:=true) (by simp [go_sem]) (fun _=>?_) (fun h=>by cases h)
  refine awpQ_val (env:=[(94,Con.v ownBS)]) (l1:=[_]) (l2:=[_,_,_,_,_,_]) (eV_ (g:=94) (by kernel_rfl) ownB_ok (eN_ _)) rfl rfl rfl (by intro t ht; cases ht; show _ < Tryz.f95.ntmps; decide) ?_
  refine oC_ fun J hJ=>?_
  simp [go_sem]
  refine hJ _ _ _ ?_
  clear hJ J
  refine oN_ ?_
  refine ⟨.tup [.agg [.int .i64 e],.bool true],fun μ a w hR=>?_,?_⟩
  ·
   have h10:Rep _ _ _ _ (.ifc 136 (.agg [.int .i64 e])) (a.tmps.getD 10 undef):=hR.ht 10
   generalize hx:a.tmps.getD 10 undef=x at h10
   cases h10 with
   | ifc _ _ _ y hy=>
    refine ⟨.tuple #[y,.bool true],?_,?_⟩
    ·
     have he:a.eval (.tmp 10)=.iface 136 y:=hx
     generalize a.eval=ρ at he ⊢
     simp [execOp,he,Instr.typeAssert,Sem.run_bind,Sem.run_pure,Result.andThen_ok,go_sem]
    ·
     exact .tup _ _ _ (fun i=>if i=0 then y else .bool true) rfl (fun i hi=>by match i,hi with | 0,_=>rfl | 1,_=>rfl) (fun i c hc=>by
      match i with
      | 0=>simp at hc; subst hc; exact hy
      | 1=>simp at hc; subst hc; exact .bool _ _
      | n + 2=>simp at hc)
  iterate 6
   refine oC_ fun J hJ=>?_
   simp [go_sem]
   refine hJ _ _ _ ?_
   clear hJ J
  refine oN_ ?_
  refine awpQ_end (by simp) (eV_ (g:=94) (by kernel_rfl) ownB_ok (eN_ _)) (by kernel_rfl) ?_
  refine aS_ fun K5 hK5=>?_
  refine aQ_ ?_
  iterate 2
   refine oC_ fun J hJ=>?_
   simp [go_sem]
   refine hJ _ _ _ ?_
   clear hJ J
  refine oN_ ?_
  refine aF_ rfl ?_
  refine aK_ ?_
  refine hK5 _ ?_
  clear hK5
  refine aD_ ?_
  iterate 7
   refine oC_ fun J hJ=>?_
   simp [go_sem,ownBS_at b os hL]
   refine hJ _ _ _ ?_
   clear hJ J
  refine oN_ ?_
  refine ⟨rfl,?_⟩
  exact ⟨[((1,0),some (1,0)),((1,1),some (1,1)),((1,2),some (1,2))],by simp [go_sem,Tryz.f95]; simp [go_sem,cOc]⟩
def doH (b:Bk) (os:List Ord) (c:Chg):HR:=match doW b os c with
 | .ok (d,ps,l,_)=>⟨.tup [.agg (cBk d (.sl 7 (rows cOrd ps))),.agg (cOc ⟨0,l⟩)],[],[]⟩
 | .error e=>⟨.tup [.agg (cBk b (.sl 7 (rows cOrd os))),.agg (cOc ⟨e,[]⟩)],[],[]⟩
theorem doH_up (b:Bk) (os:List Ord) (c:Chg):(doH b os c).up=[]:=by unfold doH; split <;> rfl
theorem doH_ok {b:Bk} {os:List Ord} {c:Chg} {d:Bk} {ps:List Ord} {l:List Eff} {r:Id} (h:doW b os c=.ok (d,ps,l,r)):doH b os c=⟨.tup [.agg (cBk d (.sl 7 (rows cOrd ps))),.agg (cOc ⟨0,l⟩)],[],[]⟩:=by unfold doH; rw [h]
theorem doH_err {b:Bk} {os:List Ord} {c:Chg} {e:Int} (h:doW b os c=.error e):doH b os c=⟨.tup [.agg (cBk b (.sl 7 (rows cOrd os))),.agg (cOc ⟨e,[]⟩)],[],[]⟩:=by unfold doH; rw [h]
theorem rep_err {w:World} {M M':Nat->Prop} {μ μ':Lay} {H H':Heap} {t:TypeId} {k:IntKind} {e:Int} {x:Value} (h:Rep w M μ H (.ifc t (.agg [.int k e])) x):Rep w M' μ' H' (.ifc t (.agg [.int k e])) x:=by
 cases h with
 | ifc _ _ _ y hy=>
  cases hy with
  | agg _ _ vs f hs hv hr=>
   refine .ifc _ _ _ _ (.agg _ _ _ f hs hv fun i c hc=>?_)
   have h1:=hr i c hc
   match i with
   | 0=>
    simp only [List.getElem?_cons_zero,Option.some.injEq] at hc
    subst hc
    generalize f 0=z at h1
    cases h1
    exact .int _ _ _
   | n + 1=>simp at hc
theorem After.three {H H':Heap} {b0 b1 b2:Bid} {u0 u1 u2:Box} {N:Nat} {f:AV->AV} (h0:H' b0=some (renB f u0)) (h1:H' b1=some (renB f u1)) (h2:H' b2=some (renB f u2)) (he:∀ b,b ≠ b0->b ≠ b1->b ≠ b2->H' b=H b):After H [b0,b1,b2] (0,N) [u0,u1,u2] [] f H':=by
 refine ⟨fun i b x hb hx=>?_,fun j x hx=>by simp at hx,fun b hb _=>he b (fun e=>hb (by simp [e])) (fun e=>hb (by simp [e])) (fun e=>hb (by simp [e]))⟩
 match i with
 | 0=>simp at hb hx; subst hb; subst hx; exact h0
 | 1=>simp at hb hx; subst hb; subst hx; exact h1
 | 2=>simp at hb hx; subst hb; subst hx; exact h2
 | n + 3=>simp at hb
structure do16X where
 b:Bk
 os:List Ord
 os':AV
 c:Chg
 h_os:SlA 7 cOrd os os'
 hL:FairB b/\FairO os/\os.length<=40000
noncomputable def do16S:HSpec:=mkH (ι:=do16X) (fun ⟨b,os,os',c,h_os,hL⟩=>([.agg (cBk b os'),.agg (cChg c)],[])) fun ⟨b,os,os',c,h_os,hL⟩=>doH b os c
theorem do16S_atG (b:Bk) (os:List Ord) (os':AV) (c:Chg) (h_os:SlA 7 cOrd os os') (hL:FairB b/\FairO os/\os.length<=40000):do16S [.agg (cBk b os'),.agg (cChg c)] []=some (doH b os c):=
 mA_ (ι:=do16X) (fun i j h=>by obtain ⟨b,os,os',c,h_os,hL⟩:=i; obtain ⟨b2,os2,os'2,c2,h_os2,hL2⟩:=j; simp [and_assoc,qB_,qI_,qO_,qC_,qE_,qK_,qR_,qV_,qP_,qOc_] at h; obtain ⟨rfl,rfl,rfl⟩:=h; obtain rfl:=SlA.inj (fun x y h=>cOrd_inj h) h_os h_os2; rfl) ⟨b,os,os',c,h_os,hL⟩
theorem do16S_at (b:Bk) (os:List Ord) (c:Chg) (hL:FairB b/\FairO os/\os.length<=40000):do16S [.agg (cBk b (.sl 7 (rows cOrd os))),.agg (cChg c)] []=some (doH b os c):=do16S_atG b os _ c .sl hL
def doQ (Γ:Ctx) (b:Bk) (os:List Ord) (c:Chg):X->St->Prop
 | .ret,s=>∃ d ps l r,doW b os c=.ok (d,ps,l,r)/\Weak Γ ⟨ofL [(4,.ref (1,1) 0),(5,.ref (1,2) 0)],hOf [((1,0),.obj (cBk b (.sl 7 (rows cOrd os)))),((1,1),.obj (cBk d (.sl 7 (rows cOrd ps)))),((1,2),.obj (cOc ⟨0,l⟩))]⟩ s
 | .pan v,s=>∃ e,doW b os c=.error e/\v=(.ifc 136 (.agg [.int .i64 e]))/\Weak Γ ⟨ofL [(4,.ref (1,1) 0),(5,.ref (1,2) 0)],hOf [((1,0),.obj (cBk b (.sl 7 (rows cOrd os)))),((1,1),.obj (cBk zBk .nils)),((1,2),.obj [.int .i64 0,.nils])]⟩ s
 | _,_=>False
theorem do16_ok:HSound Tryz.prog 88 do16S:=by
 refine sound_ofQ (fn:=Tryz.f88) rfl rfl fun args bx hr hS=>?_
 obtain ⟨⟨b,os,os',c,h_os,hL⟩,rfl,rfl,rfl⟩:=mO_ hS
 clear hS
 obtain ⟨hF,hO,hlen⟩:=hL
 refine ⟨by simp [Tryz.f88],by simp only [doH_up]; trivial,fun w Mx pin hpin0=>?_⟩
 have hpin:∀ i,pin i=none:=fun i=>hpin0 i (by simp)
 clear hpin0
 simp only [hB_at,lab_nil,lab_cons,hOf_nil,hOf_cons]
 refine awpQ_weak (s':=⟨ofL [(0,.agg (cBk b (.sl 7 (rows cOrd os)))),(1,.agg (cChg c))],hOf []⟩) ?_ ?_
 · cases h_os <;> exact wO_ [] (by simp [go_sem]) (by simp [go_sem]) (by simp [go_sem])
 clear h_os
 have henv:=(eV_ (g:=94) (by kernel_rfl) ownB_ok (eH_ (g:=96) (by kernel_rfl) wdo_ok (eN_ _)))
 refine awpQ_seq henv (by kernel_rfl) fun K1 hK1=>?_
 refine aR_ ?_
 iterate 4
  refine oC_ fun J hJ=>?_
  simp [go_sem]
  refine hJ _ _ _ ?_
  clear hJ J
 refine oN_ ?_
 refine hK1 _ ?_
 clear hK1 K1
 refine awpQ_seq henv (by kernel_rfl) fun K2 hK2=>?_
 refine aR_ ?_
 iterate 5
  refine oC_ fun J hJ=>?_
  simp [go_sem,ownBS_at b os (by omega)]
  refine hJ _ _ _ ?_
  clear hJ J
 refine oN_ ?_
 refine hK2 _ ?_
 clear hK2 K2
 refine awpQ_defer rfl rfl rfl henv rfl rfl rfl hpin ?_
 refine oC_ fun J hJ=>?_
 simp [go_sem]
 refine hJ _ _ _ ?_
 clear hJ J
 refine oN_ ?_
 refine ⟨95,3,[(3,.ref (0,48) 0),(4,.ref (1,1) 0),(5,.ref (1,2) 0),(6,.ref (0,160) 0)],[((1,0),.obj (cBk b (.sl 7 (rows cOrd os)))),((1,1),.obj (cBk zBk .nils)),((1,2),.obj [.int .i64 0,.nils]),((0,48),.obj (cChg c)),((0,160),.obj (cWk b (.sl 7 (rows cOrd os)) .nils zId))],
  [((1,0),some (0,32)),((1,1),some (0,64)),((1,2),some (0,80)),((0,48),some (0,48)),((0,160),some (0,160))],by simp [go_sem,capL],by simp [renIn],by simp [go_sem],by simp [go_sem],by simp [go_sem,liveR],fun pin2 caps hcaps hfresh=>?_⟩
 refine awpQ_of (Q:=doQ ⟨Tryz.prog,w,Mx,Tryz.f88.ntmps,pin2,[⟨.fn (.func 95) caps,#[]⟩],false⟩ b os c) henv (by kernel_rfl) ?_ ?_
 ·
  refine aS_ fun K4 hK4=>?_
  rcases hd:doW b os c with e | ⟨d,ps,l,r⟩
  ·
   refine aR_ ?_
   iterate 2
    refine oC_ fun J hJ=>?_
    simp [go_sem,wdoS_at c b os ⟨hF,hO,hlen⟩,hd,wkH]
    refine hJ _ _ _ ?_
    clear hJ J
   refine oC_ fun J hJ=>?_
   clear hJ
   simp [go_sem,wdoS_at c b os ⟨hF,hO,hlen⟩,hd,wkH]
   exact ⟨e,hd,rfl,wO_ [((1,0),some (1,0)),((1,1),some (1,1)),((1,2),some (1,2))] (by simp [go_sem]) (by simp [go_sem]) (by simp [go_sem])⟩
  ·
   refine aR_ ?_
   iterate 3
    refine oC_ fun J hJ=>?_
    simp [go_sem,wdoS_at c b os ⟨hF,hO,hlen⟩,hd,wkH]
    refine hJ _ _ _ ?_
    clear hJ J
   refine oN_ ?_
   refine hK4 _ ?_
   clear hK4
   refine aU_ ?_
   iterate 11
    refine oC_ fun J hJ=>?_
    simp [go_sem]
    refine hJ _ _ _ ?_
    clear hJ J
   refine oN_ ?_
   refine ⟨rfl,?_⟩
   refine aE_ ?_
   exact ⟨d,ps,l,r,hd,wO_ [((1,0),some (1,0)),((1,1),some (1,1)),((1,2),some (1,2))] (by simp [go_sem]) (by simp [go_sem]) (by simp [go_sem,cOc])⟩
 intro s μ a w1 hR
 have fin:(∃ d ps l r,doW b os c=.ok (d,ps,l,r)/\Weak ⟨Tryz.prog,w,Mx,Tryz.f88.ntmps,pin2,[⟨.fn (.func 95) caps,#[]⟩],false⟩ ⟨ofL [(4,.ref (1,1) 0),(5,.ref (1,2) 0)],hOf [((1,0),.obj (cBk b (.sl 7 (rows cOrd os)))),((1,1),.obj (cBk d (.sl 7 (rows cOrd ps)))),((1,2),.obj (cOc ⟨0,l⟩))]⟩ s)->LeavesInM Fence.wide 0 Tryz.prog Tryz.f88 a.tmps (HPost Tryz.prog w Mx pin (doH b os c)) a.defers .returning w1:=by
  rintro ⟨d,ps,l,r,hd,hw⟩
  obtain ⟨μ',hR'⟩:=hw μ a w1 hR
  rw [doH_ok hd]
  refine defer_end (p:=none) (S:=do1S) (hrC:=⟨.tup [],[.obj (cBk b (.sl 7 (rows cOrd os))),.obj (cBk d (.sl 7 (rows cOrd ps))),.obj (cOc ⟨0,l⟩)],[]⟩) (H2:=hOf [((1,0),.obj (cBk b (.sl 7 (rows cOrd os)))),((1,1),.obj (cBk d (.sl 7 (rows cOrd ps)))),((1,2),.obj (cOc ⟨0,l⟩))]) (N0:=0) (ρ:=[]) (by kernel_rfl) do1_ok hR' hcaps hfresh hpin rfl ?_ (.inl ⟨rfl,rfl⟩) ?_ ?_ ?_
  ·
   intro j hj
   match j,hj with
   | 0,_=>exact ⟨_,rfl⟩
   | 1,_=>exact ⟨_,rfl⟩
   | 2,_=>exact ⟨_,rfl⟩
  ·
   have:=do1S_n b os d ps l
   simpa [capL,capB,boxC,go_sem] using this
  · exact After.three (by simp [go_sem]) (by simp [go_sem]) (by simp [go_sem]) fun b' h0 h1 h2=>rfl
  · simp [go_sem,Tryz.f88]
 refine ⟨fun hq=>hq.elim,fun hq=>fin hq,fun i hq=>hq.elim,fun v x hx hq=>?_⟩
 obtain ⟨e,hd,rfl,hw⟩:=hq
 obtain ⟨μ',hR'⟩:=hw μ a w1 hR
 rw [doH_err hd]
 refine defer_end (p:=some (told (hOf [((1,0),.obj (cBk b (.sl 7 (rows cOrd os)))),((1,1),.obj (cBk zBk .nils)),((1,2),.obj [.int .i64 0,.nils])]) (capB 0 3) 5 (.ifc 136 (.agg [.int .i64 e])))) (S:=do1S) (hrC:=⟨.tup [],[.obj (cBk b (.sl 7 (rows cOrd os))),.obj (cBk b (.sl 7 (rows cOrd os))),.obj (cOc ⟨e,[]⟩)],[]⟩) (H2:=hOf [((1,0),.obj (cBk b (.sl 7 (rows cOrd os)))),((1,1),.obj (cBk b (.sl 7 (rows cOrd os)))),((1,2),.obj (cOc ⟨e,[]⟩))]) (N0:=0) (ρ:=[]) (by kernel_rfl) do1_ok hR' hcaps hfresh hpin rfl ?_ (.inr ⟨_,x,rfl,rfl,rep_err hx⟩) ?_ ?_ ?_
 ·
  intro j hj
  match j,hj with
  | 0,_=>exact ⟨_,rfl⟩
  | 1,_=>exact ⟨_,rfl⟩
  | 2,_=>exact ⟨_,rfl⟩
 ·
  have:=do1S_e b os e (by omega)
  simpa [capL,capB,boxC,go_sem] using this
 ·
  refine After.three (by simp [go_sem]) (by simp [go_sem]) (by simp [go_sem]) fun b' h0 h1 h2=>?_
  simp [hOf,hput,h0,h1,h2]
 · simp [go_sem,Tryz.f88]
theorem ex_Op:∀ l:List Int,l.length=12->∃ x:Op,AI l=cOp x
 | [k,a,b,c,d,e,f,g,h,i,j,m],_=>⟨⟨k,⟨⟨a,b⟩,c,d,e,f,g,⟨h,i⟩⟩,⟨j,m⟩⟩,rfl⟩
theorem ex_rows {α:Type} {k:Nat} {c:α->List AV} (h:∀ l:List Int,l.length=k->∃ x,AI l=c x):∀ {L:List (List Int)},(∀ l ∈ L,l.length=k)->∃ os:List α,RI L=rows c os/\os.length=L.length
 | [],_=>⟨[],rfl,rfl⟩
 | l :: L,hL=>by
  obtain ⟨x,hx⟩:=h l (hL l (by simp))
  obtain ⟨os,h1,h2⟩:=ex_rows (L:=L) h fun l' hl=>hL l' (List.mem_cons_of_mem _ hl)
  refine ⟨x :: os,?_,by simp [h2]⟩
  show AI l :: RI L=c x :: rows c os
  rw [hx,h1]
theorem slk_rows {α:Type} {k:Nat} {c:α->List AV} (hc:∀ l:List Int,l.length=k->∃ x,AI l=c x) {w:World} {a:Option Addr} {L:List (List Int)} {cap:Nat} (h:SlK w.heap.size k w a L) (h1:L.length<=cap) (h2:cap<=maxLen) :
  ∃ os:List α,os.length=L.length/\Rep w (fun _=>False) noLay noH (.sl k (rows c os)) (.slice a L.length cap):=by
 obtain ⟨os,e1,e2⟩:=ex_rows hc (fun l hl=>(h.1 l hl).1)
 exact ⟨os,e2,e1 ▸ slk_rep h h1 h2⟩
theorem true_walk {P:Program} {f:FuncId} {S:HSpec} (h:HSound P f S) {args:List AV} (hS:S args []=some ⟨.bool true,[],[]⟩) (w:World) {vals:Array Value} (hsz:vals.size=args.length) (hv:∀ i v,args[i]?=some v->Rep w (fun _=>False) noLay noH v (vals.getD i undef)) :
  Calls P f vals w fun e w'=>e=.returned (.bool true)/\Below w.heap.size w w':=by
 obtain ⟨_,h2⟩:=h args [] _ hS
 refine (h2 w (fun _=>False) (fun _=>none) vals noLay ⟨⟨fun g hg=>hg.elim,fun b x hx=>(by cases hx),fun b b' x x' g c c' hx=>(by cases hx),fun b x g c hx=>(by cases hx),BelowX.refl _ _ _,fun i x hx=>(by cases hx)⟩,hsz,fun i v hi=>?_,by simp⟩ (fun _ _=>rfl)).mono fun e w' he=>?_
 · exact (hv i v hi).mono (fun g _ hg=>⟨(fun hh=>hh.elim hg fun ⟨b,x,c,hx,_⟩=>by cases hx),rfl⟩) (HLe.refl _) (fun b hb=>absurd rfl hb)
 ·
  obtain ⟨μ',hm,hpost⟩:=he
  rcases hpost with ⟨p,x,q1,_⟩ | ⟨_,v,rfl,q3⟩
  · cases q1
  ·
   cases q3
   exact ⟨rfl,hm.hw.below fun _=>no_io⟩
end Go.Proofs.YtjoaigccapegpaaGreat.AE
