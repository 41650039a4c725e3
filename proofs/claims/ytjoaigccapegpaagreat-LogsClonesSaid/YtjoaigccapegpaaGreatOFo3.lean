/-
 Package fold: what is told lies in new memory. Conditions: none; every contract names its own.
-/
import Derived.Test.YtjoaigccapegpaaGreatPj
import Derived.Test.YtjoaigccapegpaaGreatOAEn
import Derived.Test.YtjoaigccapegpaaGreatOLgp
set_option linter.constructorNameAsVariable false
namespace Go.Proofs.YtjoaigccapegpaaGreat.AE
open Go Go.Proofs Go.RowKit
set_option linter.unusedVariables false
set_option linter.unusedSimpArgs false
set_option maxRecDepth 100000
set_option maxHeartbeats 4000000
theorem awp_freshE {P:Program} {w:World} {Mx:Nat->Prop} {n:Nat} {pin:Nat->Option (Nat × Nat)} {df:List Deferred} {lp:Bool} {env:Env} {c:Code} {Q:X->St->Prop} {s:St} (ht:∀ i,mf (s.t i)=true) (hH:∀ b x,s.H b=some x->mfB x=true)
  (h:∀ (M2:Nat->Prop) (Q2:X->St->Prop),(∀ x s2 s',(∀ v,x ≠ .pan v)->Pt12 ⟨P,w,Mx,n,pin,df,lp⟩ s2 s'->Q x s'->Q2 x s2)->awp ⟨P,w,M2,n,pin,df,lp⟩ env c Q2 s):awp ⟨P,w,Mx,n,pin,df,lp⟩ env c Q s:=
 awp_fresh ht hH (h _ _ fun x s2 s' h1 h2 h3=>⟨h1,s',h2,h3⟩)
theorem mfL_of:∀ {l:List (Nat × AV)},(l.all fun p=>mf p.2)=true->∀ i,mf (ofL l i)=true
 | [],_,i=>rfl
 | (d,v) :: l,h,i=>by
  simp only [List.all_cons,Bool.and_eq_true] at h
  simp only [ofL,fput]
  split
  · exact h.1
  · exact mfL_of h.2 i
theorem mfH_of:∀ {l:List (Bid × Box)},(l.all fun p=>mfB p.2)=true->∀ b x,hOf l b=some x->mfB x=true
 | [],_,b,x,hb=>by cases hb
 | (d,v) :: l,h,b,x,hb=>by
  simp only [List.all_cons,Bool.and_eq_true] at h
  simp only [hOf,hput] at hb
  split at hb
  · cases hb; exact h.1
  · exact mfH_of h.2 b x hb
theorem AI_mf (l:List Int):(AI l).all mf0=true:=by simp [AI,List.all_map,mf0,Function.comp_def]
theorem mf_cBk (b:Bk) (o:AV):(cBk b o).all mf0=mf0 o:=by simp only [cBk,cV,List.all_append,AI_mf,List.all_cons,List.all_nil,Bool.true_and,Bool.and_true]
theorem mf_rowsO (os:List Ord):((rows cOrd os).all fun xs=>xs.all mf0)=true:=rows_all _ _ fun x=>rfl
theorem mf_rowsC (os:List Chg):((rows cChg os).all fun xs=>xs.all mf0)=true:=rows_all _ _ fun x=>rfl
theorem int_rowsC (os:List Chg):((rows cChg os).all fun xs=>xs.all intB)=true:=rows_all _ _ fun x=>rfl
theorem AI_int (l:List Int):(AI l).all intB=true:=by simp [AI,List.all_map,intB,Function.comp_def]
def ptV (b:Bid) (os:List Ord):AV:=if os=[] then .sl 7 [] else .pt b 7 os.length
def ptB (os:List Ord):Box:=if os=[] then .dead else .obj []
theorem pt12_bk {Γ:Ctx} {s2:St} {B:Bk} {os:List Ord} {L:List Chg} (hpin:∀ i,1<=i->Γ.pin i=none) (ht:s2.t 4=.ref (0,64) 0) (h4:s2.H (0,64)=some (.obj (cBk B (.sl 7 (rows cOrd os))))) (h1:s2.H (1,0)=some (.row 35 9 (rows cChg L) false)) :
  Pt12 Γ s2 ⟨ofL [(4,.ref (0,64) 0)],hOf [((0,64),.obj (cBk B (ptV (0,9998) os))),((0,9998),ptB os),((1,0),.row 35 9 (rows cChg L) false)]⟩:=by
 cases os with
 | nil=>
  refine pt12_weak (s3:=⟨ofL [(4,.ref (0,64) 0)],hOf [((0,64),.obj (cBk B (ptV (0,9998) []))),((0,9998),ptB []),((1,0),.row 35 9 (rows cChg L) false)]⟩) ?_ (pt12_mf (mfL_of (by simp [mf,mf0])) (mfH_of (by simp [ptV,ptB,mfB,mf0,mf_cBk,mf_rowsC])))
  refine wO_ [((0,64),some (0,64)),((1,0),some (1,0))] (by simp [go_sem]) ?_ ?_ <;> simp [go_sem,ht,h4,h1,ptV,ptB]
 | cons x r=>
  have h:=pt12_of (Γ:=Γ) (s2:=s2) hpin (i4:=4) (b4:=(0,64)) (bn:=(0,9998)) (pre:=cV B.st++cV B.pr++cV B.pu) (k:=7) (x:=cOrd x) (L:=rows cOrd r) (R:=rows cChg L) (e:=35) (sz:=9) (by decide) rfl rfl (by simp) ht h4 h1 (by simp only [cV,List.all_append,AI_int,Bool.and_self]) (int_rowsC L)
  rw [rows_len] at h
  have e1:ptV (0,9998) (x :: r)=.pt (0,9998) 7 (r.length + 1):=if_neg (by simp)
  have e2:ptB (x :: r)=.obj []:=if_neg (by simp)
  rw [e1,e2]
  exact h
structure stepsHX where
 b:Bk
 os:List Ord
 os':AV
 L:List Chg
 h_os:SlA 7 cOrd os os'
noncomputable def stepsHS:HSpec:=mkH (ι:=stepsHX) (fun ⟨b,os,os',L,h_os⟩=>([.agg (cBk b os'),.own (1,0) L.length],[.row 35 9 (rows cChg L) false])) fun ⟨b,os,os',L,h_os⟩=>⟨.fn 87 [.ref (2,0) 0,.ref (2,1) 0],[.row 35 9 (rows cChg L) false],[.obj [.own (1,0) L.length],.obj (cBk b (.sl 7 (rows cOrd os)))]⟩
theorem stepsHS_atG (b:Bk) (os:List Ord) (os':AV) (L:List Chg) (h_os:SlA 7 cOrd os os'):stepsHS [.agg (cBk b os'),.own (1,0) L.length] [.row 35 9 (rows cChg L) false]=some (⟨.fn 87 [.ref (2,0) 0,.ref (2,1) 0],[.row 35 9 (rows cChg L) false],[.obj [.own (1,0) L.length],.obj (cBk b (.sl 7 (rows cOrd os)))]⟩):=
 mA_ (ι:=stepsHX) (fun i j h=>by obtain ⟨b,os,os',L,h_os⟩:=i; obtain ⟨b2,os2,os'2,L2,h_os2⟩:=j; simp [and_assoc,qB_,qI_,qO_,qC_,qE_,qK_,qR_,qV_,qP_,qOc_,rows_iff_Chg] at h; obtain ⟨rfl,rfl,_,rfl⟩:=h; obtain rfl:=SlA.inj (fun x y h=>cOrd_inj h) h_os h_os2; rfl) ⟨b,os,os',L,h_os⟩
theorem stepsHS_at (b:Bk) (os:List Ord) (L:List Chg):stepsHS [.agg (cBk b (.sl 7 (rows cOrd os))),.own (1,0) L.length] [.row 35 9 (rows cChg L) false]=some (⟨.fn 87 [.ref (2,0) 0,.ref (2,1) 0],[.row 35 9 (rows cChg L) false],[.obj [.own (1,0) L.length],.obj (cBk b (.sl 7 (rows cOrd os)))]⟩):=stepsHS_atG b os _ L .sl
theorem stepsH_ok:HSound Tryz.prog 67 stepsHS:=by
 refine sE_ (fn:=Tryz.f67) rfl rfl (by kernel_rfl) fun args bx hr hS=>?_
 obtain ⟨⟨b,os,os',L,h_os⟩,rfl,rfl,rfl⟩:=mO_ hS
 clear hS
 refine ⟨_,(eN_ _),by simp [Tryz.f67],by simp [go_sem],fun w Mx pin=>?_⟩
 simp only [hB_at,lab_nil,lab_cons,hOf_nil,hOf_cons]
 refine aW_ (s':=⟨ofL [(0,.agg (cBk b (.sl 7 (rows cOrd os)))),(1,.own (1,0) L.length)],hOf [((1,0),.row 35 9 (rows cChg L) false)]⟩) ?_ ?_
 · cases h_os <;> exact wO_ [((1,0),some (1,0))] (by simp [go_sem]) (by simp [go_sem]) (by simp [go_sem])
 clear h_os
 refine aQ_ ?_
 iterate 3
  refine oC_ fun J hJ=>?_
  simp [go_sem]
  refine hJ _ _ _ ?_
 refine oN_ ?_
 refine aQ_ ?_
 iterate 2
  refine oC_ fun J hJ=>?_
  simp [go_sem]
  refine hJ _ _ _ ?_
 refine oN_ ?_
 refine aE_ ?_
 refine fQ_ [((1,0),some (1,0)),((2,0),some (0,48)),((2,1),some (0,32))] ?_
 simp [go_sem,Tryz.f67]
def foldHH (p:Bk × List Ord) (L:List Chg):HR:=⟨.tup [],[.obj [.own (1,4) L.length],.obj (cBk (bkL p L).1 (.sl 7 (rows cOrd (bkL p L).2))),.obj [.own (2,0) L.length],.obj (cBk (bkL p L).1 (.sl 7 (rows cOrd (bkL p L).2))),.row 35 9 (rows cChg L) false],[.row 50 2 (rows cOc (ouL p L)) false]⟩
def foldJ (l:Nat) (p:Bk × List Ord) (L pre _post:List Chg):St:=⟨fput (ofL [(2,.ref (1,1) 0),(7,.own (1,4) L.length),(8,.int .i64 L.length),(9,.int .i64 pre.length)]) 0 (.yl l),hOf [((1,0),.obj [.own (1,4) L.length]),((1,1),.obj (cBk (bkL p pre).1 (.sl 7 (rows cOrd (bkL p pre).2)))),((1,2),.obj [.own (0,999) pre.length]),((1,3),.obj (cBk (bkL p pre).1 (.sl 7 (rows cOrd (bkL p pre).2)))),((0,999),.row 50 2 (rows cOc (ouL p pre)) false),((1,4),.row 35 9 (rows cChg L) false)]⟩
theorem steps_iterH (p:Bk × List Ord) (L:List Chg) (hp:FairP p) (hL:p.2.length + L.length<=30000):IterSound Tryz.prog 87 [.ref (1,0) 0,.ref (1,1) 0] foldYS [.obj [.own (1,4) L.length],.obj (cBk p.1 (.sl 7 (rows cOrd p.2))),.obj [.nils],.obj (cBk p.1 (.sl 7 (rows cOrd p.2))),.row 35 9 (rows cChg L) false] (foldHH p L) 2 3:=by
 refine ⟨by simp [foldHH,go_sem],by simp [foldHH],fun l r0 p0 p1 w Mx pin vals μ hY hA hl0 hn hp0 hp1=>?_⟩
 refine calls_ofH (fn:=Tryz.f87) rfl rfl (by kernel_rfl) (eH_ (g:=88) (by kernel_rfl) do16_ok (eN_ _)) (by simp [Tryz.f87]) hA ?_
 simp only [hB_at,lab_nil,lab_cons,hOf_nil,hOf_cons]
 have hL1:L.length<=100000:=by omega
 refine aQ_ ?_
 iterate 3
  refine oC_ fun J hJ=>?_
  simp [go_sem]
  refine hJ _ _ _ ?_
 refine oN_ ?_
 refine aB_ ?_
 refine aL_ (ι:={ q:List Chg × List Chg // q.1++q.2=L/\True }) (fun q=>foldJ l p L q.1.1 q.1.2) (fun q=>q.1.2.length) ⟨([],L),rfl,trivial⟩ ?_ ?_
 ·
  refine weak_yl (by simp [go_sem]) ?_
  refine wO_ [((1,0),some (1,0)),((1,1),some (1,1)),((1,2),some (1,2)),((1,3),some (1,3)),((1,4),some (1,4)),((0,999),none)] (by simp [go_sem]) ?_ ?_ <;> simp [go_sem]
 intro ⟨⟨pre,post⟩,hl,hgo⟩
 simp only at hl hgo
 have hpl:=lS_ hl hL1
 simp only [foldJ]
 refine aQ_ ?_
 iterate 1
  refine oC_ fun J hJ=>?_
  simp [go_sem]
  refine hJ _ _ _ ?_
 refine oN_ ?_
 refine aS_ fun K3 hK3=>?_
 refine aC_ (t:=_) rfl (fun c4=>?_) (fun c4=>?_)
 ·
  simp [go_sem] at c4
  have hlt:=c4
  obtain ⟨x,post,rfl,hx⟩:=mL_ hl c4
  refine aK_ ?_
  refine hK3 _ ?_
  refine aS_ fun K5 hK5=>?_
  refine aB_ ?_
  refine aQ_ ?_
  refine oC_ fun J hJ=>?_
  simp [go_sem,hlt]
  refine hJ _ _ _ ?_
  refine oC_ fun J hJ=>?_
  simp [go_sem,↓hx]
  refine hJ _ _ _ ?_
  refine oC_ fun J hJ=>?_
  simp [go_sem]
  refine hJ _ _ _ ?_
  refine oC_ fun J hJ=>?_
  simp [go_sem]
  refine hJ _ _ _ ?_
  refine oN_ ?_
  refine aQ_ ?_
  iterate 1
   refine oC_ fun J hJ=>?_
   simp [go_sem]
   refine hJ _ _ _ ?_
  refine oN_ ?_
  refine aS_ fun K8 hK8=>?_
  obtain ⟨hfp,hlp⟩:=bkL_fair hp pre
  have hpre:pre.length<=L.length:=by rw [<-hl]; simp
  refine aR_ ?_
  iterate 8
   refine oC_ fun J hJ=>?_
   simp [go_sem,do16S_at (bkL p pre).1 (bkL p pre).2 x ⟨hfp.1,hfp.2,by omega⟩,doH_eq]
   refine hJ _ _ _ ?_
  refine oN_ ?_
  refine hK8 _ ?_
  refine aS_ fun K9 hK9=>?_
  refine awp_yield (pre:=[_,_,_]) (post:=[_]) (bs:=[(1,2),(1,3),(0,999)]) (j0:=2) (j1:=3) hY hl0 hn hp0 hp1 rfl rfl (by kernel_rfl) ?_
  iterate 3
   refine oC_ fun J hJ=>?_
   simp [go_sem]
   refine hJ _ _ _ ?_
  refine oN_ ?_
  refine ⟨by simp [go_sem],?_⟩
  refine yieldK_of (H1:=?hh) (hr:=foldYR ⟨ocB (bkL p pre) x,(stB (bkL p pre) x).1,(stB (bkL p pre) x).2,ouL p pre,(bkL p pre).1,(bkL p pre).2,by rw [ouL_len]; omega⟩) ⟨by simp,by intro b hb; simp at hb; rcases hb with rfl | rfl | rfl <;> exact ⟨_,rfl,rfl⟩⟩ ?hS ?h1 ?hK
  case hS=>
   rw [<-foldYS_at]
   simp [go_sem,boxC]
  case h1=>
   simp [go_sem,foldYR]
   rfl
  simp only [foldYR,List.map_cons,List.map_nil,List.zip_cons_cons,List.zip_nil_right,renB,go_sem]
  refine oC_ fun J hJ=>?_
  simp [go_sem]
  refine hJ _ _ _ ?_
  refine oN_ ?_
  refine hK9 _ ?_
  refine aF_ rfl ?_
  refine aK_ ?_
  refine hK5 _ ?_
  refine aR_ ?_
  iterate 2
   refine oC_ fun J hJ=>?_
   simp [go_sem]
   refine hJ _ _ _ ?_
  refine oN_ ?_
  refine ⟨⟨(pre++[x],post),by simp [<-hl],by exact trivial⟩,?_,by simp⟩
  refine weak_yl (by simp [go_sem]) ?_
  refine wO_ [((1,0),some (1,0)),((1,1),some (1,1)),((1,2),some (1,2)),((1,3),some (1,3)),((1,4),some (1,4)),((0,999),some (0,352))] (by simp [go_sem]) ?_ ?_ <;> simp [go_sem,wN_ hpl,bkL_snoc,ouL_snoc]
 ·
  simp [go_sem] at c4
  obtain ⟨rfl,rfl⟩:=mN_ hl c4
  refine aX_ ?_
  simp only [go_sem]
  refine fQ_ [((1,0),some (1,0)),((1,1),some (1,1)),((1,2),some (1,2)),((1,3),some (1,3)),((1,4),some (1,4)),((2,0),some (0,999))] ?_
  simp [go_sem,Tryz.f87,foldHH]
structure runHX where
 b:Bk
 os:List Ord
 os':AV
 L:List Chg
 h_os:SlA 7 cOrd os os'
 hL:FairB b/\FairO os/\os.length + L.length<=30000
noncomputable def runHS:HSpec:=mkH (ι:=runHX) (fun ⟨b,os,os',L,h_os,hL⟩=>([.agg (cBk b os'),.own (1,0) L.length],[.row 35 9 (rows cChg L) false])) fun ⟨b,os,os',L,h_os,hL⟩=>⟨.tup [.agg (cBk (bkL (b,os) L).1 (ptV (2,0) (bkL (b,os) L).2)),.u],[.row 35 9 (rows cChg L) false],[ptB (bkL (b,os) L).2]⟩
theorem runHS_atG (b:Bk) (os:List Ord) (os':AV) (L:List Chg) (h_os:SlA 7 cOrd os os') (hL:FairB b/\FairO os/\os.length + L.length<=30000):runHS [.agg (cBk b os'),.own (1,0) L.length] [.row 35 9 (rows cChg L) false]=some (⟨.tup [.agg (cBk (bkL (b,os) L).1 (ptV (2,0) (bkL (b,os) L).2)),.u],[.row 35 9 (rows cChg L) false],[ptB (bkL (b,os) L).2]⟩):=
 mA_ (ι:=runHX) (fun i j h=>by obtain ⟨b,os,os',L,h_os,hL⟩:=i; obtain ⟨b2,os2,os'2,L2,h_os2,hL2⟩:=j; simp [and_assoc,qB_,qI_,qO_,qC_,qE_,qK_,qR_,qV_,qP_,qOc_,rows_iff_Chg] at h; obtain ⟨rfl,rfl,_,rfl⟩:=h; obtain rfl:=SlA.inj (fun x y h=>cOrd_inj h) h_os h_os2; rfl) ⟨b,os,os',L,h_os,hL⟩
theorem runHS_at (b:Bk) (os:List Ord) (L:List Chg) (hL:FairB b/\FairO os/\os.length + L.length<=30000):runHS [.agg (cBk b (.sl 7 (rows cOrd os))),.own (1,0) L.length] [.row 35 9 (rows cChg L) false]=some (⟨.tup [.agg (cBk (bkL (b,os) L).1 (ptV (2,0) (bkL (b,os) L).2)),.u],[.row 35 9 (rows cChg L) false],[ptB (bkL (b,os) L).2]⟩):=runHS_atG b os _ L .sl hL
theorem runH_ok:HSound Tryz.prog 38 runHS:=by
 refine sound_ofEp (fn:=Tryz.f38) rfl rfl (by kernel_rfl) fun args bx hr hS=>?_
 obtain ⟨⟨b,os,os',L,h_os,hL⟩,rfl,rfl,rfl⟩:=mO_ hS
 clear hS
 refine ⟨_,(eV_ (g:=66) (by kernel_rfl) cloneOrd_ok (eH_ (g:=67) (by kernel_rfl) stepsH_ok (eN_ _))),by simp [Tryz.f38],by simp [go_sem],fun w Mx pin hpin=>?_⟩
 replace hpin:∀ i,1<=i->pin i=none:=hpin
 simp only [hB_at,lab_nil,lab_cons,hOf_nil,hOf_cons]
 refine aW_ (s':=⟨ofL [(0,.agg (cBk b (.sl 7 (rows cOrd os)))),(1,.own (1,0) L.length)],hOf [((1,0),.row 35 9 (rows cChg L) false)]⟩) ?_ ?_
 · cases h_os <;> exact wO_ [((1,0),some (1,0))] (by simp [go_sem]) (by simp [go_sem]) (by simp [go_sem])
 clear h_os
 obtain ⟨hF,hO,hlen⟩:=hL
 refine aQ_ ?_
 iterate 3
  refine oC_ fun J hJ=>?_
  simp [go_sem]
  refine hJ _ _ _ ?_
 refine oN_ ?_
 refine aQ_ ?_
 iterate 5
  refine oC_ fun J hJ=>?_
  simp [go_sem,cloneOrdS_at os (by omega)]
  refine hJ _ _ _ ?_
 refine oN_ ?_
 refine aQ_ ?_
 iterate 1
  refine oC_ fun J hJ=>?_
  simp [go_sem]
  refine hJ _ _ _ ?_
 refine oN_ ?_
 refine aW_ (s':=⟨ofL [(1,.own (1,0) L.length),(2,.ref (0,32) 0),(4,.ref (0,64) 0),(5,.nils),(6,.ref (0,96) 0)],hOf [((0,32),.obj (cBk b (.own (0,192) os.length))),((0,64),.obj (cBk zBk .nils)),((0,96),.obj [.nils]),((0,192),.row 61 7 (rows cOrd os) false),((1,0),.row 35 9 (rows cChg L) false)]⟩) ?_ ?_
 · refine wO_ [((0,32),some (0,32)),((0,64),some (0,64)),((0,96),some (0,96)),((0,192),some (0,192)),((1,0),some (1,0))] (by simp [go_sem]) ?_ ?_ <;> simp [go_sem]
 refine awp_freshE (mfL_of (by simp [mf,mf0])) (mfH_of (by simp [mfB,mf_cBk,mf0,mf_rowsO,mf_rowsC])) fun M2 Q2 hQ2=>?_
 refine aW_ (s':=⟨ofL [(1,.own (1,0) L.length),(2,.ref (0,32) 0),(4,.ref (0,64) 0),(5,.nils),(6,.ref (0,96) 0)],hOf [((0,32),.obj (cBk b (.sl 7 (rows cOrd os)))),((0,64),.obj (cBk zBk .nils)),((0,96),.obj [.nils]),((1,0),.row 35 9 (rows cChg L) false)]⟩) ?_ ?_
 · refine wO_ [((0,32),some (0,32)),((0,64),some (0,64)),((0,96),some (0,96)),((1,0),some (1,0))] (by simp [go_sem]) ?_ ?_ <;> simp [go_sem,dropped]
 refine aQ_ ?_
 iterate 3
  refine oC_ fun J hJ=>?_
  simp [go_sem]
  refine hJ _ _ _ ?_
 refine oN_ ?_
 refine aS_ fun K5 hK5=>?_
 refine aQ_ ?_
 iterate 3
  refine oC_ fun J hJ=>?_
  simp [go_sem,stepsHS_at b os L]
  refine hJ _ _ _ ?_
 refine oN_ ?_
 refine aB_ ?_
 refine awp_rangeE (H1:=?hh) (hr:=foldHH (b,os) L) (bs:=[(0,272),(0,273),(0,96),(0,112),(1,0)]) (b0:=(0,9999)) (to:=6) (tl:=7) (bo:=(0,96)) (bl:=(0,112)) (j0:=2) (j1:=3) rfl (by kernel_rfl) ⟨by simp,by intro b hb; simp at hb; rcases hb with rfl | rfl | rfl | rfl | rfl <;> exact ⟨_,rfl,rfl⟩⟩ (steps_iterH (b,os) L ⟨hF,hO⟩ hlen) ?hcaps ?hbx rfl rfl rfl rfl rfl ?h1 (by kernel_rfl) ?hS ?hend
 case hcaps=>simp [go_sem]
 case hbx=>simp [go_sem,boxC]
 case h1=>
  simp [go_sem,foldHH]
  rfl
 case hS=>
  intro args bx q hq
  obtain ⟨⟨x,d,ps,X,e,qs,hX⟩,h1,h2,h3⟩:=mO_ hq
  simp only [foldYA,foldYR] at h1 h2 h3
  subst h1 h2 h3
  refine ⟨by simp [go_sem],rfl,_,_,_,_,_,rfl,rfl,?_⟩
  rintro ⟨P1,W1,M1,n1,p1,d1,f1⟩ l1 hP1 hn1
  simp only at hP1 hn1
  subst hP1 hn1
  simp only [hB_at,lab_nil,lab_cons,hOf_nil,hOf_cons]
  refine awpR_seq fun K7 hK7=>?_
  refine awpR_region ?_
  iterate 2
   refine oC_ fun J hJ=>?_
   simp [go_sem]
   refine hJ _ _ _ ?_
  refine oN_ ?_
  refine hK7 _ ?_
  refine awpR_region ?_
  iterate 2
   refine oC_ fun J hJ=>?_
   simp [go_sem]
   refine hJ _ _ _ ?_
  refine oN_ ?_
  refine fun (Γ2:Ctx) hP2 hn2=>?_
  obtain ⟨P2,W2,M3,n2,p2,d2,f2⟩:=Γ2
  simp only at hP2 hn2
  subst hP2 hn2
  refine awpR_block ?_
  refine awpR_seq fun K8 hK8=>?_
  refine awpR_region ?_
  iterate 5
   refine oC_ fun J hJ=>?_
   simp [go_sem,show (X.length + 1) * 32<=140737488355328 by omega,show X.length + 1<=maxLen by (simp only [maxLen]; omega)]
   refine hJ _ _ _ ?_
  refine oN_ ?_
  refine hK8 _ ?_
  refine awpR_region ?_
  iterate 2
   refine oC_ fun J hJ=>?_
   simp [go_sem]
   refine hJ _ _ _ ?_
  refine oN_ ?_
  refine ⟨[((1,0),some (1,0)),((1,1),some (1,1)),((1,2),some (1,2)),((2,0),some (0,368))],by simp [go_sem],?_⟩
  simp [go_sem,rows_append]
 case hend=>
  simp only [foldHH,List.map_cons,List.map_nil,List.zip_cons_cons,List.zip_nil_right,renB,go_sem]
  refine hK5 _ ?_
  refine aU_ ?_
  iterate 4
   refine oC_ fun J hJ=>?_
   simp [go_sem]
   refine hJ _ _ _ ?_
  refine oN_ ?_
  refine ⟨rfl,?_⟩
  refine aE_ ?_
  refine hQ2 _ _ _ (by simp) (pt12_bk (fun i hi=>hpin i hi) (B:=(bkL (b,os) L).1) (os:=(bkL (b,os) L).2) (L:=L) (by simp [go_sem]) (by simp [go_sem]) (by simp [go_sem])) ?_
  refine fQ_ [((1,0),some (1,0)),((2,0),some (0,9998))] ?_
  by_cases hz:(bkL (b,os) L).2=[] <;> simp [go_sem,Tryz.f38,ptV,ptB,hz]
end Go.Proofs.YtjoaigccapegpaaGreat.AE
