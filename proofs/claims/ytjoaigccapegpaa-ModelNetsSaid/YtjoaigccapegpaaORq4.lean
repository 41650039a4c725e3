/-
 What is expected: contracts. Conditions: none; every contract names its own.
-/
import Derived.Test.YtjoaigccapegpaaORq3
set_option linter.constructorNameAsVariable false
namespace Go.Proofs.Ytjoaigccapegpaa.AE
open Go Go.Proofs Go.RowKit
set_option linter.unusedVariables false
set_option linter.unusedSimpArgs false
set_option maxRecDepth 100000
set_option maxHeartbeats 4000000
theorem expA_len:∀ (cs:List Chg) (os:List Outc),(∀ x ∈ os,x.effs.length<=4)->(expA cs os).length<=8 * os.length
 | [],_,_=>by simp [expA]
 | _ :: _,[],_=>by simp [expA]
 | c :: cs,x :: os,h=>by
  have h1:=expA_len cs os fun y hy=>h y (by simp [hy])
  have h2:=h x (by simp)
  have h3:=wantE_len x true
  simp only [expA,List.length_append,reqW_len,List.length_cons]
  omega
def expP (L:List Chg) (pre:List Outc):List Req:=expA (L.take pre.length) pre
theorem expP_snoc {L:List Chg} {pre:List Outc} {c:Chg} {x:Outc} (hc:L[pre.length]?=some c):expP L (pre++[x])=expP L pre++reqW c.id (wantE x true) 0:=by
 have hl:=(List.getElem?_eq_some_iff.1 hc).1
 unfold expP
 rw [List.length_append,List.length_singleton,List.take_add_one,hc]
 exact expA_snoc c x (by simp; omega)
theorem expP_all {L:List Chg} {os:List Outc} (h:L.length=os.length):expP L os=expA L os:=by rw [expP,<-h,List.take_length]
theorem expP_len {L:List Chg} {os pre post:List Outc} (h:pre++post=os) (he:∀ x ∈ os,x.effs.length<=4):(expP L pre).length<=8 * os.length:=by
 have:=expA_len (L.take pre.length) pre fun x hx=>he x (by rw [<-h]; simp [hx])
 have h2:pre.length<=os.length:=by rw [<-h]; simp
 unfold expP
 omega
theorem expP_nil (L:List Chg):expP L []=[]:=by cases L <;> rfl
theorem req_fold (a:Id) (n:Int) (e:Eff):cReq { key:={ id:=a,ord:=n,undo:=zKey.undo },what:=e }=cReq ⟨⟨a,n,false⟩,e⟩:=rfl
theorem reqW_snoc0 (a:Id) (w:List Eff) (e:Eff):reqW a (w++[e]) 0=reqW a w 0++[⟨⟨a,(w.length:Int) + 1,false⟩,e⟩]:=by
 rw [reqW_snoc,Nat.zero_add]
def wsO (os:List Outc):List (List Eff):=os.map fun x=>wantE x true
theorem wsO_get {os:List Outc} {n:Nat} {x:Outc} (h:os[n]?=some x):(wsO os)[n]?=some (wantE x true):=by simp [wsO,h]
theorem wsO_len (os:List Outc):(wsO os).length=os.length:=by simp [wsO]
def expMI (L:List Chg) (os pre _post:List Outc):St:=⟨ofL [(0,.sl 9 (rows cChg L)),(3,.own (0,999) (expP L pre).length),(11,.sl 1 (rows cWs (wsO os))),(12,.int .i64 os.length),(13,.int .i64 pre.length)],hOf [((0,999),.row 65 9 (rows cReq (expP L pre)) false)]⟩
def expMJ (L:List Chg) (os:List Outc) (i:Nat) (O:List Req) (a:Id) (w pre _post:List Eff):St:=⟨ofL [(0,.sl 9 (rows cChg L)),(3,.own (0,999) (O.length + pre.length)),(4,.int .i64 i),(11,.sl 1 (rows cWs (wsO os))),(12,.int .i64 os.length),(13,.int .i64 i),(18,.sl 5 (rows cEff w)),(19,.int .i64 w.length),(20,.int .i64 pre.length)],hOf [((0,999),.row 65 9 (rows cReq (O++reqW a pre 0)) false)]⟩
def expRI (L:List Chg) (os pre _post:List Outc):St:=⟨ofL [(0,.sl 9 (rows cChg L)),(4,.sl 2 (rows cOc os)),(5,.sl 9 (rows cReq (ordL ordReq (expP L pre)))),(6,.int .i64 pre.length)],hOf []⟩
def expRJ (L:List Chg) (os:List Outc) (i:Nat) (O:List Req) (a:Id) (w pre _post:List Eff):St:=⟨ofL [(0,.sl 9 (rows cChg L)),(4,.sl 2 (rows cOc os)),(5,.sl 9 (rows cReq (ordL ordReq (O++reqW a pre 0)))),(6,.int .i64 i),(7,.sl 5 (rows cEff w)),(8,.int .i64 pre.length)],hOf []⟩
theorem runZR_at (L:List Chg) (h:L.length<=20000):runRS [.agg (cBk zBk .nils),.sl 9 (rows cChg L)] []=some ⟨.tup [.agg (cBk (bkL (zBk,[]) L).1 (.sl 7 (rows cOrd (bkL (zBk,[]) L).2))),.own (2,0) L.length],[],[.row 71 2 (rows cOc (ouL (zBk,[]) L)) false]⟩:=runRS_atG zBk [] .nils L _ .nil .sl ⟨fairZ.1,fairZ.2,by simp; omega⟩
structure expMX where
 L:List Chg
 L':AV
 h_L:SlA 9 cChg L L'
 hL:L.length<=5000
noncomputable def expMS:HSpec:=mkH (ι:=expMX) (fun ⟨L,L',h_L,hL⟩=>([L'],[])) fun ⟨L,L',h_L,hL⟩=>⟨.own (2,0) (expL L).length,[],[.row 65 9 (rows cReq (ordL ordReq (expL L))) false]⟩
theorem expMS_atG (L:List Chg) (L':AV) (h_L:SlA 9 cChg L L') (hL:L.length<=5000):expMS [L'] []=some (⟨.own (2,0) (expL L).length,[],[.row 65 9 (rows cReq (ordL ordReq (expL L))) false]⟩):=
 mA_ (ι:=expMX) (fun i j h=>by obtain ⟨L,L',h_L,hL⟩:=i; obtain ⟨L2,L'2,h_L2,hL2⟩:=j; simp [and_assoc,qB_,qI_,qO_,qC_,qE_,qK_,qR_,qV_,qP_,qOc_] at h; obtain rfl:=h; obtain rfl:=SlA.inj (fun x y h=>cChg_inj h) h_L h_L2; rfl) ⟨L,L',h_L,hL⟩
theorem expMS_at (L:List Chg) (hL:L.length<=5000):expMS [(.sl 9 (rows cChg L))] []=some (⟨.own (2,0) (expL L).length,[],[.row 65 9 (rows cReq (ordL ordReq (expL L))) false]⟩):=expMS_atG L _ .sl hL
theorem expM_ok:HSound Try.prog 20 expMS:=by
 refine sE_ (fn:=Try.f20) rfl rfl (by kernel_rfl) fun args bx hr hS=>?_
 obtain ⟨⟨L,L',h_L,hL⟩,rfl,rfl,rfl⟩:=mO_ hS
 clear hS
 refine ⟨_,(eV_ (g:=47) (by kernel_rfl) wantsF_ok (eH_ (g:=48) (by kernel_rfl) byKeys_ok (eN_ _))),by simp [Try.f20],by simp [go_sem],fun w Mx pin=>?_⟩
 simp only [hB_at,lab_nil,lab_cons,hOf_nil,hOf_cons]
 refine aW_ (s':=⟨ofL [(0,(.sl 9 (rows cChg L)))],hOf []⟩) ?_ ?_
 · cases h_L <;> exact wO_ [] (by simp [go_sem]) (by simp [go_sem]) (by simp [go_sem])
 clear h_L
 obtain ⟨os,hos⟩:∃ os,os=ouL (zBk,[]) L:=⟨_,rfl⟩
 have hol:os.length=L.length:=by rw [hos,ouL_len]
 have hef:∀ x ∈ os,x.effs.length<=4:=by rw [hos]; exact ouL_effs fairZ L
 have eos:os.length<=100000:=by omega
 have hwl0:wantsL L (L.length:Int)=wsO os:=by rw [wantsL_all,hos]; rfl
 have hts:List.take L.length (wsO os)=wsO os:=List.take_of_length_le (by rw [wsO_len]; omega)
 refine aQ_ ?_
 iterate 1
  refine oC_ fun J hJ=>?_
  simp [go_sem]
  refine hJ _ _ _ ?_
 refine oN_ ?_
 refine aQ_ ?_
 iterate 1
  refine oC_ fun J hJ=>?_
  simp [go_sem]
  refine hJ _ _ _ ?_
 refine oN_ ?_
 refine aS_ fun K3 hK3=>?_
 refine aQ_ ?_
 iterate 6
  refine oC_ fun J hJ=>?_
  simp [go_sem,wantsFS_at L L.length (by omega),hwl0,wsO_len,hol,hts]
  refine hJ _ _ _ ?_
 refine oN_ ?_
 refine aB_ ?_
 refine aL_ (ι:={ q:List Outc × List Outc // q.1++q.2=os/\True }) (fun q=>expMI L os q.1.1 q.1.2) (fun q=>q.1.2.length) ⟨([],os),rfl,trivial⟩ ?_ ?_
 · refine wO_ [((0,999),none)] (by simp [go_sem]) ?_ ?_ <;> simp [go_sem,expP_nil,hts,hol]
 intro ⟨⟨pre,post⟩,hl,hgo⟩
 simp only at hl hgo
 have hpl:=lS_ hl eos
 simp only [expMI]
 refine aQ_ ?_
 iterate 1
  refine oC_ fun J hJ=>?_
  simp [go_sem]
  refine hJ _ _ _ ?_
 refine oN_ ?_
 refine aS_ fun K6 hK6=>?_
 refine aC_ (t:=_) rfl (fun c7=>?_) (fun c7=>?_)
 ·
  simp [go_sem] at c7
  obtain ⟨x,post,rfl,hx⟩:=mL_ hl c7
  have hlt:pre.length < os.length:=(List.getElem?_eq_some_iff.1 hx).1
  obtain ⟨c,hc⟩:∃ c,L[pre.length]?=some c:=⟨_,List.getElem?_eq_getElem (by omega)⟩
  have hO8:=expP_len (L:=L) hl hef
  have hsn:=expP_snoc (x:=x) hc
  obtain ⟨O,hO⟩:∃ O,O=expP L pre:=⟨_,rfl⟩
  simp only [<-hO] at hO8 hsn ⊢
  have hW:=wsO_get hx
  obtain ⟨w,hw⟩:∃ w,w=wantE x true:=⟨_,rfl⟩
  rw [<-hw] at hsn hW
  have hwl:w.length<=8:=by have h1:=wantE_len x true; have h2:=hef x (List.mem_of_getElem? hx); rw [hw]; omega
  have ew:w.length<=100000:=by omega
  refine aK_ ?_
  refine hK6 _ ?_
  refine aS_ fun K8 hK8=>?_
  refine aB_ ?_
  refine aQ_ ?_
  iterate 5
   refine oC_ fun J hJ=>?_
   simp [go_sem,↓hW,hW,wsO_len,hol,hlt]
   refine hJ _ _ _ ?_
  refine oN_ ?_
  refine aQ_ ?_
  iterate 3
   refine oC_ fun J hJ=>?_
   simp [go_sem]
   refine hJ _ _ _ ?_
  refine oN_ ?_
  refine aB_ ?_
  refine aL_ (ι:={ q:List Eff × List Eff // q.1++q.2=w/\True }) (fun q=>expMJ L os pre.length O c.id w q.1.1 q.1.2) (fun q=>q.1.2.length) ⟨([],w),rfl,trivial⟩ ?_ ?_
  · refine wO_ [((0,999),some (0,999))] (by simp [go_sem]) ?_ ?_ <;> simp [go_sem,reqW,hol]
  intro ⟨⟨pre2,post2⟩,hl2,hgo2⟩
  simp only at hl2 hgo2
  have hpl2:=lS_ hl2 ew
  simp only [expMJ]
  refine aQ_ ?_
  iterate 1
   refine oC_ fun J hJ=>?_
   simp [go_sem]
   refine hJ _ _ _ ?_
  refine oN_ ?_
  refine aS_ fun K12 hK12=>?_
  refine aC_ (t:=_) rfl (fun c13=>?_) (fun c13=>?_)
  ·
   simp [go_sem] at c13
   obtain ⟨e,post2,rfl,hx2⟩:=mL_ hl2 c13
   have hlt2:pre2.length < w.length:=(List.getElem?_eq_some_iff.1 hx2).1
   have htO:List.take (O.length + pre2.length) (O++reqW c.id pre2 0)=O++reqW c.id pre2 0:=List.take_of_length_le (by simp [reqW_len])
   refine aK_ ?_
   refine hK12 _ ?_
   refine aS_ fun K14 hK14=>?_
   refine aB_ ?_
   refine aQ_ ?_
   iterate 6
    refine oC_ fun J hJ=>?_
    simp [go_sem,hx2]
    refine hJ _ _ _ ?_
   refine oN_ ?_
   refine aD_ ?_
   iterate 14
    refine oC_ fun J hJ=>?_
    simp [go_sem,↓hc,hc,wN_ hpl2,req_fold,htO,hol,reqW_len,show (O.length + pre2.length + 1) * 72<=140737488355328 by omega,show O.length + pre2.length + 1<=maxLen by (simp only [maxLen]; omega)]
    refine hJ _ _ _ ?_
   refine oN_ ?_
   refine ⟨rfl,?_⟩
   refine hK14 _ ?_
   refine aR_ ?_
   iterate 2
    refine oC_ fun J hJ=>?_
    simp [go_sem]
    refine hJ _ _ _ ?_
   refine oN_ ?_
   refine ⟨⟨(pre2++[e],post2),by simp [<-hl2],by exact trivial⟩,?_,by simp⟩
   refine wO_ [((0,999),some (0,592))] (by simp [go_sem]) ?_ ?_ <;> simp [go_sem,wN_ hpl2,reqW_snoc0,reqW_len,hol,Nat.add_assoc]
  ·
   simp [go_sem] at c13
   obtain ⟨rfl,rfl⟩:=mN_ hl2 c13
   refine aX_ ?_
   simp only [go_sem]
   refine hK8 _ ?_
   refine aR_ ?_
   iterate 2
    refine oC_ fun J hJ=>?_
    simp [go_sem]
    refine hJ _ _ _ ?_
   refine oN_ ?_
   refine ⟨⟨(pre++[x],post),by simp [<-hl],by exact trivial⟩,?_,by simp⟩
   refine wO_ [((0,999),some (0,999))] (by simp [go_sem]) ?_ ?_ <;> simp [go_sem,wN_ hpl,hsn,reqW_len,hol]
 ·
  simp [go_sem] at c7
  obtain ⟨rfl,rfl⟩:=mN_ hl c7
  have hO8:=expP_len (L:=L) hl hef
  have hall:expP L os=expL L:=by rw [expP_all hol.symm,hos]; rfl
  rw [hall] at hO8
  simp only [hall]
  refine aX_ ?_
  simp only [go_sem]
  refine hK3 _ ?_
  refine aQ_ ?_
  iterate 3
   refine oC_ fun J hJ=>?_
   simp [go_sem,byKeysS_at (expL L) (by omega)]
   refine hJ _ _ _ ?_
  refine oN_ ?_
  refine aE_ ?_
  refine fQ_ [((2,0),some (0,999))] ?_
  simp [go_sem,Try.f20,ordL_len]
structure expRX where
 L:List Chg
 L':AV
 h_L:SlA 9 cChg L L'
 hL:L.length<=5000
noncomputable def expRS:HSpec:=mkH (ι:=expRX) (fun ⟨L,L',h_L,hL⟩=>([L'],[])) fun ⟨L,L',h_L,hL⟩=>⟨.sl 9 (rows cReq (ordL ordReq (expL L))),[],[]⟩
theorem expRS_atG (L:List Chg) (L':AV) (h_L:SlA 9 cChg L L') (hL:L.length<=5000):expRS [L'] []=some (⟨.sl 9 (rows cReq (ordL ordReq (expL L))),[],[]⟩):=
 mA_ (ι:=expRX) (fun i j h=>by obtain ⟨L,L',h_L,hL⟩:=i; obtain ⟨L2,L'2,h_L2,hL2⟩:=j; simp [and_assoc,qB_,qI_,qO_,qC_,qE_,qK_,qR_,qV_,qP_,qOc_] at h; obtain rfl:=h; obtain rfl:=SlA.inj (fun x y h=>cChg_inj h) h_L h_L2; rfl) ⟨L,L',h_L,hL⟩
theorem expRS_at (L:List Chg) (hL:L.length<=5000):expRS [(.sl 9 (rows cChg L))] []=some (⟨.sl 9 (rows cReq (ordL ordReq (expL L))),[],[]⟩):=expRS_atG L _ .sl hL
theorem expR_ok:HSound Try.prog 21 expRS:=by
 refine sE_ (fn:=Try.f21) rfl rfl (by kernel_rfl) fun args bx hr hS=>?_
 obtain ⟨⟨L,L',h_L,hL⟩,rfl,rfl,rfl⟩:=mO_ hS
 clear hS
 refine ⟨_,(eV_ (g:=18) (by kernel_rfl) runR_ok (eH_ (g:=49) (by kernel_rfl) wantR_ok (eV_ (g:=50) (by kernel_rfl) rput_ok (eN_ _)))),by simp [Try.f21],by simp [go_sem],fun w Mx pin=>?_⟩
 simp only [hB_at,lab_nil,lab_cons,hOf_nil,hOf_cons]
 refine aW_ (s':=⟨ofL [(0,(.sl 9 (rows cChg L)))],hOf []⟩) ?_ ?_
 · cases h_L <;> exact wO_ [] (by simp [go_sem]) (by simp [go_sem]) (by simp [go_sem])
 clear h_L
 obtain ⟨os,hos⟩:∃ os,os=ouL (zBk,[]) L:=⟨_,rfl⟩
 have hol:os.length=L.length:=by rw [hos,ouL_len]
 have hef:∀ x ∈ os,x.effs.length<=4:=by rw [hos]; exact ouL_effs fairZ L
 have eos:os.length<=100000:=by omega
 have hru:=runZR_at L (by omega)
 rw [<-hos] at hru
 have hts:List.take L.length os=os:=List.take_of_length_le (by omega)
 refine aQ_ ?_
 iterate 1
  refine oC_ fun J hJ=>?_
  simp [go_sem]
  refine hJ _ _ _ ?_
 refine oN_ ?_
 refine aQ_ ?_
 iterate 9
  refine oC_ fun J hJ=>?_
  simp [go_sem,↓hru]
  refine hJ _ _ _ ?_
 refine oN_ ?_
 refine aQ_ ?_
 iterate 1
  refine oC_ fun J hJ=>?_
  simp [go_sem]
  refine hJ _ _ _ ?_
 refine oN_ ?_
 refine aS_ fun K4 hK4=>?_
 refine aQ_ ?_
 iterate 1
  refine oC_ fun J hJ=>?_
  simp [go_sem]
  refine hJ _ _ _ ?_
 refine oN_ ?_
 refine aB_ ?_
 refine aL_ (ι:={ q:List Outc × List Outc // q.1++q.2=os/\True }) (fun q=>expRI L os q.1.1 q.1.2) (fun q=>q.1.2.length) ⟨([],os),rfl,trivial⟩ ?_ ?_
 · refine wO_ [] (by simp [go_sem]) ?_ ?_ <;> simp [go_sem,expP_nil,ordL,hts]
 intro ⟨⟨pre,post⟩,hl,hgo⟩
 simp only at hl hgo
 have hpl:=lS_ hl eos
 simp only [expRI]
 refine aS_ fun K6 hK6=>?_
 refine aQ_ ?_
 iterate 4
  refine oC_ fun J hJ=>?_
  simp [go_sem,hol]
  refine hJ _ _ _ ?_
 refine oN_ ?_
 refine aC_ (t:=_) rfl (fun c8=>?_) (fun c8=>?_)
 ·
  simp [go_sem] at c8
  obtain ⟨x,post,rfl,hx⟩:=mL_ hl (by omega)
  have hlt:pre.length < os.length:=(List.getElem?_eq_some_iff.1 hx).1
  obtain ⟨c,hc⟩:∃ c,L[pre.length]?=some c:=⟨_,List.getElem?_eq_getElem (by omega)⟩
  have hO8:=expP_len (L:=L) hl hef
  have hsn:=expP_snoc (x:=x) hc
  obtain ⟨O,hO⟩:∃ O,O=expP L pre:=⟨_,rfl⟩
  simp only [<-hO] at hO8 hsn ⊢
  have hW:=wsO_get hx
  obtain ⟨w,hw⟩:∃ w,w=wantE x true:=⟨_,rfl⟩
  rw [<-hw] at hsn hW
  have hwl:w.length<=8:=by have h1:=wantE_len x true; have h2:=hef x (List.mem_of_getElem? hx); rw [hw]; omega
  have ew:w.length<=100000:=by omega
  refine aK_ ?_
  refine hK6 _ ?_
  refine aS_ fun K9 hK9=>?_
  refine aB_ ?_
  refine aQ_ ?_
  iterate 6
   refine oC_ fun J hJ=>?_
   simp [go_sem,↓hx,hx,hlt,hol,wantRS_at x true (by have:=hef x (List.mem_of_getElem? hx); omega),<-hw]
   refine hJ _ _ _ ?_
  refine oN_ ?_
  refine aQ_ ?_
  iterate 1
   refine oC_ fun J hJ=>?_
   simp [go_sem]
   refine hJ _ _ _ ?_
  refine oN_ ?_
  refine aB_ ?_
  refine aL_ (ι:={ q:List Eff × List Eff // q.1++q.2=w/\True }) (fun q=>expRJ L os pre.length O c.id w q.1.1 q.1.2) (fun q=>q.1.2.length) ⟨([],w),rfl,trivial⟩ ?_ ?_
  · refine wO_ [] (by simp [go_sem]) ?_ ?_ <;> simp [go_sem,reqW]
  intro ⟨⟨pre2,post2⟩,hl2,hgo2⟩
  simp only at hl2 hgo2
  have hpl2:=lS_ hl2 ew
  simp only [expRJ]
  refine aS_ fun K12 hK12=>?_
  refine aQ_ ?_
  iterate 4
   refine oC_ fun J hJ=>?_
   simp [go_sem]
   refine hJ _ _ _ ?_
  refine oN_ ?_
  refine aC_ (t:=_) rfl (fun c14=>?_) (fun c14=>?_)
  ·
   simp [go_sem] at c14
   obtain ⟨e,post2,rfl,hx2⟩:=mL_ hl2 c14
   have hlt2:pre2.length < w.length:=(List.getElem?_eq_some_iff.1 hx2).1
   obtain ⟨Q,hQ⟩:∃ Q,Q=O++reqW c.id pre2 0:=⟨_,rfl⟩
   have hQl:Q.length<=49000:=by rw [hQ]; simp [reqW_len]; omega
   have hp:=rputS_at (ordL ordReq Q) ⟨⟨c.id,(pre2.length:Int) + 1,false⟩,e⟩ (by rw [ordL_len]; omega)
   rw [ordL_snocR] at hp
   simp only [<-hQ]
   have htq:List.take (Q.length + 1) (ordL ordReq (Q++[⟨⟨c.id,(pre2.length:Int) + 1,false⟩,e⟩]))=ordL ordReq (Q++[⟨⟨c.id,(pre2.length:Int) + 1,false⟩,e⟩]):=List.take_of_length_le (by rw [ordL_len]; simp)
   have hsn2:O++(reqW c.id pre2 0++[⟨⟨c.id,(pre2.length:Int) + 1,false⟩,e⟩])=Q++[⟨⟨c.id,(pre2.length:Int) + 1,false⟩,e⟩]:=by rw [hQ,List.append_assoc]
   refine aK_ ?_
   refine hK12 _ ?_
   refine aS_ fun K15 hK15=>?_
   refine aB_ ?_
   refine aD_ ?_
   iterate 16
    refine oC_ fun J hJ=>?_
    simp [go_sem,↓hc,hc,hx2,wN_ hpl2,req_fold,↓hp]
    refine hJ _ _ _ ?_
   refine oN_ ?_
   refine ⟨rfl,?_⟩
   refine hK15 _ ?_
   refine aR_ ?_
   iterate 3
    refine oC_ fun J hJ=>?_
    simp [go_sem]
    refine hJ _ _ _ ?_
   refine oN_ ?_
   refine ⟨⟨(pre2++[e],post2),by simp [<-hl2],by exact trivial⟩,?_,by simp⟩
   refine wO_ [] (by simp [go_sem]) ?_ ?_ <;> simp [go_sem,wN_ hpl2,reqW_snoc0,hsn2,htq,ordL_len]
  ·
   simp [go_sem] at c14
   obtain ⟨rfl,rfl⟩:=mN_ hl2 c14
   refine aX_ ?_
   simp only [go_sem]
   refine hK9 _ ?_
   refine aR_ ?_
   iterate 3
    refine oC_ fun J hJ=>?_
    simp [go_sem]
    refine hJ _ _ _ ?_
   refine oN_ ?_
   refine ⟨⟨(pre++[x],post),by simp [<-hl],by exact trivial⟩,?_,by simp⟩
   refine wO_ [] (by simp [go_sem]) ?_ ?_ <;> simp [go_sem,wN_ hpl,hsn]
 ·
  simp [go_sem] at c8
  obtain ⟨rfl,rfl⟩:=mN_ hl (by omega)
  have hall:expP L os=expL L:=by rw [expP_all hol.symm,hos]; rfl
  simp only [hall]
  refine aX_ ?_
  simp only [go_sem]
  refine hK4 _ ?_
  refine aQ_ ?_
  iterate 2
   refine oC_ fun J hJ=>?_
   simp [go_sem]
   refine hJ _ _ _ ?_
  refine oN_ ?_
  refine aE_ ?_
  refine fQ_ [] ?_
  simp [go_sem,Try.f21]
structure bookMX where
 L:List Chg
 L':AV
 h_L:SlA 9 cChg L L'
 hL:L.length<=20000
noncomputable def bookMS:HSpec:=mkH (ι:=bookMX) (fun ⟨L,L',h_L,hL⟩=>([L'],[])) fun ⟨L,L',h_L,hL⟩=>⟨.agg (cBk (bkL (zBk,[]) L).1 (.sl 7 (rows cOrd (bkL (zBk,[]) L).2))),[],[]⟩
theorem bookMS_atG (L:List Chg) (L':AV) (h_L:SlA 9 cChg L L') (hL:L.length<=20000):bookMS [L'] []=some (⟨.agg (cBk (bkL (zBk,[]) L).1 (.sl 7 (rows cOrd (bkL (zBk,[]) L).2))),[],[]⟩):=
 mA_ (ι:=bookMX) (fun i j h=>by obtain ⟨L,L',h_L,hL⟩:=i; obtain ⟨L2,L'2,h_L2,hL2⟩:=j; simp [and_assoc,qB_,qI_,qO_,qC_,qE_,qK_,qR_,qV_,qP_,qOc_] at h; obtain rfl:=h; obtain rfl:=SlA.inj (fun x y h=>cChg_inj h) h_L h_L2; rfl) ⟨L,L',h_L,hL⟩
theorem bookMS_at (L:List Chg) (hL:L.length<=20000):bookMS [(.sl 9 (rows cChg L))] []=some (⟨.agg (cBk (bkL (zBk,[]) L).1 (.sl 7 (rows cOrd (bkL (zBk,[]) L).2))),[],[]⟩):=bookMS_atG L _ .sl hL
theorem bookM_ok:HSound Try.prog 25 bookMS:=by
 refine sE_ (fn:=Try.f25) rfl rfl (by kernel_rfl) fun args bx hr hS=>?_
 obtain ⟨⟨L,L',h_L,hL⟩,rfl,rfl,rfl⟩:=mO_ hS
 clear hS
 refine ⟨_,(eV_ (g:=54) (by kernel_rfl) lastF_ok (eN_ _)),by simp [Try.f25],by simp [go_sem],fun w Mx pin=>?_⟩
 simp only [hB_at,lab_nil,lab_cons,hOf_nil,hOf_cons]
 refine aW_ (s':=⟨ofL [(0,(.sl 9 (rows cChg L)))],hOf []⟩) ?_ ?_
 · cases h_L <;> exact wO_ [] (by simp [go_sem]) (by simp [go_sem]) (by simp [go_sem])
 clear h_L
 refine aQ_ ?_
 iterate 1
  refine oC_ fun J hJ=>?_
  simp [go_sem]
  refine hJ _ _ _ ?_
 refine oN_ ?_
 refine aQ_ ?_
 iterate 4
  refine oC_ fun J hJ=>?_
  simp [go_sem,lastFS_atG zBk [] .nils L _ .nil .sl ⟨fairZ.1,fairZ.2,by simp; omega⟩]
  refine hJ _ _ _ ?_
 refine oN_ ?_
 refine aE_ ?_
 refine fQ_ [] ?_
 simp [go_sem,Try.f25]
structure few34X where
 a:List Req
 a':AV
 L:List Chg
 L':AV
 h_a:SlA 9 cReq a a'
 h_L:SlA 9 cChg L L'
noncomputable def few34S:HSpec:=mkH (ι:=few34X) (fun ⟨a,a',L,L',h_a,h_L⟩=>([a',L'],[])) fun ⟨a,a',L,L',h_a,h_L⟩=>⟨.tup [.sl 9 (rows cReq (a.take 60)),.sl 9 (rows cChg (L.take 50))],[],[]⟩
theorem few34S_atG (a:List Req) (a':AV) (L:List Chg) (L':AV) (h_a:SlA 9 cReq a a') (h_L:SlA 9 cChg L L'):few34S [a',L'] []=some (⟨.tup [.sl 9 (rows cReq (a.take 60)),.sl 9 (rows cChg (L.take 50))],[],[]⟩):=
 mA_ (ι:=few34X) (fun i j h=>by obtain ⟨a,a',L,L',h_a,h_L⟩:=i; obtain ⟨a2,a'2,L2,L'2,h_a2,h_L2⟩:=j; simp [and_assoc,qB_,qI_,qO_,qC_,qE_,qK_,qR_,qV_,qP_,qOc_] at h; obtain ⟨rfl,rfl⟩:=h; obtain rfl:=SlA.inj (fun x y h=>cReq_inj h) h_a h_a2; obtain rfl:=SlA.inj (fun x y h=>cChg_inj h) h_L h_L2; rfl) ⟨a,a',L,L',h_a,h_L⟩
theorem few34_ok:HSound Try.prog 17 few34S:=by
 refine sE_ (fn:=Try.f17) rfl rfl (by kernel_rfl) fun args bx hr hS=>?_
 obtain ⟨⟨a,a',L,L',h_a,h_L⟩,rfl,rfl,rfl⟩:=mO_ hS
 clear hS
 refine ⟨_,(eN_ _),by simp [Try.f17],by simp [go_sem],fun w Mx pin=>?_⟩
 simp only [hB_at,lab_nil,lab_cons,hOf_nil,hOf_cons]
 refine aW_ (s':=⟨ofL [(0,(.sl 9 (rows cReq a))),(1,(.sl 9 (rows cChg L)))],hOf []⟩) ?_ ?_
 · cases h_a <;> cases h_L <;> exact wO_ [] (by simp [go_sem]) (by simp [go_sem]) (by simp [go_sem])
 clear h_a h_L
 refine aQ_ ?_
 iterate 2
  refine oC_ fun J hJ=>?_
  simp [go_sem]
  refine hJ _ _ _ ?_
 refine oN_ ?_
 refine aS_ fun K2 hK2=>?_
 refine aQ_ ?_
 iterate 3
  refine oC_ fun J hJ=>?_
  simp [go_sem]
  refine hJ _ _ _ ?_
 refine oN_ ?_
 refine aC_ (t:=_) rfl (fun c4=>?_) (fun c4=>?_)
 ·
  simp [go_sem] at c4
  have h3:60<=a.length:=by omega
  have ha:True:=trivial
  refine aR_ ?_
  iterate 3
   refine oC_ fun J hJ=>?_
   simp [go_sem,h3]
   refine hJ _ _ _ ?_
  refine oN_ ?_
  refine hK2 _ ?_
  refine aS_ fun K5 hK5=>?_
  refine aQ_ ?_
  iterate 3
   refine oC_ fun J hJ=>?_
   simp [go_sem]
   refine hJ _ _ _ ?_
  refine oN_ ?_
  refine aC_ (t:=_) rfl (fun c7=>?_) (fun c7=>?_)
  ·
   simp [go_sem] at c7
   have h4:50<=L.length:=by omega
   have hb:True:=trivial
   refine aR_ ?_
   iterate 3
    refine oC_ fun J hJ=>?_
    simp [go_sem,h4]
    refine hJ _ _ _ ?_
   refine oN_ ?_
   refine hK5 _ ?_
   refine aQ_ ?_
   iterate 4
    refine oC_ fun J hJ=>?_
    simp [go_sem]
    refine hJ _ _ _ ?_
   refine oN_ ?_
   refine aE_ ?_
   refine fQ_ [] ?_
   simp [go_sem,Try.f17,ha,hb]
  ·
   simp [go_sem] at c7
   have hb:List.take 50 L=L:=List.take_of_length_le (by omega)
   refine aK_ ?_
   refine hK5 _ ?_
   refine aQ_ ?_
   iterate 4
    refine oC_ fun J hJ=>?_
    simp [go_sem]
    refine hJ _ _ _ ?_
   refine oN_ ?_
   refine aE_ ?_
   refine fQ_ [] ?_
   simp [go_sem,Try.f17,ha,hb]
 ·
  simp [go_sem] at c4
  have ha:List.take 60 a=a:=List.take_of_length_le (by omega)
  refine aK_ ?_
  refine hK2 _ ?_
  refine aS_ fun K5 hK5=>?_
  refine aQ_ ?_
  iterate 3
   refine oC_ fun J hJ=>?_
   simp [go_sem]
   refine hJ _ _ _ ?_
  refine oN_ ?_
  refine aC_ (t:=_) rfl (fun c7=>?_) (fun c7=>?_)
  ·
   simp [go_sem] at c7
   have h4:50<=L.length:=by omega
   have hb:True:=trivial
   refine aR_ ?_
   iterate 3
    refine oC_ fun J hJ=>?_
    simp [go_sem,h4]
    refine hJ _ _ _ ?_
   refine oN_ ?_
   refine hK5 _ ?_
   refine aQ_ ?_
   iterate 4
    refine oC_ fun J hJ=>?_
    simp [go_sem]
    refine hJ _ _ _ ?_
   refine oN_ ?_
   refine aE_ ?_
   refine fQ_ [] ?_
   simp [go_sem,Try.f17,ha,hb]
  ·
   simp [go_sem] at c7
   have hb:List.take 50 L=L:=List.take_of_length_le (by omega)
   refine aK_ ?_
   refine hK5 _ ?_
   refine aQ_ ?_
   iterate 4
    refine oC_ fun J hJ=>?_
    simp [go_sem]
    refine hJ _ _ _ ?_
   refine oN_ ?_
   refine aE_ ?_
   refine fQ_ [] ?_
   simp [go_sem,Try.f17,ha,hb]
end Go.Proofs.Ytjoaigccapegpaa.AE
