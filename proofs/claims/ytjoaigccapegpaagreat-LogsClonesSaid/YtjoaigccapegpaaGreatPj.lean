/-
 Package fold: Run. Conditions: none; every contract names its own.
-/
import Derived.Test.YtjoaigccapegpaaGreatPi
import Derived.Test.YtjoaigccapegpaaGreatPe
import Derived.Test.YtjoaigccapegpaaGreatPc
import Derived.Test.YtjoaigccapegpaaGreatPg
set_option linter.constructorNameAsVariable false
namespace Go.Proofs.YtjoaigccapegpaaGreat.AE
open Go Go.Proofs Go.RowKit
set_option linter.unusedVariables false
set_option linter.unusedSimpArgs false
set_option maxRecDepth 100000
set_option maxHeartbeats 4000000
def stB (p:Bk × List Ord) (c:Chg):Bk × List Ord:=match doW p.1 p.2 c with
 | .ok (d,ps,_,_)=>(d,ps)
 | .error _=>p
def ocB (p:Bk × List Ord) (c:Chg):Outc:=match doW p.1 p.2 c with
 | .ok (_,_,l,_)=>⟨0,l⟩
 | .error e=>⟨e,[]⟩
def bkL (p:Bk × List Ord) (L:List Chg):Bk × List Ord:=L.foldl stB p
def ouL (p:Bk × List Ord):List Chg->List Outc
 | []=>[]
 | c :: r=>ocB p c :: ouL (stB p c) r
theorem doH_eq (p:Bk × List Ord) (c:Chg):doH p.1 p.2 c=⟨.tup [.agg (cBk (stB p c).1 (.sl 7 (rows cOrd (stB p c).2))),.agg (cOc (ocB p c))],[],[]⟩:=by
 unfold stB ocB
 rcases hd:doW p.1 p.2 c with e | ⟨d,ps,l,r⟩
 · rw [doH_err hd]
 · rw [doH_ok hd]
@[go_sem] theorem bkL_nil (p:Bk × List Ord):bkL p []=p:=rfl
@[go_sem] theorem ouL_nil (p:Bk × List Ord):ouL p []=[]:=rfl
theorem bkL_snoc (p:Bk × List Ord) (L:List Chg) (c:Chg):bkL p (L++[c])=stB (bkL p L) c:=by simp [bkL]
theorem bkL_append (p:Bk × List Ord) (L M:List Chg):bkL p (L++M)=bkL (bkL p L) M:=by simp [bkL]
theorem ouL_append:∀ (p:Bk × List Ord) (L M:List Chg),ouL p (L++M)=ouL p L++ouL (bkL p L) M
 | p,[],M=>rfl
 | p,c :: r,M=>by simp only [List.cons_append,ouL,ouL_append (stB p c) r M]; rfl
theorem ouL_snoc (p:Bk × List Ord) (L:List Chg) (c:Chg):ouL p (L++[c])=ouL p L++[ocB (bkL p L) c]:=by rw [ouL_append]; rfl
@[go_sem] theorem ouL_len:∀ (p:Bk × List Ord) (L:List Chg),(ouL p L).length=L.length
 | p,[]=>rfl
 | p,c :: r=>by simp [ouL,ouL_len (stB p c) r]
def FairP (p:Bk × List Ord):Prop:=FairB p.1/\FairO p.2
theorem stB_fair {p:Bk × List Ord} (h:FairP p) (c:Chg):FairP (stB p c)/\(stB p c).2.length<=p.2.length + 1/\(ocB p c).effs.length<=4:=by
 unfold stB ocB
 rcases hd:doW p.1 p.2 c with e | ⟨d,ps,l,r⟩
 · exact ⟨h,by simp,by simp⟩
 · exact ⟨doW_fair h.1 h.2 hd,(doW_lens h.1 h.2 hd).2,(doW_lens h.1 h.2 hd).1⟩
theorem bkL_fair:∀ {p:Bk × List Ord} (h:FairP p) (L:List Chg),FairP (bkL p L)/\(bkL p L).2.length<=p.2.length + L.length
 | p,h,[]=>⟨h,by simp [bkL]⟩
 | p,h,c :: r=>by
  obtain ⟨h1,h2,_⟩:=stB_fair h c
  obtain ⟨h3,h4⟩:=bkL_fair h1 r
  exact ⟨h3,by show (bkL (stB p c) r).2.length<=_; simp only [List.length_cons]; omega⟩
theorem ouL_effs:∀ {p:Bk × List Ord} (h:FairP p) (L:List Chg),∀ o ∈ ouL p L,o.effs.length<=4
 | p,h,[],o,ho=>by simp [ouL] at ho
 | p,h,c :: r,o,ho=>by
  obtain ⟨h1,_,h3⟩:=stB_fair h c
  simp only [ouL,List.mem_cons] at ho
  rcases ho with rfl | ho
  · exact h3
  · exact ouL_effs h1 r o ho
theorem weak_yl {Γ:Ctx} {s:St} {t:Nat->AV} {H:Heap} {i l:Nat} (hs:s.t i=.yl l) (h:Weak Γ ⟨t,H⟩ s):Weak Γ ⟨fput t i (.yl l),H⟩ s:=by
 intro μ a w hR
 obtain ⟨μ',h'⟩:=h μ a w hR
 refine ⟨μ',h'.hd,h'.hn,h'.hx,fun j=>?_,h'.hb,h'.hi,h'.hf,h'.hw,h'.hp⟩
 show Rep w _ μ' H (if j=i then .yl l else t j) _
 by_cases e:j=i
 ·
  subst e
  rw [if_pos rfl]
  have:=hR.ht j
  rw [hs] at this
  generalize a.tmps.getD j undef=v at this ⊢
  cases this
  exact .yl _ _
 ·
  rw [if_neg e]
  exact h'.ht j
theorem yieldK_of {Γ:Ctx} {S:HSpec} {d:Tmp} {args:List Operand} {bs:List Bid} {K:St->Prop} {s:St} {hr:HR} {H1:Heap} (hbs:OkB s.H bs) (hS:S (args.map fun x=>told s.H bs 5 (eva s.t x)) (boxC s.H bs)=some hr)
  (h1:hnews s.H (labB (0,16 * d) 0 (hr.nw.map (renB (back bs (0,16 * d) 5))))=some H1) (hK:K ⟨tput s.t (some d) (.bool true),hputs H1 (bs.zip (hr.up.map (renB (back bs (0,16 * d) 5))))⟩):yieldK Γ S d args bs K s:=⟨hbs,hr,hS,_,after_of hbs h1,hK⟩
structure foldYX where
 o:Outc
 d:Bk
 ps:List Ord
 X:List Outc
 e:Bk
 qs:List Ord
 h:X.length<=50000
def foldYA:foldYX->List AV × List Box:=fun ⟨o,d,ps,X,e,qs,_⟩=>([.agg (cOc o),.agg (cBk d (.sl 7 (rows cOrd ps)))],[.obj [.own (1,2) X.length],.obj (cBk e (.sl 7 (rows cOrd qs))),.row 50 2 (rows cOc X) false])
def foldYR:foldYX->HR:=fun ⟨o,d,ps,X,_,_,_⟩=>⟨.bool true,[.obj [.own (2,0) (X.length + 1)],.obj (cBk d (.sl 7 (rows cOrd ps))),.dead],[.row 50 2 (rows cOc (X++[o])) false]⟩
noncomputable def foldYS:HSpec:=mkH (ι:=foldYX) foldYA foldYR
theorem foldYS_at (o:Outc) (d:Bk) (ps:List Ord) (X:List Outc) (e:Bk) (qs:List Ord) (h:X.length<=50000):foldYS [.agg (cOc o),.agg (cBk d (.sl 7 (rows cOrd ps)))] [.obj [.own (1,2) X.length],.obj (cBk e (.sl 7 (rows cOrd qs))),.row 50 2 (rows cOc X) false]=some (foldYR ⟨o,d,ps,X,e,qs,h⟩):=
 mA_ (ι:=foldYX) (fun i j h=>by obtain ⟨o,d,ps,X,e,qs,h1⟩:=i; obtain ⟨o2,d2,ps2,X2,e2,qs2,h2⟩:=j; simp [foldYA,and_assoc,qB_,qOc_,rows_iff_Oc,rows_iff_Ord] at h; obtain ⟨rfl,rfl,rfl,_,_,_,rfl⟩:=h; rfl) ⟨o,d,ps,X,e,qs,h⟩
def foldHR (p:Bk × List Ord) (L:List Chg):HR:=⟨.tup [],[.obj [.sl 9 (rows cChg L)],.obj (cBk (bkL p L).1 (.sl 7 (rows cOrd (bkL p L).2))),.obj [.own (2,0) L.length],.obj (cBk (bkL p L).1 (.sl 7 (rows cOrd (bkL p L).2)))],[.row 50 2 (rows cOc (ouL p L)) false]⟩
def foldI (l:Nat) (p:Bk × List Ord) (L pre _post:List Chg):St:=⟨fput (ofL [(2,.ref (1,1) 0),(7,.sl 9 (rows cChg L)),(8,.int .i64 L.length),(9,.int .i64 pre.length)]) 0 (.yl l),hOf [((1,0),.obj [.sl 9 (rows cChg L)]),((1,1),.obj (cBk (bkL p pre).1 (.sl 7 (rows cOrd (bkL p pre).2)))),((1,2),.obj [.own (0,999) pre.length]),((1,3),.obj (cBk (bkL p pre).1 (.sl 7 (rows cOrd (bkL p pre).2)))),((0,999),.row 50 2 (rows cOc (ouL p pre)) false)]⟩
theorem steps_iter (p:Bk × List Ord) (L:List Chg) (hp:FairP p) (hL:p.2.length + L.length<=30000):IterSound Tryz.prog 87 [.ref (1,0) 0,.ref (1,1) 0] foldYS [.obj [.sl 9 (rows cChg L)],.obj (cBk p.1 (.sl 7 (rows cOrd p.2))),.obj [.nils],.obj (cBk p.1 (.sl 7 (rows cOrd p.2)))] (foldHR p L) 2 3:=by
 refine ⟨by simp [foldHR,go_sem],by simp [foldHR],fun l r0 p0 p1 w Mx pin vals μ hY hA hl0 hn hp0 hp1=>?_⟩
 refine calls_ofH (fn:=Tryz.f87) rfl rfl (by kernel_rfl) (eH_ (g:=88) (by kernel_rfl) do16_ok (eN_ _)) (by simp [Tryz.f87]) hA ?_
 simp only [hB_at,lab_nil,lab_cons,hOf_nil,hOf_cons]
 have hL1:L.length<=100000:=by omega
 refine aQ_ ?_
 iterate 3
  refine oC_ fun J hJ=>?_
  simp [go_sem]
  refine hJ _ _ _ ?_
  clear hJ J
 refine oN_ ?_
 refine aB_ ?_
 refine aL_ (ι:={ q:List Chg × List Chg // q.1++q.2=L/\True }) (fun q=>foldI l p L q.1.1 q.1.2) (fun q=>q.1.2.length) ⟨([],L),rfl,trivial⟩ ?_ ?_
 ·
  refine weak_yl (by simp [go_sem]) ?_
  refine wO_ [((1,0),some (1,0)),((1,1),some (1,1)),((1,2),some (1,2)),((1,3),some (1,3)),((0,999),none)] (by simp [go_sem]) ?_ ?_ <;> simp [go_sem]
 intro ⟨⟨pre,post⟩,hl,hgo⟩
 simp only at hl hgo
 have hpl:=lS_ hl hL1
 simp only [foldI]
 refine aQ_ ?_
 iterate 1
  refine oC_ fun J hJ=>?_
  simp [go_sem]
  refine hJ _ _ _ ?_
  clear hJ J
 refine oN_ ?_
 refine aS_ fun K3 hK3=>?_
 refine aC_ (t:=_) rfl (fun c4=>?_) (fun c4=>?_)
 ·
  simp [go_sem] at c4
  obtain ⟨x,post,rfl,hx⟩:=mL_ hl c4
  refine aK_ ?_
  refine hK3 _ ?_
  clear hK3
  refine aS_ fun K5 hK5=>?_
  refine aB_ ?_
  refine aQ_ ?_
  iterate 4
   refine oC_ fun J hJ=>?_
   simp [go_sem,hx]
   refine hJ _ _ _ ?_
   clear hJ J
  refine oN_ ?_
  refine aQ_ ?_
  iterate 1
   refine oC_ fun J hJ=>?_
   simp [go_sem]
   refine hJ _ _ _ ?_
   clear hJ J
  refine oN_ ?_
  refine aS_ fun K8 hK8=>?_
  obtain ⟨hfp,hlp⟩:=bkL_fair hp pre
  have hpre:pre.length<=L.length:=by rw [<-hl]; simp
  refine aR_ ?_
  iterate 8
   refine oC_ fun J hJ=>?_
   simp [go_sem,do16S_at (bkL p pre).1 (bkL p pre).2 x ⟨hfp.1,hfp.2,by omega⟩,doH_eq]
   refine hJ _ _ _ ?_
   clear hJ J
  refine oN_ ?_
  refine hK8 _ ?_
  clear hK8
  refine aS_ fun K9 hK9=>?_
  refine awp_yield (pre:=[_,_,_]) (post:=[_]) (bs:=[(1,2),(1,3),(0,999)]) (j0:=2) (j1:=3) hY hl0 hn hp0 hp1 rfl rfl (by kernel_rfl) ?_
  iterate 3
   refine oC_ fun J hJ=>?_
   simp [go_sem]
   refine hJ _ _ _ ?_
   clear hJ J
  refine oN_ ?_
  refine ⟨by simp [go_sem],?_⟩
  refine yieldK_of (H1:=?hh) (hr:=foldYR ⟨ocB (bkL p pre) x,(stB (bkL p pre) x).1,(stB (bkL p pre) x).2,ouL p pre,(bkL p pre).1,(bkL p pre).2,by rw [ouL_len]; omega⟩) ⟨by simp,by intro b hb; simp at hb; rcases hb with rfl | rfl | rfl <;> exact ⟨_,rfl,rfl⟩⟩ ?hS ?h1 ?hK
  case hS=>
   rw [<-foldYS_at]
   simp [go_sem,boxC]
  case h1=>
   simp [go_sem,foldYR]
   rfl
  simp only [foldYR,List.map_cons,List.map_nil,List.zip_cons_cons,List.zip_nil_right,renB,go_sem]
  refine oC_ fun J hJ=>?_
  simp [go_sem]
  refine hJ _ _ _ ?_
  clear hJ J
  refine oN_ ?_
  refine hK9 _ ?_
  clear hK9
  refine aF_ rfl ?_
  refine aK_ ?_
  refine hK5 _ ?_
  clear hK5
  refine aR_ ?_
  iterate 2
   refine oC_ fun J hJ=>?_
   simp [go_sem]
   refine hJ _ _ _ ?_
   clear hJ J
  refine oN_ ?_
  refine ⟨⟨(pre++[x],post),by simp [<-hl],by exact trivial⟩,?_,by simp⟩
  refine weak_yl (by simp [go_sem]) ?_
  refine wO_ [((1,0),some (1,0)),((1,1),some (1,1)),((1,2),some (1,2)),((1,3),some (1,3)),((0,999),some (0,352))] (by simp [go_sem]) ?_ ?_ <;> simp [go_sem,wN_ hpl,bkL_snoc,ouL_snoc]
 ·
  simp [go_sem] at c4
  obtain ⟨rfl,rfl⟩:=mN_ hl c4
  refine aX_ ?_
  simp only [go_sem]
  refine fQ_ [((1,0),some (1,0)),((1,1),some (1,1)),((1,2),some (1,2)),((1,3),some (1,3)),((2,0),some (0,999))] ?_
  simp [go_sem,Tryz.f87,foldHR]
theorem awp_rangeE {Γ:Ctx} {env:Env} {Q:X->St->Prop} {s:St} {g:Operand} {p1 p2:Tmp} {asg body:Code} {fid:FuncId} {caps caps':List AV} {S:HSpec} {bs:List Bid} {bx':List Box} {hr:HR} {b0:Bid} {H1:Heap} {to tl:Tmp} {bo bl:Bid} {j0 j1:Nat}
  (hg:eva s.t g=.fn fid caps) (hent:entersB Γ.P fid=true) (hbs:OkB s.H bs) (hit:IterSound Γ.P fid caps' S bx' hr j0 j1) (hcaps:caps.map (told s.H bs 5)=caps') (hbx:boxC s.H bs=bx')
  (hto:s.t to=.ref bo 0) (htl:s.t tl=.ref bl 0) (hj0:bs[j0]?=some bo) (hj1:bs[j1]?=some bl) (h0:b0.1=0) (h1:hnews s.H (labB b0 0 (hr.nw.map (renB (back bs b0 5))))=some H1)
  (hnd:(noDef asg && noDef body)=true)
  (hS:∀ args bx q,S args bx=some q->goOns bx q.up/\q.v=.bool true/\∃ v0 v1 cs0 cs1 r,args=[v0,v1]/\bx=.obj cs0 :: .obj cs1 :: r /\
   ∀ (Γ':Ctx) (l:Nat),Γ'.P=Γ.P->Γ'.n=Γ.n->awpR Γ' env l 0 asg (thenX (fun s1=>∀ Γ'':Ctx,Γ''.P=Γ.P->Γ''.n=Γ.n->awpR Γ'' env l 0 body (roundX q) s1) noX)
    ⟨tput (tput (ofL [(to,.ref (1,0) 0),(tl,.ref (1,1) 0)]) (some p1) v0) (some p2) v1,hB bx⟩)
  (hend:Q .normal ⟨s.t,hputs H1 (bs.zip (hr.up.map (renB (back bs b0 5))))⟩) (hmk:Γ.lp=true:=by rfl):awp Γ env (.rangeFunc g #[p1,p2] asg body) Q s:=by
 subst hcaps hbx
 exact awp_range hg hent hbs hit hto htl hj0 hj1 h0 (after_of hbs h1) hnd hS hend hmk
structure stepsX where
 b:Bk
 os:List Ord
 os':AV
 L:List Chg
 L':AV
 h_os:SlA 7 cOrd os os'
 h_L:SlA 9 cChg L L'
noncomputable def stepsS:HSpec:=mkH (ι:=stepsX) (fun ⟨b,os,os',L,L',h_os,h_L⟩=>([.agg (cBk b os'),L'],[])) fun ⟨b,os,os',L,L',h_os,h_L⟩=>⟨.fn 87 [.ref (2,0) 0,.ref (2,1) 0],[],[.obj [.sl 9 (rows cChg L)],.obj (cBk b (.sl 7 (rows cOrd os)))]⟩
theorem stepsS_atG (b:Bk) (os:List Ord) (os':AV) (L:List Chg) (L':AV) (h_os:SlA 7 cOrd os os') (h_L:SlA 9 cChg L L'):stepsS [.agg (cBk b os'),L'] []=some (⟨.fn 87 [.ref (2,0) 0,.ref (2,1) 0],[],[.obj [.sl 9 (rows cChg L)],.obj (cBk b (.sl 7 (rows cOrd os)))]⟩):=
 mA_ (ι:=stepsX) (fun i j h=>by obtain ⟨b,os,os',L,L',h_os,h_L⟩:=i; obtain ⟨b2,os2,os'2,L2,L'2,h_os2,h_L2⟩:=j; simp [and_assoc,qB_,qI_,qO_,qC_,qE_,qK_,qR_,qV_,qP_,qOc_] at h; obtain ⟨rfl,rfl,rfl⟩:=h; obtain rfl:=SlA.inj (fun x y h=>cOrd_inj h) h_os h_os2; obtain rfl:=SlA.inj (fun x y h=>cChg_inj h) h_L h_L2; rfl) ⟨b,os,os',L,L',h_os,h_L⟩
theorem stepsS_at (b:Bk) (os:List Ord) (L:List Chg):stepsS [.agg (cBk b (.sl 7 (rows cOrd os))),(.sl 9 (rows cChg L))] []=some (⟨.fn 87 [.ref (2,0) 0,.ref (2,1) 0],[],[.obj [.sl 9 (rows cChg L)],.obj (cBk b (.sl 7 (rows cOrd os)))]⟩):=stepsS_atG b os _ L _ .sl .sl
theorem steps_ok:HSound Tryz.prog 67 stepsS:=by
 refine sE_ (fn:=Tryz.f67) rfl rfl (by kernel_rfl) fun args bx hr hS=>?_
 obtain ⟨⟨b,os,os',L,L',h_os,h_L⟩,rfl,rfl,rfl⟩:=mO_ hS
 clear hS
 refine ⟨_,(eN_ _),by simp [Tryz.f67],by simp [go_sem],fun w Mx pin=>?_⟩
 simp only [hB_at,lab_nil,lab_cons,hOf_nil,hOf_cons]
 refine aW_ (s':=⟨ofL [(0,.agg (cBk b (.sl 7 (rows cOrd os)))),(1,(.sl 9 (rows cChg L)))],hOf []⟩) ?_ ?_
 · cases h_os <;> cases h_L <;> exact wO_ [] (by simp [go_sem]) (by simp [go_sem]) (by simp [go_sem])
 clear h_os h_L
 refine aQ_ ?_
 iterate 3
  refine oC_ fun J hJ=>?_
  simp [go_sem]
  refine hJ _ _ _ ?_
  clear hJ J
 refine oN_ ?_
 refine aQ_ ?_
 iterate 2
  refine oC_ fun J hJ=>?_
  simp [go_sem]
  refine hJ _ _ _ ?_
  clear hJ J
 refine oN_ ?_
 refine aE_ ?_
 refine fQ_ [((2,0),some (0,48)),((2,1),some (0,32))] ?_
 simp [go_sem,Tryz.f67]
structure runFX where
 b:Bk
 os:List Ord
 os':AV
 L:List Chg
 L':AV
 h_os:SlA 7 cOrd os os'
 h_L:SlA 9 cChg L L'
 hL:FairB b/\FairO os/\os.length + L.length<=30000
noncomputable def runFS:HSpec:=mkH (ι:=runFX) (fun ⟨b,os,os',L,L',h_os,h_L,hL⟩=>([.agg (cBk b os'),L'],[])) fun ⟨b,os,os',L,L',h_os,h_L,hL⟩=>⟨.tup [.agg (cBk (bkL (b,os) L).1 (.sl 7 (rows cOrd (bkL (b,os) L).2))),.own (2,0) L.length],[],[.row 50 2 (rows cOc (ouL (b,os) L)) false]⟩
theorem runFS_atG (b:Bk) (os:List Ord) (os':AV) (L:List Chg) (L':AV) (h_os:SlA 7 cOrd os os') (h_L:SlA 9 cChg L L') (hL:FairB b/\FairO os/\os.length + L.length<=30000):runFS [.agg (cBk b os'),L'] []=some (⟨.tup [.agg (cBk (bkL (b,os) L).1 (.sl 7 (rows cOrd (bkL (b,os) L).2))),.own (2,0) L.length],[],[.row 50 2 (rows cOc (ouL (b,os) L)) false]⟩):=
 mA_ (ι:=runFX) (fun i j h=>by obtain ⟨b,os,os',L,L',h_os,h_L,hL⟩:=i; obtain ⟨b2,os2,os'2,L2,L'2,h_os2,h_L2,hL2⟩:=j; simp [and_assoc,qB_,qI_,qO_,qC_,qE_,qK_,qR_,qV_,qP_,qOc_] at h; obtain ⟨rfl,rfl,rfl⟩:=h; obtain rfl:=SlA.inj (fun x y h=>cOrd_inj h) h_os h_os2; obtain rfl:=SlA.inj (fun x y h=>cChg_inj h) h_L h_L2; rfl) ⟨b,os,os',L,L',h_os,h_L,hL⟩
theorem runFS_at (b:Bk) (os:List Ord) (L:List Chg) (hL:FairB b/\FairO os/\os.length + L.length<=30000):runFS [.agg (cBk b (.sl 7 (rows cOrd os))),(.sl 9 (rows cChg L))] []=some (⟨.tup [.agg (cBk (bkL (b,os) L).1 (.sl 7 (rows cOrd (bkL (b,os) L).2))),.own (2,0) L.length],[],[.row 50 2 (rows cOc (ouL (b,os) L)) false]⟩):=runFS_atG b os _ L _ .sl .sl hL
theorem runF_ok:HSound Tryz.prog 38 runFS:=by
 refine sE_ (fn:=Tryz.f38) rfl rfl (by kernel_rfl) fun args bx hr hS=>?_
 obtain ⟨⟨b,os,os',L,L',h_os,h_L,hL⟩,rfl,rfl,rfl⟩:=mO_ hS
 clear hS
 refine ⟨_,(eV_ (g:=66) (by kernel_rfl) cloneOrd_ok (eH_ (g:=67) (by kernel_rfl) steps_ok (eN_ _))),by simp [Tryz.f38],by simp [go_sem],fun w Mx pin=>?_⟩
 simp only [hB_at,lab_nil,lab_cons,hOf_nil,hOf_cons]
 refine aW_ (s':=⟨ofL [(0,.agg (cBk b (.sl 7 (rows cOrd os)))),(1,(.sl 9 (rows cChg L)))],hOf []⟩) ?_ ?_
 · cases h_os <;> cases h_L <;> exact wO_ [] (by simp [go_sem]) (by simp [go_sem]) (by simp [go_sem])
 clear h_os h_L
 obtain ⟨hF,hO,hlen⟩:=hL
 refine aQ_ ?_
 iterate 3
  refine oC_ fun J hJ=>?_
  simp [go_sem]
  refine hJ _ _ _ ?_
  clear hJ J
 refine oN_ ?_
 refine aQ_ ?_
 iterate 5
  refine oC_ fun J hJ=>?_
  simp [go_sem,cloneOrdS_at os (by omega)]
  refine hJ _ _ _ ?_
  clear hJ J
 refine oN_ ?_
 refine aQ_ ?_
 iterate 1
  refine oC_ fun J hJ=>?_
  simp [go_sem]
  refine hJ _ _ _ ?_
  clear hJ J
 refine oN_ ?_
 refine aS_ fun K4 hK4=>?_
 refine aW_ (s':=⟨ofL [(1,.sl 9 (rows cChg L)),(2,.ref (0,32) 0),(4,.ref (0,64) 0),(5,.nils),(6,.ref (0,96) 0)],hOf [((0,32),.obj (cBk b (.sl 7 (rows cOrd os)))),((0,64),.obj (cBk zBk .nils)),((0,96),.obj [.nils])]⟩) ?_ ?_
 · refine wO_ [((0,32),some (0,32)),((0,64),some (0,64)),((0,96),some (0,96))] (by simp [go_sem]) ?_ ?_ <;> simp [go_sem,dropped]
 refine aR_ ?_
 iterate 3
  refine oC_ fun J hJ=>?_
  simp [go_sem]
  refine hJ _ _ _ ?_
  clear hJ J
 refine oN_ ?_
 refine hK4 _ ?_
 clear hK4
 refine aS_ fun K5 hK5=>?_
 refine aQ_ ?_
 iterate 3
  refine oC_ fun J hJ=>?_
  simp [go_sem,stepsS_at b os L]
  refine hJ _ _ _ ?_
  clear hJ J
 refine oN_ ?_
 refine aB_ ?_
 refine awp_rangeE (H1:=?hh) (hr:=foldHR (b,os) L) (bs:=[(0,272),(0,273),(0,96),(0,112)]) (b0:=(0,9999)) (to:=6) (tl:=7) (bo:=(0,96)) (bl:=(0,112)) (j0:=2) (j1:=3) rfl (by kernel_rfl) ⟨by simp,by intro b hb; simp at hb; rcases hb with rfl | rfl | rfl | rfl <;> exact ⟨_,rfl,rfl⟩⟩ (steps_iter (b,os) L ⟨hF,hO⟩ hlen) ?hcaps ?hbx rfl rfl rfl rfl rfl ?h1 (by kernel_rfl) ?hS ?hend
 case hcaps=>simp [go_sem]
 case hbx=>simp [go_sem,boxC]
 case h1=>
  simp [go_sem,foldHR]
  rfl
 case hS=>
  intro args bx q hq
  obtain ⟨⟨x,d,ps,X,e,qs,hX⟩,h1,h2,h3⟩:=mO_ hq
  simp only [foldYA,foldYR] at h1 h2 h3
  subst h1 h2 h3
  refine ⟨by simp [go_sem],rfl,_,_,_,_,_,rfl,rfl,?_⟩
  rintro ⟨P1,W1,M1,n1,p1,d1,f1⟩ l1 hP1 hn1
  simp only at hP1 hn1
  subst hP1 hn1
  simp only [hB_at,lab_nil,lab_cons,hOf_nil,hOf_cons]
  refine awpR_seq fun K7 hK7=>?_
  refine awpR_region ?_
  iterate 2
   refine oC_ fun J hJ=>?_
   simp [go_sem]
   refine hJ _ _ _ ?_
   clear hJ J
  refine oN_ ?_
  refine hK7 _ ?_
  clear hK7
  refine awpR_region ?_
  iterate 2
   refine oC_ fun J hJ=>?_
   simp [go_sem]
   refine hJ _ _ _ ?_
   clear hJ J
  refine oN_ ?_
  refine fun (Γ2:Ctx) hP2 hn2=>?_
  obtain ⟨P2,W2,M2,n2,p2,d2,f2⟩:=Γ2
  simp only at hP2 hn2
  subst hP2 hn2
  refine awpR_block ?_
  refine awpR_seq fun K8 hK8=>?_
  refine awpR_region ?_
  iterate 5
   refine oC_ fun J hJ=>?_
   simp [go_sem,show (X.length + 1) * 32<=140737488355328 by omega,show X.length + 1<=maxLen by (simp only [maxLen]; omega)]
   refine hJ _ _ _ ?_
   clear hJ J
  refine oN_ ?_
  refine hK8 _ ?_
  clear hK8
  refine awpR_region ?_
  iterate 2
   refine oC_ fun J hJ=>?_
   simp [go_sem]
   refine hJ _ _ _ ?_
   clear hJ J
  refine oN_ ?_
  refine ⟨[((1,0),some (1,0)),((1,1),some (1,1)),((1,2),some (1,2)),((2,0),some (0,368))],by simp [go_sem],?_⟩
  simp [go_sem,rows_append]
 case hend=>
  simp only [foldHR,List.map_cons,List.map_nil,List.zip_cons_cons,List.zip_nil_right,renB,go_sem]
  refine hK5 _ ?_
  clear hK5
  refine aU_ ?_
  iterate 4
   refine oC_ fun J hJ=>?_
   simp [go_sem]
   refine hJ _ _ _ ?_
   clear hJ J
  refine oN_ ?_
  refine ⟨rfl,?_⟩
  refine aE_ ?_
  refine fQ_ [((2,0),some (0,9999))] ?_
  simp [go_sem,Tryz.f38]
def cWs (w:List Eff):List AV:=[.sl 5 (rows cEff w)]
@[go_sem] theorem cWs_len (w:List Eff):(cWs w).length=1:=rfl
@[go_sem] theorem cWs_get (w:List Eff):(cWs w)[0]?=some (.sl 5 (rows cEff w)):=rfl
@[go_sem] theorem rows_Ws1 (w:List Eff):[[AV.sl 5 (rows cEff w)]]=rows cWs [w]:=rfl
theorem fairZ:FairP (zBk,[]):=⟨by unfold FairB; decide,fun o h=>by cases h⟩
structure lastFX where
 b:Bk
 os:List Ord
 os':AV
 L:List Chg
 L':AV
 h_os:SlA 7 cOrd os os'
 h_L:SlA 9 cChg L L'
 hL:FairB b/\FairO os/\os.length + L.length<=30000
noncomputable def lastFS:HSpec:=mkH (ι:=lastFX) (fun ⟨b,os,os',L,L',h_os,h_L,hL⟩=>([.agg (cBk b os'),L'],[])) fun ⟨b,os,os',L,L',h_os,h_L,hL⟩=>⟨.agg (cBk (bkL (b,os) L).1 (.sl 7 (rows cOrd (bkL (b,os) L).2))),[],[]⟩
theorem lastFS_atG (b:Bk) (os:List Ord) (os':AV) (L:List Chg) (L':AV) (h_os:SlA 7 cOrd os os') (h_L:SlA 9 cChg L L') (hL:FairB b/\FairO os/\os.length + L.length<=30000):lastFS [.agg (cBk b os'),L'] []=some (⟨.agg (cBk (bkL (b,os) L).1 (.sl 7 (rows cOrd (bkL (b,os) L).2))),[],[]⟩):=
 mA_ (ι:=lastFX) (fun i j h=>by obtain ⟨b,os,os',L,L',h_os,h_L,hL⟩:=i; obtain ⟨b2,os2,os'2,L2,L'2,h_os2,h_L2,hL2⟩:=j; simp [and_assoc,qB_,qI_,qO_,qC_,qE_,qK_,qR_,qV_,qP_,qOc_] at h; obtain ⟨rfl,rfl,rfl⟩:=h; obtain rfl:=SlA.inj (fun x y h=>cOrd_inj h) h_os h_os2; obtain rfl:=SlA.inj (fun x y h=>cChg_inj h) h_L h_L2; rfl) ⟨b,os,os',L,L',h_os,h_L,hL⟩
theorem lastFS_at (b:Bk) (os:List Ord) (L:List Chg) (hL:FairB b/\FairO os/\os.length + L.length<=30000):lastFS [.agg (cBk b (.sl 7 (rows cOrd os))),(.sl 9 (rows cChg L))] []=some (⟨.agg (cBk (bkL (b,os) L).1 (.sl 7 (rows cOrd (bkL (b,os) L).2))),[],[]⟩):=lastFS_atG b os _ L _ .sl .sl hL
theorem lastF_ok:HSound Tryz.prog 40 lastFS:=by
 refine sE_ (fn:=Tryz.f40) rfl rfl (by kernel_rfl) fun args bx hr hS=>?_
 obtain ⟨⟨b,os,os',L,L',h_os,h_L,hL⟩,rfl,rfl,rfl⟩:=mO_ hS
 clear hS
 refine ⟨_,(eH_ (g:=38) (by kernel_rfl) runF_ok (eN_ _)),by simp [Tryz.f40],by simp [go_sem],fun w Mx pin=>?_⟩
 simp only [hB_at,lab_nil,lab_cons,hOf_nil,hOf_cons]
 refine aW_ (s':=⟨ofL [(0,.agg (cBk b (.sl 7 (rows cOrd os)))),(1,(.sl 9 (rows cChg L)))],hOf []⟩) ?_ ?_
 · cases h_os <;> cases h_L <;> exact wO_ [] (by simp [go_sem]) (by simp [go_sem]) (by simp [go_sem])
 clear h_os h_L
 refine aQ_ ?_
 iterate 2
  refine oC_ fun J hJ=>?_
  simp [go_sem]
  refine hJ _ _ _ ?_
  clear hJ J
 refine oN_ ?_
 refine aQ_ ?_
 iterate 9
  refine oC_ fun J hJ=>?_
  simp [go_sem,runFS_at b os L hL]
  refine hJ _ _ _ ?_
  clear hJ J
 refine oN_ ?_
 refine aQ_ ?_
 iterate 2
  refine oC_ fun J hJ=>?_
  simp [go_sem]
  refine hJ _ _ _ ?_
  clear hJ J
 refine oN_ ?_
 refine aE_ ?_
 refine fQ_ [] ?_
 simp [go_sem,Tryz.f40]
@[go_sem] theorem ouL_take (p:Bk × List Ord) (L:List Chg):(ouL p L).take L.length=ouL p L:=List.take_of_length_le (by rw [ouL_len]; exact Nat.le_refl _)
@[go_sem] theorem rows_Ws2 (w:List Eff):[cWs w]=rows cWs [w]:=rfl
@[go_sem] theorem cWs_take (w:List Eff):(cWs w).take 1=cWs w:=rfl
def runRI (p:Bk × List Ord) (L pre _post:List Chg):St:=⟨ofL [(1,.sl 9 (rows cChg L)),(2,.ref (0,32) 0),(4,.ref (0,64) 0),(6,.own (0,999) pre.length),(7,.int .i64 pre.length)],hOf [((0,32),.obj (cBk (bkL p pre).1 (.sl 7 (rows cOrd (bkL p pre).2)))),((0,64),.obj (cBk zBk .nils)),((0,999),.row 50 2 (rows cOc (ouL p pre)) false)]⟩
structure runRX where
 b:Bk
 os:List Ord
 os':AV
 L:List Chg
 L':AV
 h_os:SlA 7 cOrd os os'
 h_L:SlA 9 cChg L L'
 hL:FairB b/\FairO os/\os.length + L.length<=30000
noncomputable def runRS:HSpec:=mkH (ι:=runRX) (fun ⟨b,os,os',L,L',h_os,h_L,hL⟩=>([.agg (cBk b os'),L'],[])) fun ⟨b,os,os',L,L',h_os,h_L,hL⟩=>⟨.tup [.agg (cBk (bkL (b,os) L).1 (.sl 7 (rows cOrd (bkL (b,os) L).2))),.own (2,0) L.length],[],[.row 50 2 (rows cOc (ouL (b,os) L)) false]⟩
theorem runRS_atG (b:Bk) (os:List Ord) (os':AV) (L:List Chg) (L':AV) (h_os:SlA 7 cOrd os os') (h_L:SlA 9 cChg L L') (hL:FairB b/\FairO os/\os.length + L.length<=30000):runRS [.agg (cBk b os'),L'] []=some (⟨.tup [.agg (cBk (bkL (b,os) L).1 (.sl 7 (rows cOrd (bkL (b,os) L).2))),.own (2,0) L.length],[],[.row 50 2 (rows cOc (ouL (b,os) L)) false]⟩):=
 mA_ (ι:=runRX) (fun i j h=>by obtain ⟨b,os,os',L,L',h_os,h_L,hL⟩:=i; obtain ⟨b2,os2,os'2,L2,L'2,h_os2,h_L2,hL2⟩:=j; simp [and_assoc,qB_,qI_,qO_,qC_,qE_,qK_,qR_,qV_,qP_,qOc_] at h; obtain ⟨rfl,rfl,rfl⟩:=h; obtain rfl:=SlA.inj (fun x y h=>cOrd_inj h) h_os h_os2; obtain rfl:=SlA.inj (fun x y h=>cChg_inj h) h_L h_L2; rfl) ⟨b,os,os',L,L',h_os,h_L,hL⟩
theorem runR_ok:HSound Tryz.prog 11 runRS:=by
 refine sE_ (fn:=Tryz.f11) rfl rfl (by kernel_rfl) fun args bx hr hS=>?_
 obtain ⟨⟨b,os,os',L,L',h_os,h_L,hL⟩,rfl,rfl,rfl⟩:=mO_ hS
 clear hS
 refine ⟨_,(eH_ (g:=34) (by kernel_rfl) rdo_ok (eN_ _)),by simp [Tryz.f11],by simp [go_sem],fun w Mx pin=>?_⟩
 simp only [hB_at,lab_nil,lab_cons,hOf_nil,hOf_cons]
 refine aW_ (s':=⟨ofL [(0,.agg (cBk b (.sl 7 (rows cOrd os)))),(1,(.sl 9 (rows cChg L)))],hOf []⟩) ?_ ?_
 · cases h_os <;> cases h_L <;> exact wO_ [] (by simp [go_sem]) (by simp [go_sem]) (by simp [go_sem])
 clear h_os h_L
 obtain ⟨hF,hO,hlen⟩:=hL
 have hL1:L.length<=100000:=by omega
 have hp:FairP (b,os):=⟨hF,hO⟩
 refine aQ_ ?_
 iterate 3
  refine oC_ fun J hJ=>?_
  simp [go_sem]
  refine hJ _ _ _ ?_
  clear hJ J
 refine oN_ ?_
 refine aQ_ ?_
 iterate 1
  refine oC_ fun J hJ=>?_
  simp [go_sem]
  refine hJ _ _ _ ?_
  clear hJ J
 refine oN_ ?_
 refine aS_ fun K3 hK3=>?_
 refine aQ_ ?_
 iterate 1
  refine oC_ fun J hJ=>?_
  simp [go_sem]
  refine hJ _ _ _ ?_
  clear hJ J
 refine oN_ ?_
 refine aB_ ?_
 refine aL_ (ι:={ q:List Chg × List Chg // q.1++q.2=L/\True }) (fun q=>runRI (b,os) L q.1.1 q.1.2) (fun q=>q.1.2.length) ⟨([],L),rfl,trivial⟩ ?_ ?_
 · refine wO_ [((0,32),some (0,32)),((0,64),some (0,64)),((0,999),none)] (by simp [go_sem]) ?_ ?_ <;> simp [go_sem,dropped]
 intro ⟨⟨pre,post⟩,hl,hgo⟩
 simp only at hl hgo
 have hpl:=lS_ hl hL1
 simp only [runRI]
 refine aS_ fun K5 hK5=>?_
 refine aQ_ ?_
 iterate 4
  refine oC_ fun J hJ=>?_
  simp [go_sem]
  refine hJ _ _ _ ?_
  clear hJ J
 refine oN_ ?_
 refine aC_ (t:=_) rfl (fun c7=>?_) (fun c7=>?_)
 ·
  simp [go_sem] at c7
  obtain ⟨x,post,rfl,hx⟩:=mL_ hl c7
  refine aK_ ?_
  refine hK5 _ ?_
  clear hK5
  refine aS_ fun K8 hK8=>?_
  refine aB_ ?_
  refine aS_ fun K9 hK9=>?_
  obtain ⟨hfp,hlp⟩:=bkL_fair hp pre
  have hpre:pre.length<=L.length:=by rw [<-hl]; simp
  refine aD_ ?_
  iterate 13
   refine oC_ fun J hJ=>?_
   simp [go_sem,hx,rdoS_at (bkL (b,os) pre).1 (bkL (b,os) pre).2 x ⟨hfp.1,hfp.2,by simp only at hlp; omega⟩,doH_eq]
   refine hJ _ _ _ ?_
   clear hJ J
  refine oN_ ?_
  refine ⟨rfl,?_⟩
  refine hK9 _ ?_
  clear hK9
  refine aQ_ ?_
  iterate 2
   refine oC_ fun J hJ=>?_
   simp [go_sem]
   refine hJ _ _ _ ?_
   clear hJ J
  refine oN_ ?_
  refine aR_ ?_
  iterate 5
   refine oC_ fun J hJ=>?_
   simp [go_sem,show (pre.length + 1) * 32<=140737488355328 by omega,show pre.length + 1<=maxLen by (simp only [maxLen]; omega)]
   refine hJ _ _ _ ?_
   clear hJ J
  refine oN_ ?_
  refine hK8 _ ?_
  clear hK8
  refine aR_ ?_
  iterate 3
   refine oC_ fun J hJ=>?_
   simp [go_sem]
   refine hJ _ _ _ ?_
   clear hJ J
  refine oN_ ?_
  refine ⟨⟨(pre++[x],post),by simp [<-hl],by exact trivial⟩,?_,by simp⟩
  refine wO_ [((0,32),some (0,32)),((0,64),some (0,64)),((0,999),some (0,464))] (by simp [go_sem]) ?_ ?_ <;> simp [go_sem,wN_ hpl,ouL_snoc,bkL_snoc,rows_append]
 ·
  simp [go_sem] at c7
  obtain ⟨rfl,rfl⟩:=mN_ hl c7
  refine aX_ ?_
  simp only [go_sem]
  refine hK3 _ ?_
  clear hK3
  refine aQ_ ?_
  iterate 4
   refine oC_ fun J hJ=>?_
   simp [go_sem]
   refine hJ _ _ _ ?_
   clear hJ J
  refine oN_ ?_
  refine aE_ ?_
  refine fQ_ [((2,0),some (0,999))] ?_
  simp [go_sem,Tryz.f11]
structure plEffBX where
 L:List Eff
 L':AV
 M:List Eff
 M':AV
 h_L:SlA 5 cEff L L'
 h_M:SlA 5 cEff M M'
 hL:L.length<=9223372036854775807
noncomputable def plEffBS:HSpec:=mkH (ι:=plEffBX) (fun ⟨L,L',M,M',h_L,h_M,hL⟩=>([L',M'],[])) fun ⟨L,L',M,M',h_L,h_M,hL⟩=>⟨.bool (decide (L=M)),[],[]⟩
theorem plEffBS_atG (L:List Eff) (L':AV) (M:List Eff) (M':AV) (h_L:SlA 5 cEff L L') (h_M:SlA 5 cEff M M') (hL:L.length<=9223372036854775807):plEffBS [L',M'] []=some (⟨.bool (decide (L=M)),[],[]⟩):=
 mA_ (ι:=plEffBX) (fun i j h=>by obtain ⟨L,L',M,M',h_L,h_M,hL⟩:=i; obtain ⟨L2,L'2,M2,M'2,h_L2,h_M2,hL2⟩:=j; simp [and_assoc,qB_,qI_,qO_,qC_,qE_,qK_,qR_,qV_,qP_,qOc_] at h; obtain ⟨rfl,rfl⟩:=h; obtain rfl:=SlA.inj (fun x y h=>cEff_inj h) h_L h_L2; obtain rfl:=SlA.inj (fun x y h=>cEff_inj h) h_M h_M2; rfl) ⟨L,L',M,M',h_L,h_M,hL⟩
theorem plEffBS_at (L:List Eff) (M:List Eff) (hL:L.length<=9223372036854775807):plEffBS [(.sl 5 (rows cEff L)),(.sl 5 (rows cEff M))] []=some (⟨.bool (decide (L=M)),[],[]⟩):=plEffBS_atG L _ M _ .sl .sl hL
def plEffBI (L M pre _post _q:List Eff):St:=⟨ofL [(0,.sl 5 (rows cEff L)),(1,.sl 5 (rows cEff M)),(5,.int .i64 pre.length)],hOf []⟩
theorem plEffB_ok:HSound Tryz.prog 39 plEffBS:=by
 refine sE_ (fn:=Tryz.f39) rfl rfl (by kernel_rfl) fun args bx hr hS=>?_
 obtain ⟨⟨L,L',M,M',h_L,h_M,hL⟩,rfl,rfl,rfl⟩:=mO_ hS
 clear hS
 refine ⟨_,(eN_ _),by simp [Tryz.f39],by simp [go_sem],fun w Mx pin=>?_⟩
 simp only [hB_at,lab_nil,lab_cons,hOf_nil,hOf_cons]
 refine aW_ (s':=⟨ofL [(0,(.sl 5 (rows cEff L))),(1,(.sl 5 (rows cEff M)))],hOf []⟩) ?_ ?_
 · cases h_L <;> cases h_M <;> exact wO_ [] (by simp [go_sem]) (by simp [go_sem]) (by simp [go_sem])
 clear h_L h_M
 refine aQ_ ?_
 iterate 1
  refine oC_ fun J hJ=>?_
  simp [go_sem]
  refine hJ _ _ _ ?_
  clear hJ J
 refine oN_ ?_
 refine aS_ fun K2 hK2=>?_
 refine aQ_ ?_
 iterate 5
  refine oC_ fun J hJ=>?_
  simp [go_sem]
  refine hJ _ _ _ ?_
  clear hJ J
 refine oN_ ?_
 refine aC_ (t:=_) rfl (fun c4=>?_) (fun c4=>?_)
 ·
  simp [go_sem] at c4
  have hne:L ≠ M:=fun h=>c4 (by rw [h])
  refine aQ_ ?_
  iterate 1
   refine oC_ fun J hJ=>?_
   simp [go_sem]
   refine hJ _ _ _ ?_
   clear hJ J
  refine oN_ ?_
  refine aE_ ?_
  refine fQ_ [] ?_
  simp [go_sem,Tryz.f39,hne]
 ·
  simp [go_sem] at c4
  refine aK_ ?_
  refine hK2 _ ?_
  clear hK2
  refine aS_ fun K6 hK6=>?_
  refine aQ_ ?_
  iterate 1
   refine oC_ fun J hJ=>?_
   simp [go_sem]
   refine hJ _ _ _ ?_
   clear hJ J
  refine oN_ ?_
  refine aB_ ?_
  refine aL_ (ι:={ q:List Eff × List Eff × List Eff // q.1++q.2.1=L/\q.1++q.2.2=M }) (fun q=>plEffBI L M q.1.1 q.1.2.1 q.1.2.2) (fun q=>q.1.2.1.length) ⟨([],L,M),rfl,rfl⟩ ?_ ?_
  · refine wO_ [] (by simp [go_sem]) ?_ ?_ <;> simp [go_sem]
  intro ⟨⟨pre,post,p2⟩,hl,hgo⟩
  simp only at hl hgo
  simp only [plEffBI]
  refine aS_ fun K8 hK8=>?_
  refine aQ_ ?_
  iterate 4
   refine oC_ fun J hJ=>?_
   simp [go_sem]
   refine hJ _ _ _ ?_
   clear hJ J
  refine oN_ ?_
  refine aC_ (t:=_) rfl (fun c10=>?_) (fun c10=>?_)
  ·
   simp [go_sem] at c10
   obtain ⟨x,post,rfl,hx⟩:=mL_ hl c10
   obtain ⟨y,p2,rfl,hy⟩:=mL_ hgo (by omega)
   refine aK_ ?_
   refine hK8 _ ?_
   clear hK8
   refine aS_ fun K11 hK11=>?_
   refine aB_ ?_
   refine aU_ ?_
   iterate 9
    refine oC_ fun J hJ=>?_
    simp [go_sem,hx,hy]
    refine hJ _ _ _ ?_
    clear hJ J
   refine oN_ ?_
   refine ⟨rfl,?_⟩
   refine aC_ (t:=_) rfl (fun c13=>?_) (fun c13=>?_)
   ·
    refine aQ_ ?_
    iterate 1
     refine oC_ fun J hJ=>?_
     simp [go_sem]
     refine hJ _ _ _ ?_
     clear hJ J
    refine oN_ ?_
    refine aE_ ?_
    have hne:L ≠ M:=by
     rintro rfl
     rw [hx] at hy
     cases hy
     simp at c13
    refine fQ_ [] ?_
    simp [go_sem,Tryz.f39,hne]
   ·
    refine aK_ ?_
    refine hK11 _ ?_
    clear hK11
    refine aR_ ?_
    iterate 3
     refine oC_ fun J hJ=>?_
     simp [go_sem]
     refine hJ _ _ _ ?_
     clear hJ J
    refine oN_ ?_
    obtain rfl:x=y:=by simpa using c13
    refine ⟨⟨(pre++[x],post,p2),by simp [<-hl],by rw [<-hgo]; simp⟩,?_,by simp⟩
    refine wO_ [] (by simp [go_sem]) ?_ ?_ <;> simp [go_sem,wrap_big hx hL]
  ·
   simp [go_sem] at c10
   obtain ⟨rfl,rfl⟩:=mN_ hl c10
   obtain rfl:p2=[]:=by have:=congrArg List.length hgo; simp at this; exact List.eq_nil_of_length_eq_zero (by omega)
   simp at hgo
   refine aX_ ?_
   simp only [go_sem]
   refine hK6 _ ?_
   clear hK6
   refine aQ_ ?_
   iterate 1
    refine oC_ fun J hJ=>?_
    simp [go_sem]
    refine hJ _ _ _ ?_
    clear hJ J
   refine oN_ ?_
   refine aE_ ?_
   refine fQ_ [] ?_
   simp [go_sem,Tryz.f39,hgo]
structure plOcBX where
 x:Outc
 y:Outc
 hL:x.effs.length<=9223372036854775807
noncomputable def plOcBS:HSpec:=mkH (ι:=plOcBX) (fun ⟨x,y,hL⟩=>([.agg (cOc x),.agg (cOc y)],[])) fun ⟨x,y,hL⟩=>⟨.bool (decide (x=y)),[],[]⟩
theorem plOcBS_atG (x:Outc) (y:Outc) (hL:x.effs.length<=9223372036854775807):plOcBS [.agg (cOc x),.agg (cOc y)] []=some (⟨.bool (decide (x=y)),[],[]⟩):=
 mA_ (ι:=plOcBX) (fun i j h=>by obtain ⟨x,y,hL⟩:=i; obtain ⟨x2,y2,hL2⟩:=j; simp [and_assoc,qB_,qI_,qO_,qC_,qE_,qK_,qR_,qV_,qP_,qOc_] at h; obtain ⟨rfl,rfl⟩:=h; rfl) ⟨x,y,hL⟩
theorem plOcBS_at (x:Outc) (y:Outc) (hL:x.effs.length<=9223372036854775807):plOcBS [.agg (cOc x),.agg (cOc y)] []=some (⟨.bool (decide (x=y)),[],[]⟩):=plOcBS_atG x y hL
theorem plOcB_ok:HSound Tryz.prog 14 plOcBS:=by
 refine sE_ (fn:=Tryz.f14) rfl rfl (by kernel_rfl) fun args bx hr hS=>?_
 obtain ⟨⟨x,y,hL⟩,rfl,rfl,rfl⟩:=mO_ hS
 clear hS
 refine ⟨_,(eV_ (g:=39) (by kernel_rfl) plEffB_ok (eN_ _)),by simp [Tryz.f14],by simp [go_sem],fun w Mx pin=>?_⟩
 simp only [hB_at,lab_nil,lab_cons,hOf_nil,hOf_cons]
 refine aQ_ ?_
 iterate 3
  refine oC_ fun J hJ=>?_
  simp [go_sem]
  refine hJ _ _ _ ?_
  clear hJ J
 refine oN_ ?_
 refine aS_ fun K2 hK2=>?_
 cases h1:(x.code == y.code)
 all_goals
  refine aR_ ?_
  iterate 13
   refine oC_ fun J hJ=>?_
   simp [go_sem,h1,plEffBS_at x.effs y.effs hL]
   refine hJ _ _ _ ?_
   clear hJ J
  refine oN_ ?_
  refine hK2 _ ?_
  clear hK2
  refine aE_ ?_
  refine fQ_ [] ?_
  rw [oc_dec,h1]
  simp [go_sem,Tryz.f14]
end Go.Proofs.YtjoaigccapegpaaGreat.AE
