/-
 LogsClones. Conditions: none; every contract names its own.
-/
import Derived.Test.YtjoaigccapegpaaGreatOLw19r
import Derived.Test.YtjoaigccapegpaaGreatOLgn
set_option linter.constructorNameAsVariable false
namespace Go.Proofs.YtjoaigccapegpaaGreat.AE
open Go Go.Proofs Go.RowKit
set_option linter.unusedVariables false
set_option linter.unusedSimpArgs false
set_option maxRecDepth 100000
set_option maxHeartbeats 4000000
theorem opsW_env {Γ:Ctx} {env env':Env} {Q:X->St->Prop} {s:St} {ops:Array Oper} {l:List Oper} (he:EnvOK Γ.P env') (h:opsW Γ env' ops l s Q):opsW Γ env ops l s Q:=fun _ hok μ a w hR=>h he hok μ a w hR
theorem opsW_lenV {Γ:Ctx} {env:Env} {Q:X->St->Prop} {s:St} {ops:Array Oper} {o:Oper} {l:List Oper} {x:Operand} {t:TypeId} (ho:o.op=.call ⟨.builtin .len,#[x],#[t]⟩) (hg:o.guard=none) {b:Bid} {os:List Ord} {i:TI} (hX:eva s.t x=ptV b os) (hT:TI.of Γ.P t=some i) (hs:i.slc=true)
  (h:opsW Γ env ops l ⟨tput s.t o.dst (.int .i64 os.length),s.H⟩ Q):opsW Γ env ops (o :: l) s Q:=by
 cases os with
 | nil=>
  refine opsW_sim (r:=⟨.int .i64 0,[],[],[],none⟩) hg (fun μ a w hok hR=>?_) (H1:=s.H) rfl rfl h
  have hx:=eva_rep hR x
  rw [hX,show ptV b []=.sl 7 [] from rfl] at hx
  obtain ⟨e,q,d,u1,_⟩:=slice_info hT hs
  generalize hval:a.eval x=y at hx
  cases hx with
  | sl _ _ _ a' c f hc hm hk hv hr=>exact simV hR (opOK_dst hok) (x:=goInt 0) (by simp [execOp,ho,resolve,invoke,builtin,Builtin.len_,hval,run_underlying u1]) (.int _ _ _)
 | cons y r=>exact opsW_lenpt (k:=7) (n:=(y :: r).length) ho hg (hX.trans (if_neg (by simp))) hT hs h
theorem back_ptV (bs:List Bid) (b0:Bid) (d j:Nat) (os:List Ord):back bs b0 (d + 1) (ptV (2,j) os)=ptV (b0.1,b0.2 + j) os:=by
 unfold ptV
 split <;> simp [go_sem]
theorem renB_ptB (f:AV->AV) (os:List Ord):renB f (ptB os)=ptB os:=by
 unfold ptB
 split <;> simp [go_sem]
def clonesI (B D A pre _post:List Op) (s:LS):St:=⟨ofL [(0,.sl 12 (rows cOp A)),(1,.sl 12 (rows cOp B)),(2,.sl 12 (rows cOp D)),(7,.ref (0,400) 0),(8,.ref (0,432) 0),(9,.int .i64 pre.length)],hOf [((0,400),.obj (cLg (.own (0,401) s.d.length) (.own (0,402) s.d.length) (bD s.d).1 (.sl 7 (rows cOrd (bD s.d).2)) (.bool true) (.ref (0,403) 0) s.v s.u)),((0,401),.row 35 9 (rows cChg s.d) false),((0,402),.row 50 2 (rows cOc (oD s.d)) false),((0,403),.obj [.sl 9 (rows cChg s.r)]),((0,432),.obj [.sl 9 (rows cChg (s.d)),.sl 9 (rows cChg (s.r))])]⟩
def clonesJ (B D:List Op) (s:LS) (b:Bk) (os:List Ord) (j:Nat):St:=⟨ofL [(1,.sl 12 (rows cOp B)),(2,.sl 12 (rows cOp D)),(7,.ref (0,400) 0),(8,.ref (0,432) 0),(10,.ref (0,784) 0),(11,.ref (0,816) 0),(12,.ref (0,192) 0),(13,.int .i64 j)],hOf [((0,400),.obj (cLg (.own (0,401) s.d.length) (.own (0,402) s.d.length) (bD s.d).1 (.sl 7 (rows cOrd (bD s.d).2)) (.bool true) (.ref (0,403) 0) s.v s.u)),((0,401),.row 35 9 (rows cChg s.d) false),((0,402),.row 50 2 (rows cOc (oD s.d)) false),((0,403),.obj [.sl 9 (rows cChg s.r)]),((0,432),.obj [.sl 9 (rows cChg (s.d)),.sl 9 (rows cChg (s.r))]),((0,784),.obj (cLg (.own (0,785) s.d.length) (.own (0,786) s.d.length) (bD s.d).1 (.sl 7 (rows cOrd (bD s.d).2)) (.bool true) (.ref (0,787) 0) s.v s.u)),((0,785),.row 35 9 (rows cChg s.d) false),((0,786),.row 50 2 (rows cOc (oD s.d)) false),((0,787),.obj [.sl 9 (rows cChg s.r)]),((0,816),.obj [.sl 9 (rows cChg (s.d)),.sl 9 (rows cChg (s.r))]),((0,192),.obj (cBk b (ptV (0,848) os))),((0,848),ptB os)]⟩
def clonesK (D:List Op) (p:LS) (B pre _post:List Op) (s:LS):St:=⟨ofL [(1,.sl 12 (rows cOp B)),(2,.sl 12 (rows cOp D)),(7,.ref (0,400) 0),(8,.ref (0,432) 0),(10,.ref (0,784) 0),(11,.ref (0,816) 0),(14,.int .i64 pre.length)],hOf [((0,400),.obj (cLg (.own (0,401) s.d.length) (.own (0,402) s.d.length) (bD s.d).1 (.sl 7 (rows cOrd (bD s.d).2)) (.bool true) (.ref (0,403) 0) s.v s.u)),((0,401),.row 35 9 (rows cChg s.d) false),((0,402),.row 50 2 (rows cOc (oD s.d)) false),((0,403),.obj [.sl 9 (rows cChg s.r)]),((0,432),.obj [.sl 9 (rows cChg (s.d)),.sl 9 (rows cChg (s.r))]),((0,784),.obj (cLg (.own (0,785) p.d.length) (.own (0,786) p.d.length) (bD p.d).1 (.sl 7 (rows cOrd (bD p.d).2)) (.bool true) (.ref (0,787) 0) p.v p.u)),((0,785),.row 35 9 (rows cChg p.d) false),((0,786),.row 50 2 (rows cOc (oD p.d)) false),((0,787),.obj [.sl 9 (rows cChg p.r)]),((0,816),.obj [.sl 9 (rows cChg (p.d)),.sl 9 (rows cChg (p.r))])]⟩
def clonesL (s:LS) (D pre _post:List Op) (t:LS):St:=⟨ofL [(2,.sl 12 (rows cOp D)),(7,.ref (0,400) 0),(8,.ref (0,432) 0),(10,.ref (0,784) 0),(11,.ref (0,816) 0),(15,.int .i64 pre.length)],hOf [((0,400),.obj (cLg (.own (0,401) s.d.length) (.own (0,402) s.d.length) (bD s.d).1 (.sl 7 (rows cOrd (bD s.d).2)) (.bool true) (.ref (0,403) 0) s.v s.u)),((0,401),.row 35 9 (rows cChg s.d) false),((0,402),.row 50 2 (rows cOc (oD s.d)) false),((0,403),.obj [.sl 9 (rows cChg s.r)]),((0,432),.obj [.sl 9 (rows cChg (s.d)),.sl 9 (rows cChg (s.r))]),((0,784),.obj (cLg (.own (0,785) t.d.length) (.own (0,786) t.d.length) (bD t.d).1 (.sl 7 (rows cOrd (bD t.d).2)) (.bool true) (.ref (0,787) 0) t.v t.u)),((0,785),.row 35 9 (rows cChg t.d) false),((0,786),.row 50 2 (rows cOc (oD t.d)) false),((0,787),.obj [.sl 9 (rows cChg t.r)]),((0,816),.obj [.sl 9 (rows cChg (t.d)),.sl 9 (rows cChg (t.r))])]⟩
structure logsClonesX where
 os:List Op
 os':AV
 qs:List Op
 qs':AV
 ps:List Op
 ps':AV
 h_os:SlA 12 cOp os os'
 h_qs:SlA 12 cOp qs qs'
 h_ps:SlA 12 cOp ps ps'
noncomputable def logsClonesS:HSpec:=mkH (ι:=logsClonesX) (fun ⟨os,os',qs,qs',ps,ps',h_os,h_qs,h_ps⟩=>([os',qs',ps'],[])) fun ⟨os,os',qs,qs',ps,ps',h_os,h_qs,h_ps⟩=>⟨.bool true,[],[]⟩
theorem logsClonesS_atG (os:List Op) (os':AV) (qs:List Op) (qs':AV) (ps:List Op) (ps':AV) (h_os:SlA 12 cOp os os') (h_qs:SlA 12 cOp qs qs') (h_ps:SlA 12 cOp ps ps'):logsClonesS [os',qs',ps'] []=some (⟨.bool true,[],[]⟩):=
 mA_ (ι:=logsClonesX) (fun i j h=>by obtain ⟨os,os',qs,qs',ps,ps',h_os,h_qs,h_ps⟩:=i; obtain ⟨os2,os'2,qs2,qs'2,ps2,ps'2,h_os2,h_qs2,h_ps2⟩:=j; simp [and_assoc,qB_,qI_,qO_,qC_,qE_,qK_,qR_,qV_,qP_,qOc_] at h; obtain ⟨rfl,rfl,rfl⟩:=h; obtain rfl:=SlA.inj (fun x y h=>cOp_inj h) h_os h_os2; obtain rfl:=SlA.inj (fun x y h=>cOp_inj h) h_qs h_qs2; obtain rfl:=SlA.inj (fun x y h=>cOp_inj h) h_ps h_ps2; rfl) ⟨os,os',qs,qs',ps,ps',h_os,h_qs,h_ps⟩
theorem logsClonesS_at (os:List Op) (qs:List Op) (ps:List Op):logsClonesS [(.sl 12 (rows cOp os)),(.sl 12 (rows cOp qs)),(.sl 12 (rows cOp ps))] []=some (⟨.bool true,[],[]⟩):=logsClonesS_atG os _ qs _ ps _ .sl .sl .sl
theorem clone_n:twoS lCloneS (twoS nCloneS oCloneS) [.nilp] []=some ⟨.nilp,[],[]⟩:=twoS_right (by unfold lCloneS; exact mkH_none fun i h=>by cases i; simp at h) (twoS_left _ nCloneS_at)
theorem clone_o:twoS lCloneS (twoS nCloneS oCloneS) [.ref (1,0) 0] [.obj (cLg .nils .nils zBk .nils (.bool false) .nilp (zV 4) (zV 4))]=some ⟨.nilp,[.obj (cLg .nils .nils zBk .nils (.bool false) .nilp (zV 4) (zV 4))],[]⟩:=twoS_right (by unfold lCloneS; exact mkH_none fun i h=>by cases i; simp at h) (twoS_right (by unfold nCloneS; exact mkH_none fun i h=>by cases i; simp at h) oCloneS_at)
theorem logsClones_ok:HSound Tryz.prog 5 logsClonesS:=by
 refine sE_ (fn:=Tryz.f5) rfl rfl (by kernel_rfl) fun args bx hr hS=>?_
 obtain ⟨⟨os,os',qs,qs',ps,ps',h_os,h_qs,h_ps⟩,rfl,rfl,rfl⟩:=mO_ hS
 clear hS
 refine ⟨_,(eV_ (g:=6) (by kernel_rfl) alive19_ok (eH_ (g:=7) (by kernel_rfl) lNew_ok (eV_ (g:=8) (by kernel_rfl) few19_ok (eH_ (g:=9) (by kernel_rfl) step_ok (eH_ (g:=21) (by kernel_rfl) (twoS_sound lClone_ok (twoS_sound nClone_ok oClone_ok)) (eH_ (g:=22) (by kernel_rfl) rClone_ok (eH_ (g:=19) (by kernel_rfl) (twoS_sound lSeen_ok nSeen_ok) (eV_ (g:=17) (by kernel_rfl) told_ok (eH_ (g:=16) (by kernel_rfl) lBase_ok (eH_ (g:=18) (by kernel_rfl) rBase_ok (eH_ (g:=20) (by kernel_rfl) rSeen_ok (eV_ (g:=15) (by kernel_rfl) plBook_ok (eH_ (g:=13) (by kernel_rfl) (twoS_sound lOut_ok nOut_ok) (eV_ (g:=23) (by kernel_rfl) (twoS_sound lFirst_ok nFirst_ok) (eH_ (g:=24) (by kernel_rfl) (twoS_sound lAdd_ok nAdd_ok) (eH_ (g:=25) (by kernel_rfl) (twoS_sound lCom_ok nCom_ok) (eV_ (g:=26) (by kernel_rfl) (twoS_sound lClock_ok nClock_ok) (eV_ (g:=10) (by kernel_rfl) (twoS_sound lComm_ok nComm_ok) (eV_ (g:=27) (by kernel_rfl) (twoS_sound lTent_ok nTent_ok) (eV_ (g:=28) (by kernel_rfl) (twoS_sound lKnown_ok nKnown_ok) (eN_ _))))))))))))))))))))),by simp [Tryz.f5],by simp [go_sem],fun w Mx pin=>?_⟩
 simp only [hB_at,lab_nil,lab_cons,hOf_nil,hOf_cons]
 refine aW_ (s':=⟨ofL [(0,(.sl 12 (rows cOp os))),(1,(.sl 12 (rows cOp qs))),(2,(.sl 12 (rows cOp ps)))],hOf []⟩) ?_ ?_
 · cases h_os <;> cases h_qs <;> cases h_ps <;> exact wO_ [] (by simp [go_sem]) (by simp [go_sem]) (by simp [go_sem])
 clear h_os h_qs h_ps
 obtain ⟨A,hA⟩:∃ L,L=os.take 60:=⟨_,rfl⟩
 obtain ⟨B,hB⟩:∃ L,L=qs.take 60:=⟨_,rfl⟩
 obtain ⟨D,hD⟩:∃ L,L=ps.take 60:=⟨_,rfl⟩
 have e6:A.length<=100000:=by rw [hA]; simp; omega
 have e7:B.length<=100000:=by rw [hB]; simp; omega
 have e8:D.length<=100000:=by rw [hD]; simp; omega
 refine aQ_ ?_
 iterate 1
  refine oC_ fun J hJ=>?_
  simp [go_sem]
  refine hJ _ _ _ ?_
 refine oN_ ?_
 refine aS_ fun K2 hK2=>?_
 refine aQ_ ?_
 iterate 2
  refine oC_ fun J hJ=>?_
  simp [go_sem,alive19S_at]
  refine hJ _ _ _ ?_
 refine oN_ ?_
 refine aF_ rfl ?_
 refine aK_ ?_
 refine hK2 _ ?_
 refine aQ_ ?_
 iterate 5
  refine oC_ fun J hJ=>?_
  simp [go_sem,↓lNew_S]
  refine hJ _ _ _ ?_
 refine oN_ ?_
 refine aQ_ ?_
 iterate 9
  refine oC_ fun J hJ=>?_
  simp [go_sem,few19S_at os,few19S_at qs,few19S_at ps,<-hA,<-hB,<-hD]
  refine hJ _ _ _ ?_
 refine oN_ ?_
 refine aS_ fun K8 hK8=>?_
 refine aQ_ ?_
 iterate 1
  refine oC_ fun J hJ=>?_
  simp [go_sem]
  refine hJ _ _ _ ?_
 refine oN_ ?_
 refine aB_ ?_
 refine aL_ (ι:={ q:List Op × List Op × LS // q.1++q.2.1=A/\okS q.2.2 }) (fun q=>clonesI B D A q.1.1 q.1.2.1 q.1.2.2) (fun q=>q.1.2.1.length) ⟨([],A,zS),rfl,okS_z⟩ ?_ ?_
 · refine wO_ [((0,400),some (0,400)),((0,401),some (0,401)),((0,402),some (0,402)),((0,403),some (0,403)),((0,432),some (0,432))] (by simp [go_sem]) ?_ ?_ <;> simp [go_sem,zS_d,zS_r]
 intro ⟨⟨pre,post,s⟩,hl,hgo⟩
 simp only at hl hgo
 have hpl:=lS_ hl e6
 simp only [clonesI]
 refine aS_ fun K10 hK10=>?_
 refine aQ_ ?_
 iterate 4
  refine oC_ fun J hJ=>?_
  simp [go_sem]
  refine hJ _ _ _ ?_
 refine oN_ ?_
 refine aC_ (t:=_) rfl (fun c12=>?_) (fun c12=>?_)
 ·
  simp [go_sem] at c12
  obtain ⟨x,post,rfl,hx⟩:=mL_ hl c12
  obtain ⟨s1,hs1⟩:∃ s1,s1=stS s x:=⟨_,rfl⟩
  have hst:=stepS_at s x hgo
  rw [<-hs1] at hst
  refine aK_ ?_
  refine hK10 _ ?_
  refine aS_ fun K13 hK13=>?_
  refine aB_ ?_
  refine aQ_ ?_
  iterate 8
   refine oC_ fun J hJ=>?_
   simp [go_sem,hx,↓hst]
   refine hJ _ _ _ ?_
  refine oN_ ?_
  refine aF_ rfl ?_
  refine aK_ ?_
  refine hK13 _ ?_
  refine aR_ ?_
  iterate 3
   refine oC_ fun J hJ=>?_
   simp [go_sem]
   refine hJ _ _ _ ?_
  refine oN_ ?_
  refine ⟨⟨(pre++[x],post,stS s x),by simp [<-hl],by exact okS_st hgo x⟩,?_,by simp⟩
  refine wO_ [((0,400),some (0,400)),((0,401),some (0,736)),((0,402),some (0,737)),((0,403),some (0,403)),((0,432),some (0,432))] (by simp [go_sem]) ?_ ?_ <;> simp [go_sem,wN_ hpl,<-hs1]
 ·
  simp [go_sem] at c12
  obtain ⟨rfl,rfl⟩:=mN_ hl c12
  clear hl
  have hs:=okS_len hgo
  have hsn:=lSeenHS_at s.d s.r s.v s.u (by omega)
  have hbl:=(bD_fair (s.d++s.r)).2.2
  rw [List.length_append] at hbl
  generalize bD (s.d++s.r)=B2 at hsn hbl
  have hcl:=twoS_left (twoS nCloneS oCloneS) (lCloneS_at s.d s.r s.v s.u (by omega))
  have hrc:=rCloneS_at s.d s.r (by omega)
  refine aX_ ?_
  simp only [go_sem]
  refine hK8 _ ?_
  refine aS_ fun K17 hK17=>?_
  refine awp_regionW ?_
  refine opsW_cons fun J hJ=>?_
  simp [go_sem]
  refine hJ _ _ _ ?_
  refine opsW_cons fun J hJ=>?_
  simp [go_sem,↓hcl]
  refine hJ _ _ _ ?_
  refine opsW_cons fun J hJ=>?_
  simp [go_sem]
  refine hJ _ _ _ ?_
  refine opsW_cons fun J hJ=>?_
  simp [go_sem,↓hrc]
  refine hJ _ _ _ ?_
  refine opsW_cons fun J hJ=>?_
  simp [go_sem]
  refine hJ _ _ _ ?_
  refine opsW_env (eH_ (g:=19) (by kernel_rfl) lSeenH_ok (eN_ _)) ?_
  refine opsW_cons fun J hJ=>?_
  simp [go_sem,↓hsn,back_ptV,renB_ptB]
  refine hJ _ _ _ ?_
  refine opsW_cons fun J hJ=>?_
  simp [go_sem]
  refine hJ _ _ _ ?_
  refine opsW_cons fun J hJ=>?_
  simp [go_sem]
  refine hJ _ _ _ ?_
  refine opsW_cons fun J hJ=>?_
  simp [go_sem]
  refine hJ _ _ _ ?_
  refine opsW_cons fun J hJ=>?_
  simp [go_sem]
  refine hJ _ _ _ ?_
  refine opsW_nil ?_
  refine hK17 _ ?_
  refine aS_ fun K18 hK18=>?_
  refine aQ_ ?_
  iterate 1
   refine oC_ fun J hJ=>?_
   simp [go_sem]
   refine hJ _ _ _ ?_
  refine oN_ ?_
  refine aB_ ?_
  refine aL_ (ι:={ j:Nat // j<=B2.2.length }) (fun j=>clonesJ B D s B2.1 B2.2 j.1) (fun j=>B2.2.length - j.1) ⟨0,Nat.zero_le _⟩ ?_ ?_
  · refine wO_ [((0,400),some (0,400)),((0,401),some (0,401)),((0,402),some (0,402)),((0,403),some (0,403)),((0,432),some (0,432)),((0,784),some (0,784)),((0,785),some (0,785)),((0,786),some (0,786)),((0,787),some (0,787)),((0,816),some (0,816)),((0,192),some (0,192)),((0,848),some (0,848))] (by simp [go_sem]) ?_ ?_ <;> by_cases hz:B2.2=[] <;> simp [go_sem,ptV,ptB,hz]
  intro ⟨j,hj⟩
  simp only [clonesJ]
  refine aS_ fun K20 hK20=>?_
  refine aS_ fun K21 hK21=>?_
  refine awp_regionW ?_
  refine opsW_cons fun J hJ=>?_
  simp [go_sem]
  refine hJ _ _ _ ?_
  refine opsW_cons fun J hJ=>?_
  simp [go_sem]
  refine hJ _ _ _ ?_
  refine opsW_cons fun J hJ=>?_
  simp [go_sem]
  refine hJ _ _ _ ?_
  refine opsW_lenV (b:=(0,848)) (os:=B2.2) rfl rfl (by simp [go_sem]) ti40 rfl ?_
  refine opsW_cons fun J hJ=>?_
  simp [go_sem]
  refine hJ _ _ _ ?_
  refine opsW_nil ?_
  refine hK21 _ ?_
  refine aC_ (t:=_) rfl (fun c22=>?_) (fun c22=>?_)
  ·
   simp [go_sem] at c22
   have hz:¬ B2.2=[]:=by intro h; rw [h] at c22; simp at c22
   have wj:=wN_ (n:=j) (by omega)
   refine aK_ ?_
   refine hK20 _ ?_
   refine aS_ fun K23 hK23=>?_
   refine aB_ ?_
   refine awp_regionW ?_
   refine opsW_cons fun J hJ=>?_
   simp [go_sem]
   refine hJ _ _ _ ?_
   refine opsW_cons fun J hJ=>?_
   simp [go_sem]
   refine hJ _ _ _ ?_
   refine opsW_cons fun J hJ=>?_
   simp [go_sem]
   refine hJ _ _ _ ?_
   refine opsW_putpt (b:=(0,848)) (k:=7) (n:=B2.2.length) (off:=4) (j:=(j:Int)) rfl rfl rfl rfl rfl rfl rfl rfl rfl (by simp [go_sem,ptV,hz]) (by simp [go_sem]; rfl) ⟨by omega,by omega⟩ (by simp [go_sem,ptB,hz]) ti40 rfl rfl ti61 rfl (by decide) ti2 rfl ?_
   refine opsW_nil ?_
   refine hK23 _ ?_
   refine aR_ ?_
   iterate 3
    refine oC_ fun J hJ=>?_
    simp [go_sem]
    refine hJ _ _ _ ?_
   refine oN_ ?_
   refine ⟨⟨j + 1,by omega⟩,?_,by simp only; omega⟩
   refine wO_ [((0,400),some (0,400)),((0,401),some (0,401)),((0,402),some (0,402)),((0,403),some (0,403)),((0,432),some (0,432)),((0,784),some (0,784)),((0,785),some (0,785)),((0,786),some (0,786)),((0,787),some (0,787)),((0,816),some (0,816)),((0,192),some (0,192)),((0,848),some (0,848))] (by simp [go_sem]) ?_ ?_ <;> simp [go_sem,ptV,ptB,hz,wj]
  ·
   simp [go_sem] at c22
   refine aX_ ?_
   simp only [go_sem]
   refine hK18 _ ?_
   refine aS_ fun K24 hK24=>?_
   refine aQ_ ?_
   iterate 1
    refine oC_ fun J hJ=>?_
    simp [go_sem]
    refine hJ _ _ _ ?_
   refine oN_ ?_
   refine aB_ ?_
   refine aL_ (ι:={ q:List Op × List Op × LS // q.1++q.2.1=B/\okS q.2.2 }) (fun q=>clonesK D s B q.1.1 q.1.2.1 q.1.2.2) (fun q=>q.1.2.1.length) ⟨([],B,s),rfl,hgo⟩ ?_ ?_
   · refine wO_ [((0,400),some (0,400)),((0,401),some (0,401)),((0,402),some (0,402)),((0,403),some (0,403)),((0,432),some (0,432)),((0,784),some (0,784)),((0,785),some (0,785)),((0,786),some (0,786)),((0,787),some (0,787)),((0,816),some (0,816))] (by simp [go_sem]) ?_ ?_ <;> simp [go_sem]
   intro ⟨⟨pre,post,t⟩,hl,hgo3⟩
   simp only at hl hgo3
   have hpl:=lS_ hl e7
   simp only [clonesK]
   refine aS_ fun K26 hK26=>?_
   refine aQ_ ?_
   iterate 4
    refine oC_ fun J hJ=>?_
    simp [go_sem]
    refine hJ _ _ _ ?_
   refine oN_ ?_
   refine aC_ (t:=_) rfl (fun c28=>?_) (fun c28=>?_)
   ·
    simp [go_sem] at c28
    obtain ⟨x,post,rfl,hx⟩:=mL_ hl c28
    obtain ⟨s1,hs1⟩:∃ s1,s1=stS t x:=⟨_,rfl⟩
    have hst:=stepS_at t x hgo3
    rw [<-hs1] at hst
    refine aK_ ?_
    refine hK26 _ ?_
    refine aS_ fun K29 hK29=>?_
    refine aB_ ?_
    refine aQ_ ?_
    iterate 8
     refine oC_ fun J hJ=>?_
     simp [go_sem,hx,↓hst]
     refine hJ _ _ _ ?_
    refine oN_ ?_
    refine aF_ rfl ?_
    refine aK_ ?_
    refine hK29 _ ?_
    refine aR_ ?_
    iterate 3
     refine oC_ fun J hJ=>?_
     simp [go_sem]
     refine hJ _ _ _ ?_
    refine oN_ ?_
    refine ⟨⟨(pre++[x],post,stS t x),by simp [<-hl],by exact okS_st hgo3 x⟩,?_,by simp⟩
    refine wO_ [((0,400),some (0,400)),((0,401),some (0,1248)),((0,402),some (0,1249)),((0,403),some (0,403)),((0,432),some (0,432)),((0,784),some (0,784)),((0,785),some (0,785)),((0,786),some (0,786)),((0,787),some (0,787)),((0,816),some (0,816))] (by simp [go_sem]) ?_ ?_ <;> simp [go_sem,wN_ hpl,<-hs1]
   ·
    simp [go_sem] at c28
    obtain ⟨rfl,rfl⟩:=mN_ hl c28
    clear hl
    refine aX_ ?_
    simp only [go_sem]
    refine hK24 _ ?_
    refine aS_ fun K33 hK33=>?_
    refine aQ_ ?_
    iterate 1
     refine oC_ fun J hJ=>?_
     simp [go_sem]
     refine hJ _ _ _ ?_
    refine oN_ ?_
    refine aB_ ?_
    refine aL_ (ι:={ q:List Op × List Op × LS // q.1++q.2.1=D/\okS q.2.2 }) (fun q=>clonesL t D q.1.1 q.1.2.1 q.1.2.2) (fun q=>q.1.2.1.length) ⟨([],D,s),rfl,hgo⟩ ?_ ?_
    · refine wO_ [((0,400),some (0,400)),((0,401),some (0,401)),((0,402),some (0,402)),((0,403),some (0,403)),((0,432),some (0,432)),((0,784),some (0,784)),((0,785),some (0,785)),((0,786),some (0,786)),((0,787),some (0,787)),((0,816),some (0,816))] (by simp [go_sem]) ?_ ?_ <;> simp [go_sem]
    intro ⟨⟨pre,post,k⟩,hl,hgo4⟩
    simp only at hl hgo4
    have hpl:=lS_ hl e8
    simp only [clonesL]
    refine aS_ fun K35 hK35=>?_
    refine aQ_ ?_
    iterate 4
     refine oC_ fun J hJ=>?_
     simp [go_sem]
     refine hJ _ _ _ ?_
    refine oN_ ?_
    refine aC_ (t:=_) rfl (fun c37=>?_) (fun c37=>?_)
    ·
     simp [go_sem] at c37
     obtain ⟨x,post,rfl,hx⟩:=mL_ hl c37
     obtain ⟨s1,hs1⟩:∃ s1,s1=stS k x:=⟨_,rfl⟩
     have hst:=stepS_at k x hgo4
     rw [<-hs1] at hst
     refine aK_ ?_
     refine hK35 _ ?_
     refine aS_ fun K38 hK38=>?_
     refine aB_ ?_
     refine aQ_ ?_
     iterate 8
      refine oC_ fun J hJ=>?_
      simp [go_sem,hx,↓hst]
      refine hJ _ _ _ ?_
     refine oN_ ?_
     refine aF_ rfl ?_
     refine aK_ ?_
     refine hK38 _ ?_
     refine aR_ ?_
     iterate 3
      refine oC_ fun J hJ=>?_
      simp [go_sem]
      refine hJ _ _ _ ?_
     refine oN_ ?_
     refine ⟨⟨(pre++[x],post,stS k x),by simp [<-hl],by exact okS_st hgo4 x⟩,?_,by simp⟩
     refine wO_ [((0,400),some (0,400)),((0,401),some (0,401)),((0,402),some (0,402)),((0,403),some (0,403)),((0,432),some (0,432)),((0,784),some (0,784)),((0,785),some (0,1472)),((0,786),some (0,1473)),((0,787),some (0,787)),((0,816),some (0,816))] (by simp [go_sem]) ?_ ?_ <;> simp [go_sem,wN_ hpl,<-hs1]
    ·
     simp [go_sem] at c37
     obtain ⟨rfl,rfl⟩:=mN_ hl c37
     have ht:=okS_len hgo3
     have hk:=okS_len hgo4
     have hb1:=(bD_fair t.d).2.2
     have hb2:=(bD_fair (k.d++k.r)).2.2
     rw [List.length_append] at hb2
     refine aX_ ?_
     simp only [go_sem]
     refine hK33 _ ?_
     refine aQ_ ?_
     iterate 1
      refine oC_ fun J hJ=>?_
      simp [go_sem]
      refine hJ _ _ _ ?_
     refine oN_ ?_
     refine aQ_ ?_
     iterate 3
      refine oC_ fun J hJ=>?_
      simp [go_sem]
      refine hJ _ _ _ ?_
     refine oN_ ?_
     refine aQ_ ?_
     refine oC_ fun J hJ=>?_
     simp [go_sem,zOc_cells]
     refine hJ _ _ _ ?_
     refine oC_ fun J hJ=>?_
     simp [go_sem,zOc_cells]
     refine hJ _ _ _ ?_
     refine oC_ fun J hJ=>?_
     simp [go_sem,↓nOut_or]
     refine hJ _ _ _ ?_
     refine oC_ fun J hJ=>?_
     simp [go_sem,zOc_cells]
     refine hJ _ _ _ ?_
     refine oC_ fun J hJ=>?_
     simp [go_sem,zOc_cells]
     refine hJ _ _ _ ?_
     refine oC_ fun J hJ=>?_
     simp [go_sem,zOc_cells]
     refine hJ _ _ _ ?_
     refine oC_ fun J hJ=>?_
     simp [go_sem,zOc_cells]
     refine hJ _ _ _ ?_
     refine oC_ fun J hJ=>?_
     simp [go_sem,zOc_cells]
     refine hJ _ _ _ ?_
     refine oC_ fun J hJ=>?_
     simp [go_sem,zOc_cells]
     refine hJ _ _ _ ?_
     refine oC_ fun J hJ=>?_
     simp [go_sem,zOc_cells]
     refine hJ _ _ _ ?_
     refine oC_ fun J hJ=>?_
     simp [go_sem,zOc_cells]
     refine hJ _ _ _ ?_
     refine oN_ ?_
     refine aQ_ ?_
     iterate 8
      refine oC_ fun J hJ=>?_
      simp [go_sem,↓nFirst_or]
      refine hJ _ _ _ ?_
     refine oN_ ?_
     refine aQ_ ?_
     refine oC_ fun J hJ=>?_
     simp [go_sem]
     refine hJ _ _ _ ?_
     refine oC_ fun J hJ=>?_
     simp [go_sem]
     refine hJ _ _ _ ?_
     refine oC_ fun J hJ=>?_
     simp [go_sem,toldS_at t.d t.r t.v t.u hgo3]
     refine hJ _ _ _ ?_
     refine oC_ fun J hJ=>?_
     simp [go_sem]
     refine hJ _ _ _ ?_
     refine oC_ fun J hJ=>?_
     simp [go_sem]
     refine hJ _ _ _ ?_
     refine oC_ fun J hJ=>?_
     simp [go_sem]
     refine hJ _ _ _ ?_
     refine oC_ fun J hJ=>?_
     simp [go_sem,toldS_at k.d k.r k.v k.u hgo4]
     refine hJ _ _ _ ?_
     refine oC_ fun J hJ=>?_
     simp [go_sem]
     refine hJ _ _ _ ?_
     refine oC_ fun J hJ=>?_
     simp [go_sem]
     refine hJ _ _ _ ?_
     refine oC_ fun J hJ=>?_
     simp [go_sem]
     refine hJ _ _ _ ?_
     refine oC_ fun J hJ=>?_
     simp [go_sem,lBaseS_at t.d t.r t.v t.u (by omega)]
     refine hJ _ _ _ ?_
     refine oC_ fun J hJ=>?_
     simp [go_sem]
     refine hJ _ _ _ ?_
     refine oC_ fun J hJ=>?_
     simp [go_sem,rBaseS_at t.d t.r (by omega)]
     refine hJ _ _ _ ?_
     refine oC_ fun J hJ=>?_
     simp [go_sem,plBookS_at (bD t.d).1 (bD t.d).2 (bD t.d).1 (bD t.d).2 (by omega),sameB_s]
     refine hJ _ _ _ ?_
     refine oC_ fun J hJ=>?_
     simp [go_sem]
     refine hJ _ _ _ ?_
     refine oC_ fun J hJ=>?_
     simp [go_sem]
     refine hJ _ _ _ ?_
     refine oC_ fun J hJ=>?_
     simp [go_sem]
     refine hJ _ _ _ ?_
     refine oC_ fun J hJ=>?_
     simp [go_sem,twoS_left nSeenS (lSeenS_at k.d k.r k.v k.u (by omega))]
     refine hJ _ _ _ ?_
     refine oC_ fun J hJ=>?_
     simp [go_sem]
     refine hJ _ _ _ ?_
     refine oC_ fun J hJ=>?_
     simp [go_sem,rSeenS_at k.d k.r (by omega)]
     refine hJ _ _ _ ?_
     refine oC_ fun J hJ=>?_
     simp [go_sem,plBookS_at (bD (k.d++k.r)).1 (bD (k.d++k.r)).2 (bD (k.d++k.r)).1 (bD (k.d++k.r)).2 (by omega),sameB_s]
     refine hJ _ _ _ ?_
     refine oC_ fun J hJ=>?_
     simp [go_sem]
     refine hJ _ _ _ ?_
     refine oC_ fun J hJ=>?_
     simp [go_sem]
     refine hJ _ _ _ ?_
     refine oC_ fun J hJ=>?_
     simp [go_sem]
     refine hJ _ _ _ ?_
     refine oC_ fun J hJ=>?_
     simp [go_sem]
     refine hJ _ _ _ ?_
     refine oC_ fun J hJ=>?_
     simp [go_sem,↓nAdd_or]
     refine hJ _ _ _ ?_
     refine oC_ fun J hJ=>?_
     simp [go_sem]
     refine hJ _ _ _ ?_
     refine oC_ fun J hJ=>?_
     simp [go_sem]
     refine hJ _ _ _ ?_
     refine oC_ fun J hJ=>?_
     simp [go_sem]
     refine hJ _ _ _ ?_
     refine oC_ fun J hJ=>?_
     simp [go_sem]
     refine hJ _ _ _ ?_
     refine oC_ fun J hJ=>?_
     simp [go_sem]
     refine hJ _ _ _ ?_
     refine oC_ fun J hJ=>?_
     simp [go_sem,↓nCom_or]
     refine hJ _ _ _ ?_
     refine oC_ fun J hJ=>?_
     simp [go_sem]
     refine hJ _ _ _ ?_
     refine oC_ fun J hJ=>?_
     simp [go_sem]
     refine hJ _ _ _ ?_
     refine oC_ fun J hJ=>?_
     simp [go_sem]
     refine hJ _ _ _ ?_
     refine oC_ fun J hJ=>?_
     simp [go_sem]
     refine hJ _ _ _ ?_
     refine oC_ fun J hJ=>?_
     simp [go_sem]
     refine hJ _ _ _ ?_
     refine oC_ fun J hJ=>?_
     simp [go_sem]
     refine hJ _ _ _ ?_
     refine oC_ fun J hJ=>?_
     simp [go_sem]
     refine hJ _ _ _ ?_
     refine oC_ fun J hJ=>?_
     simp [go_sem]
     refine hJ _ _ _ ?_
     refine oC_ fun J hJ=>?_
     simp [go_sem]
     refine hJ _ _ _ ?_
     refine oC_ fun J hJ=>?_
     simp [go_sem]
     refine hJ _ _ _ ?_
     refine oC_ fun J hJ=>?_
     simp [go_sem]
     refine hJ _ _ _ ?_
     refine oC_ fun J hJ=>?_
     simp [go_sem]
     refine hJ _ _ _ ?_
     refine oC_ fun J hJ=>?_
     simp [go_sem]
     refine hJ _ _ _ ?_
     refine oC_ fun J hJ=>?_
     simp [go_sem]
     refine hJ _ _ _ ?_
     refine oC_ fun J hJ=>?_
     simp [go_sem]
     refine hJ _ _ _ ?_
     refine oC_ fun J hJ=>?_
     simp [go_sem]
     refine hJ _ _ _ ?_
     refine oC_ fun J hJ=>?_
     simp [go_sem,↓nClock_or]
     refine hJ _ _ _ ?_
     refine oC_ fun J hJ=>?_
     simp [go_sem]
     refine hJ _ _ _ ?_
     refine oC_ fun J hJ=>?_
     simp [go_sem]
     refine hJ _ _ _ ?_
     refine oC_ fun J hJ=>?_
     simp [go_sem]
     refine hJ _ _ _ ?_
     refine oC_ fun J hJ=>?_
     simp [go_sem]
     refine hJ _ _ _ ?_
     refine oC_ fun J hJ=>?_
     simp [go_sem,↓nComm_or]
     refine hJ _ _ _ ?_
     refine oC_ fun J hJ=>?_
     simp [go_sem]
     refine hJ _ _ _ ?_
     refine oC_ fun J hJ=>?_
     simp [go_sem]
     refine hJ _ _ _ ?_
     refine oC_ fun J hJ=>?_
     simp [go_sem]
     refine hJ _ _ _ ?_
     refine oC_ fun J hJ=>?_
     simp [go_sem]
     refine hJ _ _ _ ?_
     refine oC_ fun J hJ=>?_
     simp [go_sem]
     refine hJ _ _ _ ?_
     refine oC_ fun J hJ=>?_
     simp [go_sem,↓nTent_or]
     refine hJ _ _ _ ?_
     refine oC_ fun J hJ=>?_
     simp [go_sem]
     refine hJ _ _ _ ?_
     refine oC_ fun J hJ=>?_
     simp [go_sem]
     refine hJ _ _ _ ?_
     refine oC_ fun J hJ=>?_
     simp [go_sem]
     refine hJ _ _ _ ?_
     refine oC_ fun J hJ=>?_
     simp [go_sem]
     refine hJ _ _ _ ?_
     refine oC_ fun J hJ=>?_
     simp [go_sem]
     refine hJ _ _ _ ?_
     refine oC_ fun J hJ=>?_
     simp [go_sem,↓nKnown_or]
     refine hJ _ _ _ ?_
     refine oC_ fun J hJ=>?_
     simp [go_sem]
     refine hJ _ _ _ ?_
     refine oC_ fun J hJ=>?_
     simp [go_sem]
     refine hJ _ _ _ ?_
     refine oC_ fun J hJ=>?_
     simp [go_sem]
     refine hJ _ _ _ ?_
     refine oC_ fun J hJ=>?_
     simp [go_sem]
     refine hJ _ _ _ ?_
     refine oC_ fun J hJ=>?_
     simp [go_sem]
     refine hJ _ _ _ ?_
     refine oC_ fun J hJ=>?_
     simp [go_sem,↓clone_n]
     refine hJ _ _ _ ?_
     refine oC_ fun J hJ=>?_
     simp [go_sem]
     refine hJ _ _ _ ?_
     refine oC_ fun J hJ=>?_
     simp [go_sem]
     refine hJ _ _ _ ?_
     refine oC_ fun J hJ=>?_
     simp [go_sem]
     refine hJ _ _ _ ?_
     refine oC_ fun J hJ=>?_
     simp [go_sem]
     refine hJ _ _ _ ?_
     refine oC_ fun J hJ=>?_
     simp [go_sem,↓clone_o]
     refine hJ _ _ _ ?_
     refine oC_ fun J hJ=>?_
     simp [go_sem]
     refine hJ _ _ _ ?_
     refine oC_ fun J hJ=>?_
     simp [go_sem]
     refine hJ _ _ _ ?_
     refine oC_ fun J hJ=>?_
     simp [go_sem]
     refine hJ _ _ _ ?_
     refine oC_ fun J hJ=>?_
     simp [go_sem]
     refine hJ _ _ _ ?_
     refine oC_ fun J hJ=>?_
     simp [go_sem,↓nSeen_or]
     refine hJ _ _ _ ?_
     refine oC_ fun J hJ=>?_
     simp [go_sem]
     refine hJ _ _ _ ?_
     refine oC_ fun J hJ=>?_
     simp [go_sem]
     refine hJ _ _ _ ?_
     refine oC_ fun J hJ=>?_
     simp [go_sem]
     refine hJ _ _ _ ?_
     refine oC_ fun J hJ=>?_
     simp [go_sem]
     refine hJ _ _ _ ?_
     refine oC_ fun J hJ=>?_
     simp [go_sem]
     refine hJ _ _ _ ?_
     refine oN_ ?_
     refine aE_ ?_
     refine fQ_ [] ?_
     simp [go_sem,Tryz.f5]
theorem LogsClones_walk (w:World) (a0:Option Addr) (c0:Nat) (L0:List (List Int)) (h0:L0.length<=c0) (m0:c0<=maxLen) (s0:SlK w.heap.size 12 w a0 L0) (a1:Option Addr) (c1:Nat) (L1:List (List Int)) (h1:L1.length<=c1) (m1:c1<=maxLen) (s1:SlK w.heap.size 12 w a1 L1) (a2:Option Addr) (c2:Nat) (L2:List (List Int)) (h2:L2.length<=c2) (m2:c2<=maxLen) (s2:SlK w.heap.size 12 w a2 L2) :
  Calls Tryz.prog 5 #[.slice a0 L0.length c0,.slice a1 L1.length c1,.slice a2 L2.length c2] w fun e w'=>e=.returned (.bool true)/\Below w.heap.size w w':=by
 obtain ⟨os0,e0,r0⟩:=slk_rows ex_Op s0 h0 m0
 obtain ⟨os1,e1,r1⟩:=slk_rows ex_Op s1 h1 m1
 obtain ⟨os2,e2,r2⟩:=slk_rows ex_Op s2 h2 m2
 refine true_walk logsClones_ok (logsClonesS_at os0 os1 os2) w rfl fun i v hi=>?_
 match i,hi with
 | 0,hi=>cases hi; exact r0
 | 1,hi=>cases hi; exact r1
 | 2,hi=>cases hi; exact r2
end Go.Proofs.YtjoaigccapegpaaGreat.AE
