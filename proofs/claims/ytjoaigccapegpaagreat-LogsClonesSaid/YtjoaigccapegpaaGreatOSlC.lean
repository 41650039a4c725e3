/-
 slices.Clone, IndexFunc at structs. Conditions: none; every contract names its own.
-/
import Derived.Test.YtjoaigccapegpaaGreatPe
set_option linter.constructorNameAsVariable false
namespace Go.Proofs.YtjoaigccapegpaaGreat.AE
open Go Go.Proofs Go.RowKit
set_option linter.unusedVariables false
set_option linter.unusedSimpArgs false
set_option maxRecDepth 100000
set_option maxHeartbeats 4000000
structure cloneChgX where
 L:List Chg
 L':AV
 h_L:SlA 9 cChg L L'
 hL:L.length<=100000
noncomputable def cloneChgS:HSpec:=mkH (ι:=cloneChgX) (fun ⟨L,L',h_L,hL⟩=>([L'],[])) fun ⟨L,L',h_L,hL⟩=>⟨.own (2,0) L.length,[],[.row 35 9 (rows cChg L) false]⟩
theorem cloneChgS_atG (L:List Chg) (L':AV) (h_L:SlA 9 cChg L L') (hL:L.length<=100000):cloneChgS [L'] []=some (⟨.own (2,0) L.length,[],[.row 35 9 (rows cChg L) false]⟩):=
 mA_ (ι:=cloneChgX) (fun i j h=>by obtain ⟨L,L',h_L,hL⟩:=i; obtain ⟨L2,L'2,h_L2,hL2⟩:=j; simp [and_assoc,qB_,qI_,qO_,qC_,qE_,qK_,qR_,qV_,qP_,qOc_] at h; obtain rfl:=h; obtain rfl:=SlA.inj (fun x y h=>cChg_inj h) h_L h_L2; rfl) ⟨L,L',h_L,hL⟩
theorem cloneChgS_at (L:List Chg) (hL:L.length<=100000):cloneChgS [(.sl 9 (rows cChg L))] []=some (⟨.own (2,0) L.length,[],[.row 35 9 (rows cChg L) false]⟩):=cloneChgS_atG L _ .sl hL
theorem cloneChg_ok:HSound Tryz.prog 33 cloneChgS:=by
 refine sE_ (fn:=Tryz.f33) rfl rfl (by kernel_rfl) fun args bx hr hS=>?_
 obtain ⟨⟨L,L',h_L,hL⟩,rfl,rfl,rfl⟩:=mO_ hS
 clear hS
 refine ⟨_,(eN_ _),by simp [Tryz.f33],by simp [go_sem],fun w Mx pin=>?_⟩
 simp only [hB_at,lab_nil,lab_cons,hOf_nil,hOf_cons]
 refine aW_ (s':=⟨ofL [(0,(.sl 9 (rows cChg L)))],hOf []⟩) ?_ ?_
 · cases h_L <;> exact wO_ [] (by simp [go_sem]) (by simp [go_sem]) (by simp [go_sem])
 clear h_L
 refine aQ_ ?_
 iterate 1
  refine oC_ fun J hJ=>?_
  simp [go_sem]
  refine hJ _ _ _ ?_
 refine oN_ ?_
 refine aS_ fun K2 hK2=>?_
 refine aQ_ ?_
 iterate 2
  refine oC_ fun J hJ=>?_
  simp [go_sem]
  refine hJ _ _ _ ?_
 refine oN_ ?_
 refine awp_condNil rfl (fun c4=>?_) ?_
 ·
  rw [rows_eq_nil] at c4
  refine aQ_ ?_
  iterate 1
   refine oC_ fun J hJ=>?_
   simp [go_sem]
   refine hJ _ _ _ ?_
  refine oN_ ?_
  refine aE_ ?_
  refine fQ_ [((2,0),none)] ?_
  simp [go_sem,Tryz.f33,c4]
 ·
  refine aK_ ?_
  refine hK2 _ ?_
  refine aQ_ ?_
  iterate 4
   refine oC_ fun J hJ=>?_
   simp [go_sem,show L.length * 72<=140737488355328 by omega,show L.length<=maxLen by simp only [maxLen]; omega]
   refine hJ _ _ _ ?_
  refine oN_ ?_
  refine aE_ ?_
  refine fQ_ [((2,0),some (0,16 * 7))] ?_
  simp [go_sem,Tryz.f33]
structure indexChgX where
 L:List Chg
 hL:L.length<=100000
noncomputable def indexChgS (g:FuncId) (caps:List AV) (p:Chg->Bool):HSpec:=mkH (ι:=indexChgX) (fun ⟨L,_⟩=>([.sl 9 (rows cChg L),.fn g caps],[])) fun ⟨L,_⟩=>⟨.int .i64 (idxL p L 0),[],[]⟩
theorem indexChgS_at (g:FuncId) (caps:List AV) (p:Chg->Bool) (L:List Chg) (hL:L.length<=100000):indexChgS g caps p [.sl 9 (rows cChg L),.fn g caps] []=some ⟨.int .i64 (idxL p L 0),[],[]⟩:=
 mA_ (ι:=indexChgX) (fun i j h=>by obtain ⟨L,hL⟩:=i; obtain ⟨M,hM⟩:=j; simp [rows_iff_Chg] at h; simp [h]) ⟨L,hL⟩
def indexChgI (g:FuncId) (caps:List AV) (L pre _post:List Chg):St:=⟨ofL [(0,.sl 9 (rows cChg L)),(1,.fn g caps),(7,.int .i64 L.length),(8,.int .i64 pre.length)],hOf []⟩
theorem indexChg_ok (g:FuncId) (caps:List AV) (p:Chg->Bool) (Sg:HSpec) (he:entersB Tryz.prog g=true) (hG:HSound Tryz.prog g Sg) (hp:∀ x,Sg (.agg (cChg x) :: caps) []=some ⟨.bool (p x),[],[]⟩) (hv:∀ H,caps.map (view H 3)=caps) (hcl:∀ H0 H,le.leC H0 H [] caps caps=True):HSound Tryz.prog 63 (indexChgS g caps p):=by
 refine sE_ (fn:=Tryz.f63) rfl rfl (by kernel_rfl) fun args bx hr hS=>?_
 obtain ⟨⟨L,hL⟩,rfl,rfl,rfl⟩:=mO_ hS
 refine ⟨_,(eV_ (g:=g) he hG (eN_ _)),by simp [Tryz.f63],by simp [go_sem],fun w Mx pin=>?_⟩
 simp only [hB_at,lab_nil,lab_cons,hOf_nil,hOf_cons]
 refine aQ_ ?_
 iterate 1
  refine oC_ fun J hJ=>?_
  simp [go_sem]
  refine hJ _ _ _ ?_
 refine oN_ ?_
 refine aS_ fun K2 hK2=>?_
 refine aQ_ ?_
 iterate 3
  refine oC_ fun J hJ=>?_
  simp [go_sem]
  refine hJ _ _ _ ?_
 refine oN_ ?_
 refine aB_ ?_
 refine aL_ (ι:={ q:List Chg × List Chg // q.1++q.2=L/\idxL p q.2 q.1.length=idxL p L 0 }) (fun q=>indexChgI g caps L q.1.1 q.1.2) (fun q=>q.1.2.length) ⟨([],L),rfl,rfl⟩ ?_ ?_
 · refine wO_ [] (by simp [go_sem]) ?_ ?_ <;> simp [go_sem,hcl]
 intro ⟨⟨pre,post⟩,hl,hgo⟩
 simp only at hl hgo
 have hpl:=lS_ hl hL
 simp only [indexChgI]
 refine aQ_ ?_
 iterate 1
  refine oC_ fun J hJ=>?_
  simp [go_sem]
  refine hJ _ _ _ ?_
 refine oN_ ?_
 refine aS_ fun K5 hK5=>?_
 refine aC_ (t:=_) rfl (fun c6=>?_) (fun c6=>?_)
 ·
  simp [go_sem] at c6
  obtain ⟨x,post,rfl,hx⟩:=mL_ hl c6
  refine aK_ ?_
  refine hK5 _ ?_
  refine aS_ fun K7 hK7=>?_
  refine aB_ ?_
  refine aQ_ ?_
  iterate 2
   refine oC_ fun J hJ=>?_
   simp [go_sem]
   refine hJ _ _ _ ?_
  refine oN_ ?_
  refine aQ_ ?_
  iterate 6
   refine oC_ fun J hJ=>?_
   simp [go_sem,hp,hv,hx]
   refine hJ _ _ _ ?_
  refine oN_ ?_
  refine aC_ (t:=_) rfl (fun c10=>?_) (fun c10=>?_)
  ·
   refine aQ_ ?_
   iterate 2
    refine oC_ fun J hJ=>?_
    simp [go_sem]
    refine hJ _ _ _ ?_
   refine oN_ ?_
   refine aE_ ?_
   refine fQ_ [] ?_
   simp [go_sem,Tryz.f63,<-hgo,idxL,c10]
  ·
   refine aK_ ?_
   refine hK7 _ ?_
   refine aR_ ?_
   iterate 2
    refine oC_ fun J hJ=>?_
    simp [go_sem]
    refine hJ _ _ _ ?_
   refine oN_ ?_
   refine ⟨⟨(pre++[x],post),by simp [<-hl],by rw [<-hgo]; simp [idxL,c10]⟩,?_,by simp⟩
   refine wO_ [] (by simp [go_sem]) ?_ ?_ <;> simp [go_sem,wN_ hpl,hcl]
 ·
  simp [go_sem] at c6
  obtain ⟨rfl,rfl⟩:=mN_ hl c6
  refine aX_ ?_
  simp only [go_sem]
  refine hK2 _ ?_
  refine aQ_ ?_
  iterate 1
   refine oC_ fun J hJ=>?_
   simp [go_sem]
   refine hJ _ _ _ ?_
  refine oN_ ?_
  refine aE_ ?_
  refine fQ_ [] ?_
  simp [go_sem,Tryz.f63,<-hgo,idxL]
noncomputable def growChgS:HSpec:=mkH (ι:={ n:Nat // n<=100000 }) (fun ⟨n,hn⟩=>([.nils,.int .i64 (n:Int)],[])) fun ⟨n,hn⟩=>⟨.own (2,0) 0,[],[.row 35 9 (List.replicate n (cChg zChg)) false]⟩
theorem growChgS_at (n:Nat) (hn:n<=100000):growChgS [.nils,.int .i64 (n:Int)] []=some ⟨.own (2,0) 0,[],[.row 35 9 (List.replicate n (cChg zChg)) false]⟩:=
 mA_ (ι:={ n:Nat // n<=100000 }) (A:=fun ⟨n,hn⟩=>([.nils,.int .i64 (n:Int)],[])) (R:=fun ⟨n,hn⟩=>⟨.own (2,0) 0,[],[.row 35 9 (List.replicate n (cChg zChg)) false]⟩) (fun i j h=>by obtain ⟨n,hn⟩:=i; obtain ⟨m,hm⟩:=j; simp at h; have:n=m:=(by omega); subst this; rfl) ⟨n,hn⟩
theorem growChg_ok:HSound Tryz.prog 75 growChgS:=by
 refine sE_ (fn:=Tryz.f75) rfl rfl (by kernel_rfl) fun args bx hr hS=>?_
 obtain ⟨⟨n,hn⟩,rfl,rfl,rfl⟩:=mO_ hS
 refine ⟨_,(eN_ _),by simp [Tryz.f75],by simp [go_sem],fun w Mx pin=>?_⟩
 simp only [hB_at,lab_nil,lab_cons,hOf_nil,hOf_cons]
 simp only at hS hn
 have w0:=wA_ (n:=0) (by omega)
 have wn:=wA_ (n:=(n:Int)) (by omega)
 refine aQ_ ?_
 iterate 1
  refine oC_ fun J hJ=>?_
  simp [go_sem]
  refine hJ _ _ _ ?_
 refine oN_ ?_
 refine aS_ fun K2 hK2=>?_
 refine aQ_ ?_
 iterate 2
  refine oC_ fun J hJ=>?_
  simp [go_sem,show ¬ ((n:Int) < 0) by omega]
  refine hJ _ _ _ ?_
 refine oN_ ?_
 refine aF_ rfl ?_
 refine aK_ ?_
 refine hK2 _ ?_
 refine aS_ fun K5 hK5=>?_
 refine aQ_ ?_
 iterate 8
  refine oC_ fun J hJ=>?_
  simp [go_sem,w0,wn]
  refine hJ _ _ _ ?_
 refine oN_ ?_
 refine aQ_ ?_
 iterate 2
  refine oC_ fun J hJ=>?_
  simp [go_sem]
  refine hJ _ _ _ ?_
 refine oN_ ?_
 refine aC_ (t:=_) rfl (fun c8=>?_) (fun c8=>?_)
 ·
  simp [go_sem] at c8
  refine aR_ ?_
  iterate 10
   refine oC_ fun J hJ=>?_
   simp [go_sem,show (0:Int) < n by omega,show n * 72<=140737488355328 by omega,show (n:Int)<=4611686018427387904 by omega,c8]
   refine hJ _ _ _ ?_
  refine oN_ ?_
  refine hK5 _ ?_
  refine aQ_ ?_
  iterate 2
   refine oC_ fun J hJ=>?_
   simp [go_sem]
   refine hJ _ _ _ ?_
  refine oN_ ?_
  refine aE_ ?_
  refine fQ_ [((2,0),some (0,352))] ?_
  simp [go_sem,Tryz.f75]
 ·
  simp [go_sem] at c8
  refine aK_ ?_
  refine hK5 _ ?_
  refine aQ_ ?_
  iterate 2
   refine oC_ fun J hJ=>?_
   simp [go_sem]
   refine hJ _ _ _ ?_
  refine oN_ ?_
  refine aE_ ?_
  obtain rfl:n=0:=by omega
  refine fQ_ [((2,0),none)] ?_
  simp [go_sem,Tryz.f75]
def cSlChg (L:List Chg):List AV:=[.sl 9 (rows cChg L)]
theorem cSlChg_inj {L M:List Chg} (h:cSlChg L=cSlChg M):L=M:=by simp [cSlChg,rows_iff_Chg] at h; exact h
@[go_sem] theorem cSlChg_len (L:List Chg):(cSlChg L).length=1:=rfl
@[go_sem] theorem cSlChg_get (L:List Chg):(cSlChg L)[0]?=some (.sl 9 (rows cChg L)):=rfl
def totChg (Ls:List (List Chg)):Nat:=(Ls.map List.length).sum
@[go_sem] theorem totChg_nil:totChg []=0:=rfl
theorem totChg_snoc (Ls:List (List Chg)) (L:List Chg):totChg (Ls++[L])=totChg Ls + L.length:=by simp [totChg]
theorem totChg_le {pre post Ls:List (List Chg)} (h:pre++post=Ls):totChg pre<=totChg Ls:=by subst h; simp [totChg]
theorem totChg_flat (Ls:List (List Chg)):Ls.flatten.length=totChg Ls:=by simp [totChg,List.length_flatten]
noncomputable def concatChgS:HSpec:=mkH (ι:={ Ls:List (List Chg) // Ls.length<=100000/\totChg Ls<=100000 }) (fun ⟨Ls,_⟩=>([.sl 1 (rows cSlChg Ls)],[])) fun ⟨Ls,_⟩=>⟨.own (2,0) Ls.flatten.length,[],[.row 35 9 (rows cChg Ls.flatten) false]⟩
theorem concatChgS_at (Ls:List (List Chg)) (h1:Ls.length<=100000) (h2:totChg Ls<=100000):concatChgS [.sl 1 (rows cSlChg Ls)] []=some ⟨.own (2,0) Ls.flatten.length,[],[.row 35 9 (rows cChg Ls.flatten) false]⟩:=
 mA_ (ι:={ Ls:List (List Chg) // Ls.length<=100000/\totChg Ls<=100000 }) (A:=fun ⟨Ls,_⟩=>([.sl 1 (rows cSlChg Ls)],[])) (R:=fun ⟨Ls,_⟩=>⟨.own (2,0) Ls.flatten.length,[],[.row 35 9 (rows cChg Ls.flatten) false]⟩) (fun i j h=>by
  obtain ⟨L,hL⟩:=i; obtain ⟨M,hM⟩:=j
  simp only [Prod.mk.injEq,List.cons.injEq,AV.sl.injEq,true_and,and_true] at h
  have:=rows_inj (fun x y=>cSlChg_inj) h
  subst this; rfl) ⟨Ls,h1,h2⟩
theorem concatChgS_at3 (A B D:List Chg) (h:A.length + B.length + D.length<=100000):concatChgS [.sl 1 [[.sl 9 (rows cChg A)],[.sl 9 (rows cChg B)],[.sl 9 (rows cChg D)]]] []=some ⟨.own (2,0) (A++B++D).length,[],[.row 35 9 (rows cChg (A++B++D)) false]⟩:=by
 have:=concatChgS_at [A,B,D] (by simp) (by simp [totChg]; omega)
 simp only [List.flatten_cons,List.flatten_nil,List.append_nil,List.append_assoc] at this ⊢
 exact this
theorem concatChgS_at2 (A B:List Chg) (h:A.length + B.length<=100000):concatChgS [.sl 1 [[.sl 9 (rows cChg A)],[.sl 9 (rows cChg B)]]] []=some ⟨.own (2,0) (A++B).length,[],[.row 35 9 (rows cChg (A++B)) false]⟩:=by
 have:=concatChgS_at [A,B] (by simp) (by simp [totChg]; omega)
 simp only [List.flatten_cons,List.flatten_nil,List.append_nil,List.append_assoc] at this ⊢
 exact this
def concatChgI (Ls:List (List Chg)) (pre _post:List (List Chg)):St:=⟨ofL [(0,.sl 1 (rows cSlChg Ls)),(3,.int .i64 (totChg pre:Nat)),(9,.sl 1 (rows cSlChg Ls)),(10,.int .i64 Ls.length),(11,.int .i64 pre.length)],hOf []⟩
def concatChgJ (Ls:List (List Chg)) (pre _post:List (List Chg)) (X:List (List AV)):St:=⟨ofL [(6,.own (0,999) (totChg pre)),(25,.sl 1 (rows cSlChg Ls)),(26,.int .i64 Ls.length),(27,.int .i64 pre.length)],hOf [((0,999),.row 35 9 X false)]⟩
theorem concatChg_ok:HSound Tryz.prog 54 concatChgS:=by
 refine sE_ (fn:=Tryz.f54) rfl rfl (by kernel_rfl) fun args bx hr hS=>?_
 obtain ⟨⟨Ls,h1,h2⟩,rfl,rfl,rfl⟩:=mO_ hS
 refine ⟨_,(eV_ (g:=75) (by kernel_rfl) growChg_ok (eN_ _)),by simp [Tryz.f54],by simp [go_sem],fun w Mx pin=>?_⟩
 simp only [hB_at,lab_nil,lab_cons,hOf_nil,hOf_cons]
 simp only at hS
 refine aQ_ ?_
 iterate 1
  refine oC_ fun J hJ=>?_
  simp [go_sem]
  refine hJ _ _ _ ?_
 refine oN_ ?_
 refine aQ_ ?_
 iterate 1
  refine oC_ fun J hJ=>?_
  simp [go_sem]
  refine hJ _ _ _ ?_
 refine oN_ ?_
 refine aS_ fun K3 hK3=>?_
 refine aQ_ ?_
 iterate 3
  refine oC_ fun J hJ=>?_
  simp [go_sem]
  refine hJ _ _ _ ?_
 refine oN_ ?_
 refine aB_ ?_
 refine aL_ (ι:={ q:List (List Chg) × List (List Chg) // q.1++q.2=Ls/\True }) (fun q=>concatChgI Ls q.1.1 q.1.2) (fun q=>q.1.2.length) ⟨([],Ls),rfl,trivial⟩ ?_ ?_
 · refine wO_ [] (by simp [go_sem]) ?_ ?_ <;> simp [go_sem]
 intro ⟨⟨pre,post⟩,hl,hgo⟩
 simp only at hl hgo
 have hpl:=lS_ hl h1
 simp only [concatChgI]
 have htot:=totChg_le hl
 refine aQ_ ?_
 iterate 1
  refine oC_ fun J hJ=>?_
  simp [go_sem]
  refine hJ _ _ _ ?_
 refine oN_ ?_
 refine aS_ fun K6 hK6=>?_
 refine aC_ (t:=_) rfl (fun c7=>?_) (fun c7=>?_)
 ·
  simp [go_sem] at c7
  obtain ⟨x,post,rfl,hx⟩:=mL_ hl c7
  refine aK_ ?_
  refine hK6 _ ?_
  refine aS_ fun K8 hK8=>?_
  refine aB_ ?_
  refine aQ_ ?_
  iterate 3
   refine oC_ fun J hJ=>?_
   simp [go_sem,hx]
   refine hJ _ _ _ ?_
  refine oN_ ?_
  refine aS_ fun K10 hK10=>?_
  have htx:=totChg_le (Ls:=Ls) (pre:=pre++[x]) (post:=post) (by simp [<-hl])
  rw [totChg_snoc] at htx
  have wt:=wA_ (n:=(totChg pre:Int) + x.length) (by omega)
  refine aR_ ?_
  iterate 5
   refine oC_ fun J hJ=>?_
   simp [go_sem,wt]
   refine hJ _ _ _ ?_
  refine oN_ ?_
  refine hK10 _ ?_
  refine aQ_ ?_
  iterate 2
   refine oC_ fun J hJ=>?_
   simp [go_sem,show ¬ ((totChg pre:Int) + x.length < 0) by omega]
   refine hJ _ _ _ ?_
  refine oN_ ?_
  refine aF_ rfl ?_
  refine aK_ ?_
  refine hK8 _ ?_
  refine aR_ ?_
  iterate 2
   refine oC_ fun J hJ=>?_
   simp [go_sem]
   refine hJ _ _ _ ?_
  refine oN_ ?_
  refine ⟨⟨(pre++[x],post),by simp [<-hl],by exact trivial⟩,?_,by simp⟩
  refine wO_ [] (by simp [go_sem]) ?_ ?_ <;> simp [go_sem,wN_ hpl,totChg_snoc,wt]
 ·
  simp [go_sem] at c7
  obtain ⟨rfl,rfl⟩:=mN_ hl c7
  refine aX_ ?_
  simp only [go_sem]
  refine hK3 _ ?_
  refine aQ_ ?_
  iterate 3
   refine oC_ fun J hJ=>?_
   simp [go_sem,growChgS_at (totChg Ls) (by omega)]
   refine hJ _ _ _ ?_
  refine oN_ ?_
  refine aS_ fun K14 hK14=>?_
  refine aQ_ ?_
  iterate 3
   refine oC_ fun J hJ=>?_
   simp [go_sem]
   refine hJ _ _ _ ?_
  refine oN_ ?_
  refine aB_ ?_
  refine aL_ (ι:={ q:List (List Chg) × List (List Chg) × List (List AV) // q.1++q.2.1=Ls/\(q.2.2=rows cChg q.1.flatten\/q.1=[]/\q.2.2=List.replicate (totChg Ls) (cChg zChg)) }) (fun q=>concatChgJ Ls q.1.1 q.1.2.1 q.1.2.2) (fun q=>q.1.2.1.length) ⟨([],Ls,List.replicate (totChg Ls) (cChg zChg)),rfl,.inr ⟨rfl,rfl⟩⟩ ?_ ?_
  · refine wO_ [((0,999),some (0,384))] (by simp [go_sem]) ?_ ?_ <;> simp [go_sem]
  intro ⟨⟨pre,post,X⟩,hl,hgo⟩
  simp only at hl hgo
  have hpl:=lS_ hl h1
  simp only [concatChgJ]
  have htot:=totChg_le hl
  have hX:X.take (totChg pre)=rows cChg pre.flatten:=by
   rcases hgo with rfl | ⟨rfl,rfl⟩
   · rw [rows_take,<-totChg_flat,List.take_length]
   · simp [totChg,rows]
  refine aQ_ ?_
  iterate 1
   refine oC_ fun J hJ=>?_
   simp [go_sem]
   refine hJ _ _ _ ?_
  refine oN_ ?_
  refine aS_ fun K17 hK17=>?_
  refine aC_ (t:=_) rfl (fun c18=>?_) (fun c18=>?_)
  ·
   simp [go_sem] at c18
   obtain ⟨x,post,rfl,hx⟩:=mL_ hl c18
   have htx:=totChg_le (Ls:=Ls) (pre:=pre++[x]) (post:=post) (by simp [<-hl])
   rw [totChg_snoc] at htx
   refine aK_ ?_
   refine hK17 _ ?_
   refine aS_ fun K19 hK19=>?_
   refine aB_ ?_
   refine aQ_ ?_
   iterate 3
    refine oC_ fun J hJ=>?_
    simp [go_sem,hx]
    refine hJ _ _ _ ?_
   refine oN_ ?_
   refine aR_ ?_
   iterate 4
    refine oC_ fun J hJ=>?_
    simp [go_sem,hX,show (totChg pre + x.length) * 72<=140737488355328 by omega,show totChg pre + x.length<=maxLen by simp only [maxLen]; omega]
    refine hJ _ _ _ ?_
   refine oN_ ?_
   refine hK19 _ ?_
   refine aR_ ?_
   iterate 2
    refine oC_ fun J hJ=>?_
    simp [go_sem]
    refine hJ _ _ _ ?_
   refine oN_ ?_
   refine ⟨⟨(pre++[x],post,rows cChg (pre++[x]).flatten),by simp [<-hl],by exact .inl rfl⟩,?_,by simp⟩
   refine wO_ [((0,999),some (0,528))] (by simp [go_sem]) ?_ ?_ <;> simp [go_sem,wN_ hpl,totChg_snoc,rows_append,hX]
  ·
   simp [go_sem] at c18
   obtain ⟨rfl,rfl⟩:=mN_ hl c18
   refine aX_ ?_
   simp only [go_sem]
   refine hK14 _ ?_
   refine aQ_ ?_
   iterate 2
    refine oC_ fun J hJ=>?_
    simp [go_sem]
    refine hJ _ _ _ ?_
   refine oN_ ?_
   refine aE_ ?_
   have hXX:X=rows cChg Ls.flatten:=by
    rcases hgo with rfl | ⟨rfl,rfl⟩
    · rfl
    · simp [totChg,rows]
   subst hXX
   refine fQ_ [((2,0),some (0,999))] ?_
   simp [go_sem,Tryz.f54,totChg_flat]
   try rfl
end Go.Proofs.YtjoaigccapegpaaGreat.AE
