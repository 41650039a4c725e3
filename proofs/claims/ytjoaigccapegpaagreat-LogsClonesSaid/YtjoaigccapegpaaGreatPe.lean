/-
 Package cmp: contracts. Conditions: none; every contract names its own.
-/
import Derived.Test.YtjoaigccapegpaaGreatPd
import Derived.Test.YtjoaigccapegpaaGreatPt
import Derived.Test.YtjoaigccapegpaaGreatProg
import Derived.Test.YtjoaigccapegpaaGreatPz
import Derived.Lib.Mul64
import Derived.Laws.Bits64b
import Derived.Lib.Hide
set_option linter.constructorNameAsVariable false
namespace Go.Proofs.YtjoaigccapegpaaGreat.AE
open Go Go.Proofs Go.RowKit
set_option linter.unusedVariables false
set_option linter.unusedSimpArgs false
set_option maxRecDepth 100000
set_option maxHeartbeats 4000000
theorem mL_ {α:Type} {pre post L:List α} (h:pre++post=L) (hl:pre.length < L.length):∃ x r,post=x :: r/\L[pre.length]?=some x:=by
 cases post with
 | nil=>simp at h; subst h; omega
 | cons x r=>exact ⟨x,r,rfl,by rw [<-h]; simp⟩
theorem mN_ {α:Type} {pre post L:List α} (h:pre++post=L) (hl:L.length<=pre.length):post=[]/\L=pre:=by
 cases post with
 | nil=>simp at h; exact ⟨rfl,h.symm⟩
 | cons x r=>subst h; simp at hl; omega
theorem lS_ {α:Type} {pre post L:List α} (h:pre++post=L) (hL:L.length<=100000):pre.length<=100000:=by subst h; simp at hL; omega
theorem wN_ {n:Nat} (h:n<=100000):IntKind.i64.wrap ((n:Int) + 1)=(n:Int) + 1:=wrap_ok (by omega) (by omega)
theorem wA_ {n:Int} (h:-4611686018427387904<=n/\n<=4611686018427387904):IntKind.i64.wrap n=n:=wrap_ok (by omega) (by omega)
@[go_sem] theorem aVal_zeros (T:TypeId->Option TI) (env:Env) (dst:Option Tmp) (ρ:Operand->AV) (H:Heap) (a x:Operand) (t t':TypeId) (h:t' ≠ t):aVal T env dst (.call ⟨.builtin .append,#[a,x],#[t,t']⟩) ρ H=vZeros (nid dst) (ρ a) (ρ x) (T t) ((T t).bind fun i=>T i.etype) (T t'):=by
 show (if t'=t then _ else _)=_
 rw [if_neg h]
@[go_sem] theorem aVal_cap (T:TypeId->Option TI) (env:Env) (dst:Option Tmp) (ρ:Operand->AV) (H:Heap) (x:Operand) (t:TypeId):aVal T env dst (.call ⟨.builtin .cap,#[x],#[t]⟩) ρ H=vCap (ρ x) (T t):=rfl
def optC (H0 H:Heap) (ρ:Ren) (rs:List AV):Option (List AV)->Prop
 | some vs=>le.leC H0 H ρ rs vs
 | none=>False
@[go_sem] theorem optC_some (H0 H ρ rs vs):optC H0 H ρ rs (some vs)=le.leC H0 H ρ rs vs:=rfl
@[go_sem] theorem resH_many (T:TypeId->Option TI) (s:St) (H:Heap) (ρ:Ren) (rs x y l):resH T s H ρ (.tup rs) (x :: y :: l)=optC s.H H ρ rs (catV ((x :: y :: l).map (resV T s))):=by
 simp only [resH,optC]
 cases catV ((x :: y :: l).map (resV T s)) <;> rfl
@[go_sem] theorem catV_nil':catV []=some []:=rfl
@[go_sem] theorem catV_some' (v:AV) (l):catV (some v :: l)=(catV l).map (v :: ·):=rfl
@[go_sem] theorem resV_tmp' (T:TypeId->Option TI) (s:St) (t):resV T s (.tmp t)=some (s.t t):=rfl
@[go_sem] theorem resV_cell' (T:TypeId->Option TI) (s:St) (a t):resV T s (.cell a t)=cellV T s t (s.t a):=resV_cell T s a t
theorem sE_ {P:Program} {f:FuncId} {fn:Func} {c:Code} {S:HSpec} (hf:P.funcs[f]?=some fn) (hb:fn.body=some c) (hok:codeOK P fn.ntmps c=true)
  (h:∀ args bx hr,S args bx=some hr->∃ env,EnvOK P env/\args.length<=fn.ntmps/\goOns bx hr.up/\∀ (w:World) (Mx:Nat->Prop) (pin:Nat->Option (Nat × Nat)),awp ⟨P,w,Mx,fn.ntmps,pin,[],true⟩ env c (fW_ (TI.of P) fn.results.toList hr) ⟨argsF args,hB bx⟩):HSound P f S:=by
 classical
 intro args bx hr hS
 obtain ⟨env,he,h1,h2,h3⟩:=h args bx hr hS
 exact sound_ofH (S:=fun a b=>if a=args/\b=bx then some hr else none) hf hb hok he (fun a b r hr'=>by
  split at hr'
  · rename_i hab; obtain ⟨rfl,rfl⟩:=hab; cases hr'; exact ⟨h1,h2,h3⟩
  · cases hr') args bx hr (if_pos ⟨rfl,rfl⟩)
theorem wrap_big {α:Type} {L:List α} {n:Nat} {x:α} (hx:L[n]?=some x) (hL:L.length<=9223372036854775807):IntKind.i64.wrap ((n:Int) + 1)=(n:Int) + 1:=by
 have:=(List.getElem?_eq_some_iff.1 hx).1
 exact wrap_ok (by omega) (by omega)
def idxL {α:Type} (p:α->Bool):List α->Nat->Int
 | [],_=>-1
 | x :: r,i=>if p x=true then i else idxL p r (i + 1)
@[go_sem] theorem rows_flat {α:Type} (c:α->List AV) (x:α) (L:List α):(rows c (x :: L)).flatten=c x++(rows c L).flatten:=by simp [rows]
@[go_sem] theorem rows_cons_int (n:Int) (L:List Int):[.int .i64 n] :: rows cInt L=rows cInt (n :: L):=rfl
def cmpI (a b:Int):Int:=if a < b then -1 else if a > b then 1 else 0
def orL:List Int->Int
 | []=>0
 | x :: r=>if x=0 then orL r else x
inductive SlA {α:Type} (k:Nat) (c:α->List AV):List α->AV->Prop
 | sl {L:List α}:SlA k c L (.sl k (rows c L))
 | nil:SlA k c [] .nils
theorem SlA.inj {α:Type} {k:Nat} {c:α->List AV} (hc:∀ x y,c x=c y->x=y) {L M:List α} {v:AV} (h:SlA k c L v) (h':SlA k c M v):L=M:=by
 cases h with
 | sl=>
  generalize hv:AV.sl k (rows c L)=v at h'
  cases h' with
  | sl=>simp only [AV.sl.injEq,true_and] at hv; exact rows_inj hc hv
  | nil=>cases hv
 | nil=>cases h'; rfl
structure nanX where
 a:Int
noncomputable def nanS:HSpec:=mkH (ι:=nanX) (fun ⟨a⟩=>([.int .i64 a],[])) fun ⟨a⟩=>⟨.bool false,[],[]⟩
theorem nanS_atG (a:Int):nanS [.int .i64 a] []=some (⟨.bool false,[],[]⟩):=
 mA_ (ι:=nanX) (fun i j h=>by obtain ⟨a⟩:=i; obtain ⟨a2⟩:=j; simp [and_assoc,qB_,qI_,qO_,qC_,qE_,qK_,qR_,qV_,qP_,qOc_] at h; obtain rfl:=h; rfl) ⟨a⟩
theorem nanS_at (a:Int):nanS [.int .i64 a] []=some (⟨.bool false,[],[]⟩):=nanS_atG a
theorem nan_ok:HSound Tryz.prog 125 nanS:=by
 refine sE_ (fn:=Tryz.f125) rfl rfl (by kernel_rfl) fun args bx hr hS=>?_
 obtain ⟨⟨a⟩,rfl,rfl,rfl⟩:=mO_ hS
 clear hS
 refine ⟨_,(eN_ _),by simp [Tryz.f125],by simp [go_sem],fun w Mx pin=>?_⟩
 simp only [hB_at,lab_nil,lab_cons,hOf_nil,hOf_cons]
 refine aQ_ ?_
 iterate 1
  refine oC_ fun J hJ=>?_
  simp [go_sem]
  refine hJ _ _ _ ?_
  clear hJ J
 refine oN_ ?_
 refine aQ_ ?_
 iterate 4
  refine oC_ fun J hJ=>?_
  simp [go_sem]
  refine hJ _ _ _ ?_
  clear hJ J
 refine oN_ ?_
 refine aE_ ?_
 refine fQ_ [] ?_
 simp [go_sem,Tryz.f125]
structure cmpX where
 a:Int
 b:Int
noncomputable def cmpS:HSpec:=mkH (ι:=cmpX) (fun ⟨a,b⟩=>([.int .i64 a,.int .i64 b],[])) fun ⟨a,b⟩=>⟨.int .i64 (cmpI a b),[],[]⟩
theorem cmpS_atG (a:Int) (b:Int):cmpS [.int .i64 a,.int .i64 b] []=some (⟨.int .i64 (cmpI a b),[],[]⟩):=
 mA_ (ι:=cmpX) (fun i j h=>by obtain ⟨a,b⟩:=i; obtain ⟨a2,b2⟩:=j; simp [and_assoc,qB_,qI_,qO_,qC_,qE_,qK_,qR_,qV_,qP_,qOc_] at h; obtain ⟨rfl,rfl⟩:=h; rfl) ⟨a,b⟩
theorem cmpS_at (a:Int) (b:Int):cmpS [.int .i64 a,.int .i64 b] []=some (⟨.int .i64 (cmpI a b),[],[]⟩):=cmpS_atG a b
theorem cmp_ok:HSound Tryz.prog 112 cmpS:=by
 refine sE_ (fn:=Tryz.f112) rfl rfl (by kernel_rfl) fun args bx hr hS=>?_
 obtain ⟨⟨a,b⟩,rfl,rfl,rfl⟩:=mO_ hS
 clear hS
 refine ⟨_,(eV_ (g:=125) (by kernel_rfl) nan_ok (eN_ _)),by simp [Tryz.f112],by simp [go_sem],fun w Mx pin=>?_⟩
 simp only [hB_at,lab_nil,lab_cons,hOf_nil,hOf_cons]
 refine aQ_ ?_
 iterate 1
  refine oC_ fun J hJ=>?_
  simp [go_sem]
  refine hJ _ _ _ ?_
  clear hJ J
 refine oN_ ?_
 refine aQ_ ?_
 iterate 3
  refine oC_ fun J hJ=>?_
  simp [go_sem,nanS_at]
  refine hJ _ _ _ ?_
  clear hJ J
 refine oN_ ?_
 refine aQ_ ?_
 iterate 3
  refine oC_ fun J hJ=>?_
  simp [go_sem,nanS_at]
  refine hJ _ _ _ ?_
  clear hJ J
 refine oN_ ?_
 refine aS_ fun K4 hK4=>?_
 refine aQ_ ?_
 iterate 1
  refine oC_ fun J hJ=>?_
  simp [go_sem]
  refine hJ _ _ _ ?_
  clear hJ J
 refine oN_ ?_
 refine aF_ rfl ?_
 refine aK_ ?_
 refine hK4 _ ?_
 clear hK4
 refine aS_ fun K12 hK12=>?_
 refine aQ_ ?_
 iterate 1
  refine oC_ fun J hJ=>?_
  simp [go_sem]
  refine hJ _ _ _ ?_
  clear hJ J
 refine oN_ ?_
 refine aF_ rfl ?_
 refine aK_ ?_
 refine hK12 _ ?_
 clear hK12
 refine aS_ fun K16 hK16=>?_
 refine aQ_ ?_
 iterate 3
  refine oC_ fun J hJ=>?_
  simp [go_sem]
  refine hJ _ _ _ ?_
  clear hJ J
 refine oN_ ?_
 refine aC_ (t:=_) rfl (fun c18=>?_) (fun c18=>?_)
 ·
  simp [go_sem] at c18
  refine aQ_ ?_
  iterate 1
   refine oC_ fun J hJ=>?_
   simp [go_sem]
   refine hJ _ _ _ ?_
   clear hJ J
  refine oN_ ?_
  refine aE_ ?_
  refine fQ_ [] ?_
  simp [go_sem,Tryz.f112,cmpI,c18]
 ·
  simp [go_sem] at c18
  refine aK_ ?_
  refine hK16 _ ?_
  clear hK16
  refine aS_ fun K20 hK20=>?_
  refine aQ_ ?_
  iterate 3
   refine oC_ fun J hJ=>?_
   simp [go_sem]
   refine hJ _ _ _ ?_
   clear hJ J
  refine oN_ ?_
  refine aC_ (t:=_) rfl (fun c22=>?_) (fun c22=>?_)
  ·
   simp [go_sem] at c22
   refine aQ_ ?_
   iterate 1
    refine oC_ fun J hJ=>?_
    simp [go_sem]
    refine hJ _ _ _ ?_
    clear hJ J
   refine oN_ ?_
   refine aE_ ?_
   refine fQ_ [] ?_
   simp [go_sem,Tryz.f112,cmpI,c22,show ¬ a < b by omega]
  ·
   simp [go_sem] at c22
   refine aK_ ?_
   refine hK20 _ ?_
   clear hK20
   refine aQ_ ?_
   iterate 1
    refine oC_ fun J hJ=>?_
    simp [go_sem]
    refine hJ _ _ _ ?_
    clear hJ J
   refine oN_ ?_
   refine aE_ ?_
   refine fQ_ [] ?_
   simp [go_sem,Tryz.f112,cmpI,show ¬ a < b by omega,show ¬ b < a by omega]
structure orX where
 L:List Int
 L':AV
 h_L:SlA 1 cInt L L'
 hL:L.length<=100000
noncomputable def orS:HSpec:=mkH (ι:=orX) (fun ⟨L,L',h_L,hL⟩=>([L'],[])) fun ⟨L,L',h_L,hL⟩=>⟨.int .i64 (orL L),[],[]⟩
theorem orS_atG (L:List Int) (L':AV) (h_L:SlA 1 cInt L L') (hL:L.length<=100000):orS [L'] []=some (⟨.int .i64 (orL L),[],[]⟩):=
 mA_ (ι:=orX) (fun i j h=>by obtain ⟨L,L',h_L,hL⟩:=i; obtain ⟨L2,L'2,h_L2,hL2⟩:=j; simp [and_assoc,qB_,qI_,qO_,qC_,qE_,qK_,qR_,qV_,qP_,qOc_] at h; obtain rfl:=h; obtain rfl:=SlA.inj (fun x y h=>cInt_inj h) h_L h_L2; rfl) ⟨L,L',h_L,hL⟩
theorem orS_at (L:List Int) (hL:L.length<=100000):orS [(.sl 1 (rows cInt L))] []=some (⟨.int .i64 (orL L),[],[]⟩):=orS_atG L _ .sl hL
def orI (L:List Int) (pre _post:List Int):St:=⟨ofL [(3,.int .i64 0),(6,.sl 1 (rows cInt L)),(7,.int .i64 L.length),(8,.int .i64 pre.length)],hOf []⟩
theorem or_ok:HSound Tryz.prog 111 orS:=by
 refine sE_ (fn:=Tryz.f111) rfl rfl (by kernel_rfl) fun args bx hr hS=>?_
 obtain ⟨⟨L,L',h_L,hL⟩,rfl,rfl,rfl⟩:=mO_ hS
 clear hS
 refine ⟨_,(eN_ _),by simp [Tryz.f111],by simp [go_sem],fun w Mx pin=>?_⟩
 simp only [hB_at,lab_nil,lab_cons,hOf_nil,hOf_cons]
 refine aW_ (s':=⟨ofL [(0,(.sl 1 (rows cInt L)))],hOf []⟩) ?_ ?_
 · cases h_L <;> exact wO_ [] (by simp [go_sem]) (by simp [go_sem]) (by simp [go_sem])
 clear h_L
 refine aQ_ ?_
 iterate 1
  refine oC_ fun J hJ=>?_
  simp [go_sem]
  refine hJ _ _ _ ?_
  clear hJ J
 refine oN_ ?_
 refine aQ_ ?_
 iterate 1
  refine oC_ fun J hJ=>?_
  simp [go_sem]
  refine hJ _ _ _ ?_
  clear hJ J
 refine oN_ ?_
 refine aS_ fun K3 hK3=>?_
 refine aQ_ ?_
 iterate 3
  refine oC_ fun J hJ=>?_
  simp [go_sem]
  refine hJ _ _ _ ?_
  clear hJ J
 refine oN_ ?_
 refine aB_ ?_
 refine aL_ (ι:={ q:List Int × List Int // q.1++q.2=L/\orL q.2=orL L }) (fun q=>orI L q.1.1 q.1.2) (fun q=>q.1.2.length) ⟨([],L),rfl,rfl⟩ ?_ ?_
 · refine wO_ [] (by simp [go_sem]) ?_ ?_ <;> simp [go_sem]
 intro ⟨⟨pre,post⟩,hl,hgo⟩
 simp only at hl hgo
 have hpl:=lS_ hl hL
 simp only [orI]
 refine aQ_ ?_
 iterate 1
  refine oC_ fun J hJ=>?_
  simp [go_sem]
  refine hJ _ _ _ ?_
  clear hJ J
 refine oN_ ?_
 refine aS_ fun K6 hK6=>?_
 refine aC_ (t:=_) rfl (fun c7=>?_) (fun c7=>?_)
 ·
  simp [go_sem] at c7
  obtain ⟨x,post,rfl,hx⟩:=mL_ hl c7
  refine aK_ ?_
  refine hK6 _ ?_
  clear hK6
  refine aS_ fun K8 hK8=>?_
  refine aB_ ?_
  refine aQ_ ?_
  iterate 3
   refine oC_ fun J hJ=>?_
   simp [go_sem,hx]
   refine hJ _ _ _ ?_
   clear hJ J
  refine oN_ ?_
  refine aQ_ ?_
  iterate 3
   refine oC_ fun J hJ=>?_
   simp [go_sem]
   refine hJ _ _ _ ?_
   clear hJ J
  refine oN_ ?_
  refine aC_ (t:=_) rfl (fun c11=>?_) (fun c11=>?_)
  ·
   simp [go_sem] at c11
   refine aQ_ ?_
   iterate 2
    refine oC_ fun J hJ=>?_
    simp [go_sem]
    refine hJ _ _ _ ?_
    clear hJ J
   refine oN_ ?_
   refine aE_ ?_
   refine fQ_ [] ?_
   simp [go_sem,Tryz.f111,<-hgo,orL,c11]
  ·
   simp [go_sem] at c11
   refine aK_ ?_
   refine hK8 _ ?_
   clear hK8
   refine aR_ ?_
   iterate 2
    refine oC_ fun J hJ=>?_
    simp [go_sem]
    refine hJ _ _ _ ?_
    clear hJ J
   refine oN_ ?_
   refine ⟨⟨(pre++[x],post),by simp [<-hl],by rw [<-hgo]; simp [orL,c11]⟩,?_,by simp⟩
   refine wO_ [] (by simp [go_sem]) ?_ ?_ <;> simp [go_sem,wN_ hpl]
 ·
  simp [go_sem] at c7
  obtain ⟨rfl,rfl⟩:=mN_ hl c7
  refine aX_ ?_
  simp only [go_sem]
  refine hK3 _ ?_
  clear hK3
  refine aQ_ ?_
  iterate 2
   refine oC_ fun J hJ=>?_
   simp [go_sem]
   refine hJ _ _ _ ?_
   clear hJ J
  refine oN_ ?_
  refine aE_ ?_
  refine fQ_ [] ?_
  simp [go_sem,Tryz.f111,<-hgo,orL]
structure cloneOrdX where
 L:List Ord
 L':AV
 h_L:SlA 7 cOrd L L'
 hL:L.length<=100000
noncomputable def cloneOrdS:HSpec:=mkH (ι:=cloneOrdX) (fun ⟨L,L',h_L,hL⟩=>([L'],[])) fun ⟨L,L',h_L,hL⟩=>⟨.own (2,0) L.length,[],[.row 61 7 (rows cOrd L) false]⟩
theorem cloneOrdS_atG (L:List Ord) (L':AV) (h_L:SlA 7 cOrd L L') (hL:L.length<=100000):cloneOrdS [L'] []=some (⟨.own (2,0) L.length,[],[.row 61 7 (rows cOrd L) false]⟩):=
 mA_ (ι:=cloneOrdX) (fun i j h=>by obtain ⟨L,L',h_L,hL⟩:=i; obtain ⟨L2,L'2,h_L2,hL2⟩:=j; simp [and_assoc,qB_,qI_,qO_,qC_,qE_,qK_,qR_,qV_,qP_,qOc_] at h; obtain rfl:=h; obtain rfl:=SlA.inj (fun x y h=>cOrd_inj h) h_L h_L2; rfl) ⟨L,L',h_L,hL⟩
theorem cloneOrdS_at (L:List Ord) (hL:L.length<=100000):cloneOrdS [(.sl 7 (rows cOrd L))] []=some (⟨.own (2,0) L.length,[],[.row 61 7 (rows cOrd L) false]⟩):=cloneOrdS_atG L _ .sl hL
theorem cloneOrd_ok:HSound Tryz.prog 66 cloneOrdS:=by
 refine sE_ (fn:=Tryz.f66) rfl rfl (by kernel_rfl) fun args bx hr hS=>?_
 obtain ⟨⟨L,L',h_L,hL⟩,rfl,rfl,rfl⟩:=mO_ hS
 clear hS
 refine ⟨_,(eN_ _),by simp [Tryz.f66],by simp [go_sem],fun w Mx pin=>?_⟩
 simp only [hB_at,lab_nil,lab_cons,hOf_nil,hOf_cons]
 refine aW_ (s':=⟨ofL [(0,(.sl 7 (rows cOrd L)))],hOf []⟩) ?_ ?_
 · cases h_L <;> exact wO_ [] (by simp [go_sem]) (by simp [go_sem]) (by simp [go_sem])
 clear h_L
 refine aQ_ ?_
 iterate 1
  refine oC_ fun J hJ=>?_
  simp [go_sem]
  refine hJ _ _ _ ?_
  clear hJ J
 refine oN_ ?_
 refine aS_ fun K2 hK2=>?_
 refine aQ_ ?_
 iterate 2
  refine oC_ fun J hJ=>?_
  simp [go_sem]
  refine hJ _ _ _ ?_
  clear hJ J
 refine oN_ ?_
 refine awp_condNil rfl (fun c4=>?_) ?_
 ·
  rw [rows_eq_nil] at c4
  refine aQ_ ?_
  iterate 1
   refine oC_ fun J hJ=>?_
   simp [go_sem]
   refine hJ _ _ _ ?_
   clear hJ J
  refine oN_ ?_
  refine aE_ ?_
  refine fQ_ [((2,0),none)] ?_
  simp [go_sem,Tryz.f66,c4]
 ·
  refine aK_ ?_
  refine hK2 _ ?_
  clear hK2
  refine aQ_ ?_
  iterate 4
   refine oC_ fun J hJ=>?_
   simp [go_sem,show L.length * 56<=140737488355328 by omega,show L.length<=maxLen by simp only [maxLen]; omega]
   refine hJ _ _ _ ?_
   clear hJ J
  refine oN_ ?_
  refine aE_ ?_
  refine fQ_ [((2,0),some (0,16 * 7))] ?_
  simp [go_sem,Tryz.f66]
structure indexOrdX where
 L:List Ord
 hL:L.length<=100000
noncomputable def indexOrdS (g:FuncId) (caps:List AV) (p:Ord->Bool):HSpec:=mkH (ι:=indexOrdX) (fun ⟨L,_⟩=>([.sl 7 (rows cOrd L),.fn g caps],[])) fun ⟨L,_⟩=>⟨.int .i64 (idxL p L 0),[],[]⟩
theorem indexOrdS_at (g:FuncId) (caps:List AV) (p:Ord->Bool) (L:List Ord) (hL:L.length<=100000):indexOrdS g caps p [.sl 7 (rows cOrd L),.fn g caps] []=some ⟨.int .i64 (idxL p L 0),[],[]⟩:=
 mA_ (ι:=indexOrdX) (fun i j h=>by obtain ⟨L,hL⟩:=i; obtain ⟨M,hM⟩:=j; simp [rows_iff_Ord] at h; simp [h]) ⟨L,hL⟩
def indexOrdI (g:FuncId) (caps:List AV) (L pre _post:List Ord):St:=⟨ofL [(0,.sl 7 (rows cOrd L)),(1,.fn g caps),(7,.int .i64 L.length),(8,.int .i64 pre.length)],hOf []⟩
theorem indexOrd_ok (g:FuncId) (caps:List AV) (p:Ord->Bool) (Sg:HSpec) (he:entersB Tryz.prog g=true) (hG:HSound Tryz.prog g Sg) (hp:∀ x,Sg (.agg (cOrd x) :: caps) []=some ⟨.bool (p x),[],[]⟩) (hv:∀ H,caps.map (view H 3)=caps) (hcl:∀ H0 H,le.leC H0 H [] caps caps=True):HSound Tryz.prog 130 (indexOrdS g caps p):=by
 refine sE_ (fn:=Tryz.f130) rfl rfl (by kernel_rfl) fun args bx hr hS=>?_
 obtain ⟨⟨L,hL⟩,rfl,rfl,rfl⟩:=mO_ hS
 refine ⟨_,(eV_ (g:=g) he hG (eN_ _)),by simp [Tryz.f130],by simp [go_sem],fun w Mx pin=>?_⟩
 simp only [hB_at,lab_nil,lab_cons,hOf_nil,hOf_cons]
 refine aQ_ ?_
 iterate 1
  refine oC_ fun J hJ=>?_
  simp [go_sem]
  refine hJ _ _ _ ?_
  clear hJ J
 refine oN_ ?_
 refine aS_ fun K2 hK2=>?_
 refine aQ_ ?_
 iterate 3
  refine oC_ fun J hJ=>?_
  simp [go_sem]
  refine hJ _ _ _ ?_
  clear hJ J
 refine oN_ ?_
 refine aB_ ?_
 refine aL_ (ι:={ q:List Ord × List Ord // q.1++q.2=L/\idxL p q.2 q.1.length=idxL p L 0 }) (fun q=>indexOrdI g caps L q.1.1 q.1.2) (fun q=>q.1.2.length) ⟨([],L),rfl,rfl⟩ ?_ ?_
 · refine wO_ [] (by simp [go_sem]) ?_ ?_ <;> simp [go_sem,hcl]
 intro ⟨⟨pre,post⟩,hl,hgo⟩
 simp only at hl hgo
 have hpl:=lS_ hl hL
 simp only [indexOrdI]
 refine aQ_ ?_
 iterate 1
  refine oC_ fun J hJ=>?_
  simp [go_sem]
  refine hJ _ _ _ ?_
  clear hJ J
 refine oN_ ?_
 refine aS_ fun K5 hK5=>?_
 refine aC_ (t:=_) rfl (fun c6=>?_) (fun c6=>?_)
 ·
  simp [go_sem] at c6
  obtain ⟨x,post,rfl,hx⟩:=mL_ hl c6
  refine aK_ ?_
  refine hK5 _ ?_
  clear hK5
  refine aS_ fun K7 hK7=>?_
  refine aB_ ?_
  refine aQ_ ?_
  iterate 2
   refine oC_ fun J hJ=>?_
   simp [go_sem]
   refine hJ _ _ _ ?_
   clear hJ J
  refine oN_ ?_
  refine aQ_ ?_
  iterate 6
   refine oC_ fun J hJ=>?_
   simp [go_sem,hp,hv,hx]
   refine hJ _ _ _ ?_
   clear hJ J
  refine oN_ ?_
  refine aC_ (t:=_) rfl (fun c10=>?_) (fun c10=>?_)
  ·
   refine aQ_ ?_
   iterate 2
    refine oC_ fun J hJ=>?_
    simp [go_sem]
    refine hJ _ _ _ ?_
    clear hJ J
   refine oN_ ?_
   refine aE_ ?_
   refine fQ_ [] ?_
   simp [go_sem,Tryz.f130,<-hgo,idxL,c10]
  ·
   refine aK_ ?_
   refine hK7 _ ?_
   clear hK7
   refine aR_ ?_
   iterate 2
    refine oC_ fun J hJ=>?_
    simp [go_sem]
    refine hJ _ _ _ ?_
    clear hJ J
   refine oN_ ?_
   refine ⟨⟨(pre++[x],post),by simp [<-hl],by rw [<-hgo]; simp [idxL,c10]⟩,?_,by simp⟩
   refine wO_ [] (by simp [go_sem]) ?_ ?_ <;> simp [go_sem,wN_ hpl,hcl]
 ·
  simp [go_sem] at c6
  obtain ⟨rfl,rfl⟩:=mN_ hl c6
  refine aX_ ?_
  simp only [go_sem]
  refine hK2 _ ?_
  clear hK2
  refine aQ_ ?_
  iterate 1
   refine oC_ fun J hJ=>?_
   simp [go_sem]
   refine hJ _ _ _ ?_
   clear hJ J
  refine oN_ ?_
  refine aE_ ?_
  refine fQ_ [] ?_
  simp [go_sem,Tryz.f130,<-hgo,idxL]
noncomputable def growOrdS:HSpec:=mkH (ι:={ n:Nat // n<=100000 }) (fun ⟨n,hn⟩=>([.nils,.int .i64 (n:Int)],[])) fun ⟨n,hn⟩=>⟨.own (2,0) 0,[],[.row 61 7 (List.replicate n (cOrd zOrd)) false]⟩
theorem growOrdS_at (n:Nat) (hn:n<=100000):growOrdS [.nils,.int .i64 (n:Int)] []=some ⟨.own (2,0) 0,[],[.row 61 7 (List.replicate n (cOrd zOrd)) false]⟩:=
 mA_ (ι:={ n:Nat // n<=100000 }) (A:=fun ⟨n,hn⟩=>([.nils,.int .i64 (n:Int)],[])) (R:=fun ⟨n,hn⟩=>⟨.own (2,0) 0,[],[.row 61 7 (List.replicate n (cOrd zOrd)) false]⟩) (fun i j h=>by obtain ⟨n,hn⟩:=i; obtain ⟨m,hm⟩:=j; simp at h; have:n=m:=(by omega); subst this; rfl) ⟨n,hn⟩
theorem growOrd_ok:HSound Tryz.prog 139 growOrdS:=by
 refine sE_ (fn:=Tryz.f139) rfl rfl (by kernel_rfl) fun args bx hr hS=>?_
 obtain ⟨⟨n,hn⟩,rfl,rfl,rfl⟩:=mO_ hS
 refine ⟨_,(eN_ _),by simp [Tryz.f139],by simp [go_sem],fun w Mx pin=>?_⟩
 simp only [hB_at,lab_nil,lab_cons,hOf_nil,hOf_cons]
 simp only at hS hn
 have w0:=wA_ (n:=0) (by omega)
 have wn:=wA_ (n:=(n:Int)) (by omega)
 refine aQ_ ?_
 iterate 1
  refine oC_ fun J hJ=>?_
  simp [go_sem]
  refine hJ _ _ _ ?_
  clear hJ J
 refine oN_ ?_
 refine aS_ fun K2 hK2=>?_
 refine aQ_ ?_
 iterate 2
  refine oC_ fun J hJ=>?_
  simp [go_sem,show ¬ ((n:Int) < 0) by omega]
  refine hJ _ _ _ ?_
  clear hJ J
 refine oN_ ?_
 refine aF_ rfl ?_
 refine aK_ ?_
 refine hK2 _ ?_
 clear hK2
 refine aS_ fun K5 hK5=>?_
 refine aQ_ ?_
 iterate 8
  refine oC_ fun J hJ=>?_
  simp [go_sem,w0,wn]
  refine hJ _ _ _ ?_
  clear hJ J
 refine oN_ ?_
 refine aQ_ ?_
 iterate 2
  refine oC_ fun J hJ=>?_
  simp [go_sem]
  refine hJ _ _ _ ?_
  clear hJ J
 refine oN_ ?_
 refine aC_ (t:=_) rfl (fun c8=>?_) (fun c8=>?_)
 ·
  simp [go_sem] at c8
  refine aR_ ?_
  iterate 10
   refine oC_ fun J hJ=>?_
   simp [go_sem,show (0:Int) < n by omega,show n * 56<=140737488355328 by omega,show (n:Int)<=4611686018427387904 by omega,c8]
   refine hJ _ _ _ ?_
   clear hJ J
  refine oN_ ?_
  refine hK5 _ ?_
  clear hK5
  refine aQ_ ?_
  iterate 2
   refine oC_ fun J hJ=>?_
   simp [go_sem]
   refine hJ _ _ _ ?_
   clear hJ J
  refine oN_ ?_
  refine aE_ ?_
  refine fQ_ [((2,0),some (0,352))] ?_
  simp [go_sem,Tryz.f139]
 ·
  simp [go_sem] at c8
  refine aK_ ?_
  refine hK5 _ ?_
  clear hK5
  refine aQ_ ?_
  iterate 2
   refine oC_ fun J hJ=>?_
   simp [go_sem]
   refine hJ _ _ _ ?_
   clear hJ J
  refine oN_ ?_
  refine aE_ ?_
  obtain rfl:n=0:=by omega
  refine fQ_ [((2,0),none)] ?_
  simp [go_sem,Tryz.f139]
def cSlOrd (L:List Ord):List AV:=[.sl 7 (rows cOrd L)]
theorem cSlOrd_inj {L M:List Ord} (h:cSlOrd L=cSlOrd M):L=M:=by simp [cSlOrd,rows_iff_Ord] at h; exact h
@[go_sem] theorem cSlOrd_len (L:List Ord):(cSlOrd L).length=1:=rfl
@[go_sem] theorem cSlOrd_get (L:List Ord):(cSlOrd L)[0]?=some (.sl 7 (rows cOrd L)):=rfl
def totOrd (Ls:List (List Ord)):Nat:=(Ls.map List.length).sum
@[go_sem] theorem totOrd_nil:totOrd []=0:=rfl
theorem totOrd_snoc (Ls:List (List Ord)) (L:List Ord):totOrd (Ls++[L])=totOrd Ls + L.length:=by simp [totOrd]
theorem totOrd_le {pre post Ls:List (List Ord)} (h:pre++post=Ls):totOrd pre<=totOrd Ls:=by subst h; simp [totOrd]
theorem totOrd_flat (Ls:List (List Ord)):Ls.flatten.length=totOrd Ls:=by simp [totOrd,List.length_flatten]
noncomputable def concatOrdS:HSpec:=mkH (ι:={ Ls:List (List Ord) // Ls.length<=100000/\totOrd Ls<=100000 }) (fun ⟨Ls,_⟩=>([.sl 1 (rows cSlOrd Ls)],[])) fun ⟨Ls,_⟩=>⟨.own (2,0) Ls.flatten.length,[],[.row 61 7 (rows cOrd Ls.flatten) false]⟩
theorem concatOrdS_at (Ls:List (List Ord)) (h1:Ls.length<=100000) (h2:totOrd Ls<=100000):concatOrdS [.sl 1 (rows cSlOrd Ls)] []=some ⟨.own (2,0) Ls.flatten.length,[],[.row 61 7 (rows cOrd Ls.flatten) false]⟩:=
 mA_ (ι:={ Ls:List (List Ord) // Ls.length<=100000/\totOrd Ls<=100000 }) (A:=fun ⟨Ls,_⟩=>([.sl 1 (rows cSlOrd Ls)],[])) (R:=fun ⟨Ls,_⟩=>⟨.own (2,0) Ls.flatten.length,[],[.row 61 7 (rows cOrd Ls.flatten) false]⟩) (fun i j h=>by
  obtain ⟨L,hL⟩:=i; obtain ⟨M,hM⟩:=j
  simp only [Prod.mk.injEq,List.cons.injEq,AV.sl.injEq,true_and,and_true] at h
  have:=rows_inj (fun x y=>cSlOrd_inj) h
  subst this; rfl) ⟨Ls,h1,h2⟩
theorem concatOrdS_at3 (A B D:List Ord) (h:A.length + B.length + D.length<=100000):concatOrdS [.sl 1 [[.sl 7 (rows cOrd A)],[.sl 7 (rows cOrd B)],[.sl 7 (rows cOrd D)]]] []=some ⟨.own (2,0) (A++B++D).length,[],[.row 61 7 (rows cOrd (A++B++D)) false]⟩:=by
 have:=concatOrdS_at [A,B,D] (by simp) (by simp [totOrd]; omega)
 simp only [List.flatten_cons,List.flatten_nil,List.append_nil,List.append_assoc] at this ⊢
 exact this
def concatOrdI (Ls:List (List Ord)) (pre _post:List (List Ord)):St:=⟨ofL [(0,.sl 1 (rows cSlOrd Ls)),(3,.int .i64 (totOrd pre:Nat)),(9,.sl 1 (rows cSlOrd Ls)),(10,.int .i64 Ls.length),(11,.int .i64 pre.length)],hOf []⟩
def concatOrdJ (Ls:List (List Ord)) (pre _post:List (List Ord)) (X:List (List AV)):St:=⟨ofL [(6,.own (0,999) (totOrd pre)),(25,.sl 1 (rows cSlOrd Ls)),(26,.int .i64 Ls.length),(27,.int .i64 pre.length)],hOf [((0,999),.row 61 7 X false)]⟩
theorem concatOrd_ok:HSound Tryz.prog 133 concatOrdS:=by
 refine sE_ (fn:=Tryz.f133) rfl rfl (by kernel_rfl) fun args bx hr hS=>?_
 obtain ⟨⟨Ls,h1,h2⟩,rfl,rfl,rfl⟩:=mO_ hS
 refine ⟨_,(eV_ (g:=139) (by kernel_rfl) growOrd_ok (eN_ _)),by simp [Tryz.f133],by simp [go_sem],fun w Mx pin=>?_⟩
 simp only [hB_at,lab_nil,lab_cons,hOf_nil,hOf_cons]
 simp only at hS
 refine aQ_ ?_
 iterate 1
  refine oC_ fun J hJ=>?_
  simp [go_sem]
  refine hJ _ _ _ ?_
  clear hJ J
 refine oN_ ?_
 refine aQ_ ?_
 iterate 1
  refine oC_ fun J hJ=>?_
  simp [go_sem]
  refine hJ _ _ _ ?_
  clear hJ J
 refine oN_ ?_
 refine aS_ fun K3 hK3=>?_
 refine aQ_ ?_
 iterate 3
  refine oC_ fun J hJ=>?_
  simp [go_sem]
  refine hJ _ _ _ ?_
  clear hJ J
 refine oN_ ?_
 refine aB_ ?_
 refine aL_ (ι:={ q:List (List Ord) × List (List Ord) // q.1++q.2=Ls/\True }) (fun q=>concatOrdI Ls q.1.1 q.1.2) (fun q=>q.1.2.length) ⟨([],Ls),rfl,trivial⟩ ?_ ?_
 · refine wO_ [] (by simp [go_sem]) ?_ ?_ <;> simp [go_sem]
 intro ⟨⟨pre,post⟩,hl,hgo⟩
 simp only at hl hgo
 have hpl:=lS_ hl h1
 simp only [concatOrdI]
 have htot:=totOrd_le hl
 refine aQ_ ?_
 iterate 1
  refine oC_ fun J hJ=>?_
  simp [go_sem]
  refine hJ _ _ _ ?_
  clear hJ J
 refine oN_ ?_
 refine aS_ fun K6 hK6=>?_
 refine aC_ (t:=_) rfl (fun c7=>?_) (fun c7=>?_)
 ·
  simp [go_sem] at c7
  obtain ⟨x,post,rfl,hx⟩:=mL_ hl c7
  refine aK_ ?_
  refine hK6 _ ?_
  clear hK6
  refine aS_ fun K8 hK8=>?_
  refine aB_ ?_
  refine aQ_ ?_
  iterate 3
   refine oC_ fun J hJ=>?_
   simp [go_sem,hx]
   refine hJ _ _ _ ?_
   clear hJ J
  refine oN_ ?_
  refine aS_ fun K10 hK10=>?_
  have htx:=totOrd_le (Ls:=Ls) (pre:=pre++[x]) (post:=post) (by simp [<-hl])
  rw [totOrd_snoc] at htx
  have wt:=wA_ (n:=(totOrd pre:Int) + x.length) (by omega)
  refine aR_ ?_
  iterate 5
   refine oC_ fun J hJ=>?_
   simp [go_sem,wt]
   refine hJ _ _ _ ?_
   clear hJ J
  refine oN_ ?_
  refine hK10 _ ?_
  clear hK10
  refine aQ_ ?_
  iterate 2
   refine oC_ fun J hJ=>?_
   simp [go_sem,show ¬ ((totOrd pre:Int) + x.length < 0) by omega]
   refine hJ _ _ _ ?_
   clear hJ J
  refine oN_ ?_
  refine aF_ rfl ?_
  refine aK_ ?_
  refine hK8 _ ?_
  clear hK8
  refine aR_ ?_
  iterate 2
   refine oC_ fun J hJ=>?_
   simp [go_sem]
   refine hJ _ _ _ ?_
   clear hJ J
  refine oN_ ?_
  refine ⟨⟨(pre++[x],post),by simp [<-hl],by exact trivial⟩,?_,by simp⟩
  refine wO_ [] (by simp [go_sem]) ?_ ?_ <;> simp [go_sem,wN_ hpl,totOrd_snoc,wt]
 ·
  simp [go_sem] at c7
  obtain ⟨rfl,rfl⟩:=mN_ hl c7
  refine aX_ ?_
  simp only [go_sem]
  refine hK3 _ ?_
  clear hK3
  refine aQ_ ?_
  iterate 3
   refine oC_ fun J hJ=>?_
   simp [go_sem,growOrdS_at (totOrd Ls) (by omega)]
   refine hJ _ _ _ ?_
   clear hJ J
  refine oN_ ?_
  refine aS_ fun K14 hK14=>?_
  refine aQ_ ?_
  iterate 3
   refine oC_ fun J hJ=>?_
   simp [go_sem]
   refine hJ _ _ _ ?_
   clear hJ J
  refine oN_ ?_
  refine aB_ ?_
  refine aL_ (ι:={ q:List (List Ord) × List (List Ord) × List (List AV) // q.1++q.2.1=Ls/\(q.2.2=rows cOrd q.1.flatten\/q.1=[]/\q.2.2=List.replicate (totOrd Ls) (cOrd zOrd)) }) (fun q=>concatOrdJ Ls q.1.1 q.1.2.1 q.1.2.2) (fun q=>q.1.2.1.length) ⟨([],Ls,List.replicate (totOrd Ls) (cOrd zOrd)),rfl,.inr ⟨rfl,rfl⟩⟩ ?_ ?_
  · refine wO_ [((0,999),some (0,384))] (by simp [go_sem]) ?_ ?_ <;> simp [go_sem]
  intro ⟨⟨pre,post,X⟩,hl,hgo⟩
  simp only at hl hgo
  have hpl:=lS_ hl h1
  simp only [concatOrdJ]
  have htot:=totOrd_le hl
  have hX:X.take (totOrd pre)=rows cOrd pre.flatten:=by
   rcases hgo with rfl | ⟨rfl,rfl⟩
   · rw [rows_take,<-totOrd_flat,List.take_length]
   · simp [totOrd,rows]
  refine aQ_ ?_
  iterate 1
   refine oC_ fun J hJ=>?_
   simp [go_sem]
   refine hJ _ _ _ ?_
   clear hJ J
  refine oN_ ?_
  refine aS_ fun K17 hK17=>?_
  refine aC_ (t:=_) rfl (fun c18=>?_) (fun c18=>?_)
  ·
   simp [go_sem] at c18
   obtain ⟨x,post,rfl,hx⟩:=mL_ hl c18
   have htx:=totOrd_le (Ls:=Ls) (pre:=pre++[x]) (post:=post) (by simp [<-hl])
   rw [totOrd_snoc] at htx
   refine aK_ ?_
   refine hK17 _ ?_
   clear hK17
   refine aS_ fun K19 hK19=>?_
   refine aB_ ?_
   refine aQ_ ?_
   iterate 3
    refine oC_ fun J hJ=>?_
    simp [go_sem,hx]
    refine hJ _ _ _ ?_
    clear hJ J
   refine oN_ ?_
   refine aR_ ?_
   iterate 4
    refine oC_ fun J hJ=>?_
    simp [go_sem,hX,show (totOrd pre + x.length) * 56<=140737488355328 by omega,show totOrd pre + x.length<=maxLen by simp only [maxLen]; omega]
    refine hJ _ _ _ ?_
    clear hJ J
   refine oN_ ?_
   refine hK19 _ ?_
   clear hK19
   refine aR_ ?_
   iterate 2
    refine oC_ fun J hJ=>?_
    simp [go_sem]
    refine hJ _ _ _ ?_
    clear hJ J
   refine oN_ ?_
   refine ⟨⟨(pre++[x],post,rows cOrd (pre++[x]).flatten),by simp [<-hl],by exact .inl rfl⟩,?_,by simp⟩
   refine wO_ [((0,999),some (0,528))] (by simp [go_sem]) ?_ ?_ <;> simp [go_sem,wN_ hpl,totOrd_snoc,rows_append,hX]
  ·
   simp [go_sem] at c18
   obtain ⟨rfl,rfl⟩:=mN_ hl c18
   refine aX_ ?_
   simp only [go_sem]
   refine hK14 _ ?_
   clear hK14
   refine aQ_ ?_
   iterate 2
    refine oC_ fun J hJ=>?_
    simp [go_sem]
    refine hJ _ _ _ ?_
    clear hJ J
   refine oN_ ?_
   refine aE_ ?_
   have hXX:X=rows cOrd Ls.flatten:=by
    rcases hgo with rfl | ⟨rfl,rfl⟩
    · rfl
    · simp [totOrd,rows]
   subst hXX
   refine fQ_ [((2,0),some (0,999))] ?_
   simp [go_sem,Tryz.f133,totOrd_flat]
   try rfl
structure plChgX where
 L:List Chg
 L':AV
 M:List Chg
 M':AV
 h_L:SlA 9 cChg L L'
 h_M:SlA 9 cChg M M'
 hL:L.length<=100000
noncomputable def plChgS:HSpec:=mkH (ι:=plChgX) (fun ⟨L,L',M,M',h_L,h_M,hL⟩=>([L',M'],[])) fun ⟨L,L',M,M',h_L,h_M,hL⟩=>⟨.bool (decide (L=M)),[],[]⟩
theorem plChgS_atG (L:List Chg) (L':AV) (M:List Chg) (M':AV) (h_L:SlA 9 cChg L L') (h_M:SlA 9 cChg M M') (hL:L.length<=100000):plChgS [L',M'] []=some (⟨.bool (decide (L=M)),[],[]⟩):=
 mA_ (ι:=plChgX) (fun i j h=>by obtain ⟨L,L',M,M',h_L,h_M,hL⟩:=i; obtain ⟨L2,L'2,M2,M'2,h_L2,h_M2,hL2⟩:=j; simp [and_assoc,qB_,qI_,qO_,qC_,qE_,qK_,qR_,qV_,qP_,qOc_] at h; obtain ⟨rfl,rfl⟩:=h; obtain rfl:=SlA.inj (fun x y h=>cChg_inj h) h_L h_L2; obtain rfl:=SlA.inj (fun x y h=>cChg_inj h) h_M h_M2; rfl) ⟨L,L',M,M',h_L,h_M,hL⟩
theorem plChgS_at (L:List Chg) (M:List Chg) (hL:L.length<=100000):plChgS [(.sl 9 (rows cChg L)),(.sl 9 (rows cChg M))] []=some (⟨.bool (decide (L=M)),[],[]⟩):=plChgS_atG L _ M _ .sl .sl hL
def plChgI (L M pre _post _q:List Chg):St:=⟨ofL [(0,.sl 9 (rows cChg L)),(1,.sl 9 (rows cChg M)),(5,.int .i64 pre.length)],hOf []⟩
theorem plChg_ok:HSound Tryz.prog 12 plChgS:=by
 refine sE_ (fn:=Tryz.f12) rfl rfl (by kernel_rfl) fun args bx hr hS=>?_
 obtain ⟨⟨L,L',M,M',h_L,h_M,hL⟩,rfl,rfl,rfl⟩:=mO_ hS
 clear hS
 refine ⟨_,(eN_ _),by simp [Tryz.f12],by simp [go_sem],fun w Mx pin=>?_⟩
 simp only [hB_at,lab_nil,lab_cons,hOf_nil,hOf_cons]
 refine aW_ (s':=⟨ofL [(0,(.sl 9 (rows cChg L))),(1,(.sl 9 (rows cChg M)))],hOf []⟩) ?_ ?_
 · cases h_L <;> cases h_M <;> exact wO_ [] (by simp [go_sem]) (by simp [go_sem]) (by simp [go_sem])
 clear h_L h_M
 refine aQ_ ?_
 iterate 1
  refine oC_ fun J hJ=>?_
  simp [go_sem]
  refine hJ _ _ _ ?_
  clear hJ J
 refine oN_ ?_
 refine aS_ fun K2 hK2=>?_
 refine aQ_ ?_
 iterate 5
  refine oC_ fun J hJ=>?_
  simp [go_sem]
  refine hJ _ _ _ ?_
  clear hJ J
 refine oN_ ?_
 refine aC_ (t:=_) rfl (fun c4=>?_) (fun c4=>?_)
 ·
  simp [go_sem] at c4
  have hne:L ≠ M:=fun h=>c4 (by rw [h])
  refine aQ_ ?_
  iterate 1
   refine oC_ fun J hJ=>?_
   simp [go_sem]
   refine hJ _ _ _ ?_
   clear hJ J
  refine oN_ ?_
  refine aE_ ?_
  refine fQ_ [] ?_
  simp [go_sem,Tryz.f12,hne]
 ·
  simp [go_sem] at c4
  refine aK_ ?_
  refine hK2 _ ?_
  clear hK2
  refine aS_ fun K6 hK6=>?_
  refine aQ_ ?_
  iterate 1
   refine oC_ fun J hJ=>?_
   simp [go_sem]
   refine hJ _ _ _ ?_
   clear hJ J
  refine oN_ ?_
  refine aB_ ?_
  refine aL_ (ι:={ q:List Chg × List Chg × List Chg // q.1++q.2.1=L/\q.1++q.2.2=M }) (fun q=>plChgI L M q.1.1 q.1.2.1 q.1.2.2) (fun q=>q.1.2.1.length) ⟨([],L,M),rfl,rfl⟩ ?_ ?_
  · refine wO_ [] (by simp [go_sem]) ?_ ?_ <;> simp [go_sem]
  intro ⟨⟨pre,post,p2⟩,hl,hgo⟩
  simp only at hl hgo
  have hpl:=lS_ hl hL
  simp only [plChgI]
  refine aS_ fun K8 hK8=>?_
  refine aQ_ ?_
  iterate 4
   refine oC_ fun J hJ=>?_
   simp [go_sem]
   refine hJ _ _ _ ?_
   clear hJ J
  refine oN_ ?_
  refine aC_ (t:=_) rfl (fun c10=>?_) (fun c10=>?_)
  ·
   simp [go_sem] at c10
   obtain ⟨x,post,rfl,hx⟩:=mL_ hl c10
   obtain ⟨y,p2,rfl,hy⟩:=mL_ hgo (by omega)
   refine aK_ ?_
   refine hK8 _ ?_
   clear hK8
   refine aS_ fun K11 hK11=>?_
   refine aB_ ?_
   refine aU_ ?_
   iterate 9
    refine oC_ fun J hJ=>?_
    simp [go_sem,hx,hy]
    refine hJ _ _ _ ?_
    clear hJ J
   refine oN_ ?_
   refine ⟨rfl,?_⟩
   refine aC_ (t:=_) rfl (fun c13=>?_) (fun c13=>?_)
   ·
    refine aQ_ ?_
    iterate 1
     refine oC_ fun J hJ=>?_
     simp [go_sem]
     refine hJ _ _ _ ?_
     clear hJ J
    refine oN_ ?_
    refine aE_ ?_
    have hne:L ≠ M:=by
     rintro rfl
     rw [hx] at hy
     cases hy
     simp at c13
    refine fQ_ [] ?_
    simp [go_sem,Tryz.f12,hne]
   ·
    refine aK_ ?_
    refine hK11 _ ?_
    clear hK11
    refine aR_ ?_
    iterate 3
     refine oC_ fun J hJ=>?_
     simp [go_sem]
     refine hJ _ _ _ ?_
     clear hJ J
    refine oN_ ?_
    obtain rfl:x=y:=by simpa using c13
    refine ⟨⟨(pre++[x],post,p2),by simp [<-hl],by rw [<-hgo]; simp⟩,?_,by simp⟩
    refine wO_ [] (by simp [go_sem]) ?_ ?_ <;> simp [go_sem,wN_ hpl]
  ·
   simp [go_sem] at c10
   obtain ⟨rfl,rfl⟩:=mN_ hl c10
   obtain rfl:p2=[]:=by have:=congrArg List.length hgo; simp at this; exact List.eq_nil_of_length_eq_zero (by omega)
   simp at hgo
   refine aX_ ?_
   simp only [go_sem]
   refine hK6 _ ?_
   clear hK6
   refine aQ_ ?_
   iterate 1
    refine oC_ fun J hJ=>?_
    simp [go_sem]
    refine hJ _ _ _ ?_
    clear hJ J
   refine oN_ ?_
   refine aE_ ?_
   refine fQ_ [] ?_
   simp [go_sem,Tryz.f12,hgo]
end Go.Proofs.YtjoaigccapegpaaGreat.AE
namespace Go.Proofs.YtjoaigccapegpaaGreat
open Go.RowKit
namespace M64
theorem maskN (a:Nat) (ha:a < 18446744073709551616):bits .and .u64 (a:Int) 4294967295=((a % 4294967296:Nat):Int):=by
 have h:=bits_and_u64_nat a 4294967295 ha (by omega)
 have e:a &&& 4294967295=a % 4294967296:=Nat.and_two_pow_sub_one_eq_mod a 32
 rw [e] at h
 exact h
theorem divN (a:Nat):(a:Int) / 4294967296=((a / 4294967296:Nat):Int):=by omega
theorem mulN (a b:Nat):(a:Int) * (b:Int)=((a * b:Nat):Int):=(Int.natCast_mul a b).symm
theorem addN (a b:Nat):(a:Int) + (b:Int)=((a + b:Nat):Int):=(Int.natCast_add a b).symm
theorem wrapN (a:Nat) (ha:a < 18446744073709551616):IntKind.u64.wrap (a:Int)=(a:Int):=by rw [IntKind.wrap_u64]; omega
theorem wrapM (a:Nat):IntKind.u64.wrap (a:Int)=((a % 18446744073709551616:Nat):Int):=by rw [IntKind.wrap_u64]; omega
end M64
set_option maxHeartbeats 1000000 in
theorem Mul64_any (x y:Nat) (hx:x < 18446744073709551616) (hy:y < 18446744073709551616) (w:World) :
  Calls Tryz.prog 136 #[.int .u64 x,.int .u64 y] w fun e w'=>e=.returned (.tuple #[.int .u64 ((x * y / 18446744073709551616:Nat):Int),.int .u64 ((x * y % 18446744073709551616:Nat):Int)])/\w=w':=by
 obtain ⟨bd,bt,bw,hhi⟩:=Lib.mul64_hi x y hx hy
 have ba:=Lib.half_mul_le (a:=x / 4294967296) (b:=y / 4294967296) (by omega) (by omega)
 have bb:=Lib.half_mul_le (a:=x / 4294967296) (b:=y % 4294967296) (by omega) (by omega)
 have bc:=Lib.half_mul_le (a:=x % 4294967296) (b:=y / 4294967296) (by omega) (by omega)
 have ba':x / 4294967296 * (y / 4294967296) < 18446744073709551616:=by omega
 have bb':x / 4294967296 * (y % 4294967296) < 18446744073709551616:=by omega
 have bc':x % 4294967296 * (y / 4294967296) < 18446744073709551616:=by omega
 have bh1:x / 4294967296 * (y / 4294967296) + (x / 4294967296 * (y % 4294967296) + x % 4294967296 * (y % 4294967296) / 4294967296) / 4294967296 < 18446744073709551616:=by omega
 have bh:x / 4294967296 * (y / 4294967296) + (x / 4294967296 * (y % 4294967296) + x % 4294967296 * (y % 4294967296) / 4294967296) / 4294967296 + ((x / 4294967296 * (y % 4294967296) + x % 4294967296 * (y % 4294967296) / 4294967296) % 4294967296 + x % 4294967296 * (y / 4294967296)) / 4294967296 < 18446744073709551616:=by omega
 go_enter Tryz.func136,Tryz.ntmps136
 go_wp2
 simp only [M64.maskN x hx,M64.maskN y hy,M64.divN,M64.mulN,M64.addN,M64.wrapN _ bd,M64.wrapN _ bb',M64.wrapN _ bt,M64.maskN _ bt,M64.wrapN _ bc',M64.wrapN _ bw,M64.wrapN _ ba',M64.wrapN _ bh1,M64.wrapN _ bh,M64.wrapM (x * y)]
 rw [hhi]
 go_ret2
 exact ⟨rfl,rfl⟩
theorem int_congr {k:IntKind} {a b:Int} (h:a=b):Ending.returned (.int k a)=.returned (.int k b):=by rw [h]
theorem size_any (n:Int) (h:I64 n) (w:World):Calls Tryz.prog 137 #[.int .i64 n] w fun e w'=>e=.returned (.int .u64 (n.natAbs:Int))/\w=w':=by
 obtain ⟨h1,h2⟩:=h
 by_cases hn:n < 0
 ·
  go_enter Tryz.func137,Tryz.ntmps137
  go_wp2
  go_ret
  exact ⟨int_congr (by simp only [IntKind.wrap_u64]; omega),rfl⟩
 ·
  go_enter Tryz.func137,Tryz.ntmps137
  go_wp2
  go_ret
  exact ⟨int_congr (by omega),rfl⟩
theorem Mul64_small (x y p:Nat) (hx:x < 18446744073709551616) (hy:y < 18446744073709551616) (hp:x * y=p) (h:p < 18446744073709551616) (w:World) :
  Calls Tryz.prog 136 #[.int .u64 x,.int .u64 y] w fun e w'=>e=.returned (.tuple #[.int .u64 0,.int .u64 (p:Int)])/\w=w':=by
 have h0:x * y / 18446744073709551616=0:=by rw [hp]; omega
 have h1:x * y % 18446744073709551616=p:=by rw [hp]; omega
 have:=Mul64_any x y hx hy w
 rw [h0,h1] at this
 exact this
theorem Mul64_big (x y:Nat) (hx:x < 18446744073709551616) (hy:y < 18446744073709551616) (h:18446744073709551616<=x * y) (w:World) :
  Calls Tryz.prog 136 #[.int .u64 x,.int .u64 y] w fun e w'=>(∃ hi lo:Int,0 < hi/\e=.returned (.tuple #[.int .u64 hi,.int .u64 lo]))/\w=w':=
 (Mul64_any x y hx hy w).mono fun _ _ ⟨he,hw⟩=>⟨⟨_,_,by omega,he⟩,hw⟩
theorem ret2_congr {k:IntKind} {a b:Int} {v:Value} (h:a=b):Ending.returned (.tuple #[.int k a,v])=.returned (.tuple #[.int k b,v]):=by rw [h]
theorem Mul_big (a b:Int) (w:World) (ha:I64 a) (hb:I64 b) (h:18446744073709551616<=a.natAbs * b.natAbs) :
  Calls Tryz.prog 129 #[.int .i64 a,.int .i64 b] w fun e w'=>e=.returned (.tuple #[.int .i64 0,.bool false])/\w=w':=by
 have hx:a.natAbs < 18446744073709551616:=by unfold I64 at ha; omega
 have hy:b.natAbs < 18446744073709551616:=by unfold I64 at hb; omega
 go_enter Tryz.func129,Tryz.ntmps129
 go_wp2_with fail
 refine (size_any a ha _).mono ?_
 rintro e w1 ⟨rfl,rfl⟩
 go_wp2_with fail
 refine (size_any b hb _).mono ?_
 rintro e w1 ⟨rfl,rfl⟩
 go_wp2_with fail
 refine (Mul64_big _ _ hx hy h _).mono ?_
 rintro e w1 ⟨⟨hi,lo,hpos,rfl⟩,rfl⟩
 have hd:decide (0 < hi)=true:=by simpa using hpos
 go_wp2_with fail
 go_ret2
 exact ⟨rfl,rfl⟩
theorem Mul_neg (a b:Int) (p:Nat) (w:World) (ha:I64 a) (hb:I64 b) (h:a < 0/\0<=b\/0<=a/\b < 0) (hp:a.natAbs * b.natAbs=p) (hp0:0<=p) (hp1:p<=9223372036854775808) :
  Calls Tryz.prog 129 #[.int .i64 a,.int .i64 b] w fun e w'=>e=.returned (.tuple #[.int .i64 (-(p:Int)),.bool true])/\w=w':=by
 have hx:a.natAbs < 18446744073709551616:=by unfold I64 at ha; omega
 have hy:b.natAbs < 18446744073709551616:=by unfold I64 at hb; omega
 have hl:¬ (9223372036854775808:Int) < (p:Int):=by omega
 have c:∀ w,_:=Mul64_small a.natAbs b.natAbs p hx hy hp (by omega)
 have H:=Lib.hid c
 have Ha:=Lib.hid ha
 have Hb:=Lib.hid hb
 clear c hp hx hy ha hb
 rcases h with ⟨h1,h2⟩ | ⟨h1,h2⟩
 ·
  have h3:a < 0:=by omega
  have h4:¬ b < 0:=by omega
  clear h1 h2
  go_enter Tryz.func129,Tryz.ntmps129
  go_wp2_with fail
  refine (size_any a Ha.out _).mono ?_
  rintro e w1 ⟨rfl,rfl⟩
  go_wp2_with fail
  refine (size_any b Hb.out _).mono ?_
  rintro e w1 ⟨rfl,rfl⟩
  go_wp2_with fail
  refine (H.out _).mono ?_
  rintro e w1 ⟨rfl,rfl⟩
  go_wp2_with fail
  go_ret2
  exact ⟨ret2_congr (by simp only [IntKind.wrap_u64,wrap64]; omega),rfl⟩
 ·
  have h3:¬ a < 0:=by omega
  have h4:b < 0:=by omega
  clear h1 h2
  go_enter Tryz.func129,Tryz.ntmps129
  go_wp2_with fail
  refine (size_any a Ha.out _).mono ?_
  rintro e w1 ⟨rfl,rfl⟩
  go_wp2_with fail
  refine (size_any b Hb.out _).mono ?_
  rintro e w1 ⟨rfl,rfl⟩
  go_wp2_with fail
  refine (H.out _).mono ?_
  rintro e w1 ⟨rfl,rfl⟩
  go_wp2_with fail
  go_ret2
  exact ⟨ret2_congr (by simp only [IntKind.wrap_u64,wrap64]; omega),rfl⟩
theorem Mul_negbig (a b:Int) (p:Nat) (w:World) (ha:I64 a) (hb:I64 b) (h:a < 0/\0<=b\/0<=a/\b < 0) (hp:a.natAbs * b.natAbs=p) (hp0:9223372036854775809<=p) (hp1:p<=18446744073709551615) :
  Calls Tryz.prog 129 #[.int .i64 a,.int .i64 b] w fun e w'=>e=.returned (.tuple #[.int .i64 0,.bool false])/\w=w':=by
 have hx:a.natAbs < 18446744073709551616:=by unfold I64 at ha; omega
 have hy:b.natAbs < 18446744073709551616:=by unfold I64 at hb; omega
 have hl:(9223372036854775808:Int) < (p:Int):=by omega
 have c:∀ w,_:=Mul64_small a.natAbs b.natAbs p hx hy hp (by omega)
 have H:=Lib.hid c
 have Ha:=Lib.hid ha
 have Hb:=Lib.hid hb
 clear c hp hx hy ha hb
 rcases h with ⟨h1,h2⟩ | ⟨h1,h2⟩
 ·
  have h3:a < 0:=by omega
  have h4:¬ b < 0:=by omega
  clear h1 h2
  go_enter Tryz.func129,Tryz.ntmps129
  go_wp2_with fail
  refine (size_any a Ha.out _).mono ?_
  rintro e w1 ⟨rfl,rfl⟩
  go_wp2_with fail
  refine (size_any b Hb.out _).mono ?_
  rintro e w1 ⟨rfl,rfl⟩
  go_wp2_with fail
  refine (H.out _).mono ?_
  rintro e w1 ⟨rfl,rfl⟩
  go_wp2_with fail
  go_ret2
  exact ⟨rfl,rfl⟩
 ·
  have h3:¬ a < 0:=by omega
  have h4:b < 0:=by omega
  clear h1 h2
  go_enter Tryz.func129,Tryz.ntmps129
  go_wp2_with fail
  refine (size_any a Ha.out _).mono ?_
  rintro e w1 ⟨rfl,rfl⟩
  go_wp2_with fail
  refine (size_any b Hb.out _).mono ?_
  rintro e w1 ⟨rfl,rfl⟩
  go_wp2_with fail
  refine (H.out _).mono ?_
  rintro e w1 ⟨rfl,rfl⟩
  go_wp2_with fail
  go_ret2
  exact ⟨rfl,rfl⟩
theorem Mul_pos (a b:Int) (p:Nat) (w:World) (ha:I64 a) (hb:I64 b) (h:a < 0/\b < 0\/0<=a/\0<=b) (hp:a.natAbs * b.natAbs=p) (hp0:0<=p) (hp1:p<=9223372036854775807) :
  Calls Tryz.prog 129 #[.int .i64 a,.int .i64 b] w fun e w'=>e=.returned (.tuple #[.int .i64 (p:Int),.bool true])/\w=w':=by
 have hx:a.natAbs < 18446744073709551616:=by unfold I64 at ha; omega
 have hy:b.natAbs < 18446744073709551616:=by unfold I64 at hb; omega
 have hl:¬ (9223372036854775807:Int) < (p:Int):=by omega
 have c:∀ w,_:=Mul64_small a.natAbs b.natAbs p hx hy hp (by omega)
 have H:=Lib.hid c
 have Ha:=Lib.hid ha
 have Hb:=Lib.hid hb
 clear c hp hx hy ha hb
 rcases h with ⟨h1,h2⟩ | ⟨h1,h2⟩
 ·
  have h3:a < 0:=by omega
  have h4:b < 0:=by omega
  clear h1 h2
  go_enter Tryz.func129,Tryz.ntmps129
  go_wp2_with fail
  refine (size_any a Ha.out _).mono ?_
  rintro e w1 ⟨rfl,rfl⟩
  go_wp2_with fail
  refine (size_any b Hb.out _).mono ?_
  rintro e w1 ⟨rfl,rfl⟩
  go_wp2_with fail
  refine (H.out _).mono ?_
  rintro e w1 ⟨rfl,rfl⟩
  go_wp2_with fail
  go_ret2
  exact ⟨rfl,rfl⟩
 ·
  have h3:¬ a < 0:=by omega
  have h4:¬ b < 0:=by omega
  clear h1 h2
  go_enter Tryz.func129,Tryz.ntmps129
  go_wp2_with fail
  refine (size_any a Ha.out _).mono ?_
  rintro e w1 ⟨rfl,rfl⟩
  go_wp2_with fail
  refine (size_any b Hb.out _).mono ?_
  rintro e w1 ⟨rfl,rfl⟩
  go_wp2_with fail
  refine (H.out _).mono ?_
  rintro e w1 ⟨rfl,rfl⟩
  go_wp2_with fail
  go_ret2
  exact ⟨rfl,rfl⟩
theorem Mul_posbig (a b:Int) (p:Nat) (w:World) (ha:I64 a) (hb:I64 b) (h:a < 0/\b < 0\/0<=a/\0<=b) (hp:a.natAbs * b.natAbs=p) (hp0:9223372036854775808<=p) (hp1:p<=18446744073709551615) :
  Calls Tryz.prog 129 #[.int .i64 a,.int .i64 b] w fun e w'=>e=.returned (.tuple #[.int .i64 0,.bool false])/\w=w':=by
 have hx:a.natAbs < 18446744073709551616:=by unfold I64 at ha; omega
 have hy:b.natAbs < 18446744073709551616:=by unfold I64 at hb; omega
 have hl:(9223372036854775807:Int) < (p:Int):=by omega
 have c:∀ w,_:=Mul64_small a.natAbs b.natAbs p hx hy hp (by omega)
 have H:=Lib.hid c
 have Ha:=Lib.hid ha
 have Hb:=Lib.hid hb
 clear c hp hx hy ha hb
 rcases h with ⟨h1,h2⟩ | ⟨h1,h2⟩
 ·
  have h3:a < 0:=by omega
  have h4:b < 0:=by omega
  clear h1 h2
  go_enter Tryz.func129,Tryz.ntmps129
  go_wp2_with fail
  refine (size_any a Ha.out _).mono ?_
  rintro e w1 ⟨rfl,rfl⟩
  go_wp2_with fail
  refine (size_any b Hb.out _).mono ?_
  rintro e w1 ⟨rfl,rfl⟩
  go_wp2_with fail
  refine (H.out _).mono ?_
  rintro e w1 ⟨rfl,rfl⟩
  go_wp2_with fail
  go_ret2
  exact ⟨rfl,rfl⟩
 ·
  have h3:¬ a < 0:=by omega
  have h4:¬ b < 0:=by omega
  clear h1 h2
  go_enter Tryz.func129,Tryz.ntmps129
  go_wp2_with fail
  refine (size_any a Ha.out _).mono ?_
  rintro e w1 ⟨rfl,rfl⟩
  go_wp2_with fail
  refine (size_any b Hb.out _).mono ?_
  rintro e w1 ⟨rfl,rfl⟩
  go_wp2_with fail
  refine (H.out _).mono ?_
  rintro e w1 ⟨rfl,rfl⟩
  go_wp2_with fail
  go_ret2
  exact ⟨rfl,rfl⟩
theorem abs_mul (a b:Int):(a * b).natAbs=a.natAbs * b.natAbs:=Int.natAbs_mul a b
theorem mul_unlike {a b:Int} (h:a < 0/\0<=b\/0<=a/\b < 0):a * b<=0:=by
 rcases h with ⟨h1,h2⟩ | ⟨h1,h2⟩
 · exact Int.mul_nonpos_of_nonpos_of_nonneg (Int.le_of_lt h1) h2
 · exact Int.mul_nonpos_of_nonneg_of_nonpos h1 (Int.le_of_lt h2)
theorem mul_like {a b:Int} (h:a < 0/\b < 0\/0<=a/\0<=b):0<=a * b:=by
 rcases h with ⟨h1,h2⟩ | ⟨h1,h2⟩
 · exact Int.mul_nonneg_of_nonpos_of_nonpos (Int.le_of_lt h1) (Int.le_of_lt h2)
 · exact Int.mul_nonneg h1 h2
theorem Mul_yes (a b:Int) (w:World) (ha:I64 a) (hb:I64 b) (h:I64 (a * b)) :
  Calls Tryz.prog 129 #[.int .i64 a,.int .i64 b] w fun e w'=>e=.returned (.tuple #[.int .i64 (a * b),.bool true])/\w=w':=by
 have hp:=abs_mul a b
 unfold I64 at h
 generalize hm:a * b=m at *
 by_cases hs:a < 0/\0<=b\/0<=a/\b < 0
 ·
  have:=mul_unlike hs
  rw [hm] at this
  have e:m=-((m.natAbs:Nat):Int):=by omega
  rw [e]
  exact Mul_neg a b _ w ha hb hs (by omega) (by omega) (by omega)
 ·
  have hs':a < 0/\b < 0\/0<=a/\0<=b:=by omega
  have:=mul_like hs'
  rw [hm] at this
  have e:m=((m.natAbs:Nat):Int):=by omega
  rw [e]
  exact Mul_pos a b _ w ha hb hs' (by omega) (by omega) (by omega)
theorem Mul_no (a b:Int) (w:World) (ha:I64 a) (hb:I64 b) (h:¬ I64 (a * b)) :
  Calls Tryz.prog 129 #[.int .i64 a,.int .i64 b] w fun e w'=>e=.returned (.tuple #[.int .i64 0,.bool false])/\w=w':=by
 by_cases hbig:18446744073709551616<=a.natAbs * b.natAbs
 · exact Mul_big a b w ha hb hbig
 have hp:=abs_mul a b
 unfold I64 at h
 generalize hm:a * b=m at *
 by_cases hs:a < 0/\0<=b\/0<=a/\b < 0
 ·
  have:=mul_unlike hs
  rw [hm] at this
  exact Mul_negbig a b _ w ha hb hs rfl (by omega) (by omega)
 ·
  have hs':a < 0/\b < 0\/0<=a/\0<=b:=by omega
  have:=mul_like hs'
  rw [hm] at this
  exact Mul_posbig a b _ w ha hb hs' rfl (by omega) (by omega)
end Go.Proofs.YtjoaigccapegpaaGreat
namespace Go.Proofs.YtjoaigccapegpaaGreat.AE
open Go Go.Proofs Go.RowKit
set_option linter.unusedVariables false
set_option linter.unusedSimpArgs false
set_option maxRecDepth 100000
set_option maxHeartbeats 4000000
def FairB (b:Bk):Prop:=∀ i,i < 8->0<=b.st.at i/\b.st.at i<=1099511627776/\0<=b.pr.at i/\b.pr.at i<=1073741824/\0<=b.pu.at i/\b.pu.at i<=1099511627776
def itemB (i:Int):Bool:=decide (0<=i/\i<=7)
def fineB (i n:Int):Bool:=itemB i && decide (0<=n/\n<=1099511627776)
theorem itemB_rng {i:Int} (h:itemB i=true):0<=i/\i<=7/\i < 8/\i.toNat < 8:=by
 simp only [itemB,decide_eq_true_eq] at h
 omega
theorem fineB_rng {i n:Int} (h:fineB i n=true):0<=i/\i<=7/\i < 8/\i.toNat < 8/\0<=n/\n<=1099511627776:=by
 simp only [fineB,itemB,Bool.and_eq_true,decide_eq_true_eq] at h
 omega
def bkH (os:List Ord):Except Int Bk->HR
 | .ok b=>⟨.tup [.agg (cBk b (.sl 7 (rows cOrd os))),.int .i64 0],[],[]⟩
 | .error e=>⟨.tup [.agg (cBk zBk (.sl 7 [])),.int .i64 e],[],[]⟩
theorem bkH_goOn (os:List Ord) (r:Except Int Bk):(bkH os r).up=[]:=by cases r <;> rfl
def addB' (b:Bk) (i n:Int):Except Int Bk:=if fineB i n=true then if b.st.at i.toNat + n<=1099511627776 then .ok { b with st:=b.st.put i.toNat (b.st.at i.toNat + n) } else .error 7 else .error 4
def giveB (b:Bk) (i n:Int):Except Int Bk:=if fineB i n=true then if b.pu.at i.toNat + n<=1099511627776 then .ok { b with pu:=b.pu.put i.toNat (b.pu.at i.toNat + n) } else .error 7 else .error 4
def takeB (b:Bk) (i n:Int):Except Int Bk:=if fineB i n=true then if b.st.at i.toNat < n then .error 11 else .ok { b with st:=b.st.put i.toNat (b.st.at i.toNat - n) } else .error 4
def hasB (b:Bk) (i n:Int):Bool:=match takeB b i n with
 | .ok _=>true
 | .error _=>false
def payB (b:Bk) (i n:Int):Except Int Bk:=if fineB i n=true then if b.pu.at i.toNat < n then .error 11 else .ok { b with pu:=b.pu.put i.toNat (b.pu.at i.toNat - n) } else .error 4
def priceB (b:Bk) (i n:Int):Except Int Bk:=if (itemB i && decide (0<=n/\n<=1073741824))=true then .ok { b with pr:=b.pr.put i.toNat n } else .error 4
def costB (b:Bk) (i n:Int):Except Int Int:=if fineB i n=true then if n * b.pr.at i.toNat<=1099511627776 then .ok (n * b.pr.at i.toNat) else .error 7 else .error 4
def costH:Except Int Int->HR
 | .ok c=>⟨.tup [.int .i64 c,.int .i64 0],[],[]⟩
 | .error e=>⟨.tup [.int .i64 0,.int .i64 e],[],[]⟩
theorem costH_goOn (r:Except Int Int):(costH r).up=[]:=by cases r <;> rfl
def mulH (a b:Int):HR:=if a * b<=9223372036854775807 then ⟨.tup [.int .i64 (a * b),.bool true],[],[]⟩ else ⟨.tup [.int .i64 0,.bool false],[],[]⟩
structure numInX where
 n:Int
 lo:Int
 hi:Int
noncomputable def numInS:HSpec:=mkH (ι:=numInX) (fun ⟨n,lo,hi⟩=>([.int .i64 n,.int .i64 lo,.int .i64 hi],[])) fun ⟨n,lo,hi⟩=>⟨.bool (decide (lo<=n/\n<=hi)),[],[]⟩
theorem numInS_atG (n:Int) (lo:Int) (hi:Int):numInS [.int .i64 n,.int .i64 lo,.int .i64 hi] []=some (⟨.bool (decide (lo<=n/\n<=hi)),[],[]⟩):=
 mA_ (ι:=numInX) (fun i j h=>by obtain ⟨n,lo,hi⟩:=i; obtain ⟨n2,lo2,hi2⟩:=j; simp [and_assoc,qB_,qI_,qO_,qC_,qE_,qK_,qR_,qV_,qP_,qOc_] at h; obtain ⟨rfl,rfl,rfl⟩:=h; rfl) ⟨n,lo,hi⟩
theorem numInS_at (n:Int) (lo:Int) (hi:Int):numInS [.int .i64 n,.int .i64 lo,.int .i64 hi] []=some (⟨.bool (decide (lo<=n/\n<=hi)),[],[]⟩):=numInS_atG n lo hi
theorem numIn_ok:HSound Tryz.prog 70 numInS:=by
 refine sE_ (fn:=Tryz.f70) rfl rfl (by kernel_rfl) fun args bx hr hS=>?_
 obtain ⟨⟨n,lo,hi⟩,rfl,rfl,rfl⟩:=mO_ hS
 clear hS
 refine ⟨_,(eN_ _),by simp [Tryz.f70],by simp [go_sem],fun w Mx pin=>?_⟩
 simp only [hB_at,lab_nil,lab_cons,hOf_nil,hOf_cons]
 refine aQ_ ?_
 iterate 1
  refine oC_ fun J hJ=>?_
  simp [go_sem]
  refine hJ _ _ _ ?_
  clear hJ J
 refine oN_ ?_
 refine aS_ fun K2 hK2=>?_
 by_cases h1:lo<=n
 all_goals
  refine aR_ ?_
  iterate 9
   refine oC_ fun J hJ=>?_
   simp [go_sem,h1]
   refine hJ _ _ _ ?_
   clear hJ J
  refine oN_ ?_
  refine hK2 _ ?_
  clear hK2
  refine aE_ ?_
  refine fQ_ [] ?_
  simp [go_sem,Tryz.f70,h1]
structure numAddX where
 a:Int
 b:Int
 hL:(-2305843009213693952<=a/\a<=2305843009213693952)/\-2305843009213693952<=b/\b<=2305843009213693952
noncomputable def numAddS:HSpec:=mkH (ι:=numAddX) (fun ⟨a,b,hL⟩=>([.int .i64 a,.int .i64 b],[])) fun ⟨a,b,hL⟩=>⟨.tup [.int .i64 (a + b),.bool true],[],[]⟩
theorem numAddS_atG (a:Int) (b:Int) (hL:(-2305843009213693952<=a/\a<=2305843009213693952)/\-2305843009213693952<=b/\b<=2305843009213693952):numAddS [.int .i64 a,.int .i64 b] []=some (⟨.tup [.int .i64 (a + b),.bool true],[],[]⟩):=
 mA_ (ι:=numAddX) (fun i j h=>by obtain ⟨a,b,hL⟩:=i; obtain ⟨a2,b2,hL2⟩:=j; simp [and_assoc,qB_,qI_,qO_,qC_,qE_,qK_,qR_,qV_,qP_,qOc_] at h; obtain ⟨rfl,rfl⟩:=h; rfl) ⟨a,b,hL⟩
theorem numAddS_at (a:Int) (b:Int) (hL:(-2305843009213693952<=a/\a<=2305843009213693952)/\-2305843009213693952<=b/\b<=2305843009213693952):numAddS [.int .i64 a,.int .i64 b] []=some (⟨.tup [.int .i64 (a + b),.bool true],[],[]⟩):=numAddS_atG a b hL
theorem numAdd_ok:HSound Tryz.prog 114 numAddS:=by
 refine sE_ (fn:=Tryz.f114) rfl rfl (by kernel_rfl) fun args bx hr hS=>?_
 obtain ⟨⟨a,b,hL⟩,rfl,rfl,rfl⟩:=mO_ hS
 clear hS
 refine ⟨_,(eN_ _),by simp [Tryz.f114],by simp [go_sem],fun w Mx pin=>?_⟩
 simp only [hB_at,lab_nil,lab_cons,hOf_nil,hOf_cons]
 refine aQ_ ?_
 iterate 2
  refine oC_ fun J hJ=>?_
  simp [go_sem]
  refine hJ _ _ _ ?_
  clear hJ J
 refine oN_ ?_
 refine aQ_ ?_
 iterate 4
  refine oC_ fun J hJ=>?_
  simp [go_sem,wA_ (n:=a + b) (by omega)]
  refine hJ _ _ _ ?_
  clear hJ J
 refine oN_ ?_
 refine aS_ fun K3 hK3=>?_
 refine aS_ fun K4 hK4=>?_
 by_cases ha:a < 0 <;> by_cases hb:b < 0 <;> by_cases hs:a + b < 0
 all_goals first | (exfalso; omega) | skip
 all_goals
  refine aR_ ?_
  iterate 12
   refine oC_ fun J hJ=>?_
   simp [go_sem,ha,hb,hs]
   refine hJ _ _ _ ?_
   clear hJ J
  refine oN_ ?_
  refine hK4 _ ?_
  clear hK4
  refine aF_ rfl ?_
  refine aK_ ?_
  refine hK3 _ ?_
  clear hK3
  refine aQ_ ?_
  iterate 3
   refine oC_ fun J hJ=>?_
   simp [go_sem]
   refine hJ _ _ _ ?_
   clear hJ J
  refine oN_ ?_
  refine aE_ ?_
  refine fQ_ [] ?_
  simp [go_sem,Tryz.f114]
structure sItemX where
 i:Int
noncomputable def sItemS:HSpec:=mkH (ι:=sItemX) (fun ⟨i⟩=>([.int .i64 i],[])) fun ⟨i⟩=>⟨.bool (itemB i),[],[]⟩
theorem sItemS_atG (i:Int):sItemS [.int .i64 i] []=some (⟨.bool (itemB i),[],[]⟩):=
 mA_ (ι:=sItemX) (fun i j h=>by obtain ⟨i⟩:=i; obtain ⟨i2⟩:=j; simp [and_assoc,qB_,qI_,qO_,qC_,qE_,qK_,qR_,qV_,qP_,qOc_] at h; obtain rfl:=h; rfl) ⟨i⟩
theorem sItemS_at (i:Int):sItemS [.int .i64 i] []=some (⟨.bool (itemB i),[],[]⟩):=sItemS_atG i
theorem sItem_ok:HSound Tryz.prog 117 sItemS:=by
 refine sE_ (fn:=Tryz.f117) rfl rfl (by kernel_rfl) fun args bx hr hS=>?_
 obtain ⟨⟨i⟩,rfl,rfl,rfl⟩:=mO_ hS
 clear hS
 refine ⟨_,(eV_ (g:=70) (by kernel_rfl) numIn_ok (eN_ _)),by simp [Tryz.f117],by simp [go_sem],fun w Mx pin=>?_⟩
 simp only [hB_at,lab_nil,lab_cons,hOf_nil,hOf_cons]
 refine aQ_ ?_
 iterate 1
  refine oC_ fun J hJ=>?_
  simp [go_sem]
  refine hJ _ _ _ ?_
  clear hJ J
 refine oN_ ?_
 refine aQ_ ?_
 iterate 3
  refine oC_ fun J hJ=>?_
  simp [go_sem,numInS_at]
  refine hJ _ _ _ ?_
  clear hJ J
 refine oN_ ?_
 refine aE_ ?_
 refine fQ_ [] ?_
 simp [go_sem,Tryz.f117,itemB]
structure pBuyerX where
 i:Int
noncomputable def pBuyerS:HSpec:=mkH (ι:=pBuyerX) (fun ⟨i⟩=>([.int .i64 i],[])) fun ⟨i⟩=>⟨.bool (itemB i),[],[]⟩
theorem pBuyerS_atG (i:Int):pBuyerS [.int .i64 i] []=some (⟨.bool (itemB i),[],[]⟩):=
 mA_ (ι:=pBuyerX) (fun i j h=>by obtain ⟨i⟩:=i; obtain ⟨i2⟩:=j; simp [and_assoc,qB_,qI_,qO_,qC_,qE_,qK_,qR_,qV_,qP_,qOc_] at h; obtain rfl:=h; rfl) ⟨i⟩
theorem pBuyerS_at (i:Int):pBuyerS [.int .i64 i] []=some (⟨.bool (itemB i),[],[]⟩):=pBuyerS_atG i
theorem pBuyer_ok:HSound Tryz.prog 116 pBuyerS:=by
 refine sE_ (fn:=Tryz.f116) rfl rfl (by kernel_rfl) fun args bx hr hS=>?_
 obtain ⟨⟨i⟩,rfl,rfl,rfl⟩:=mO_ hS
 clear hS
 refine ⟨_,(eV_ (g:=70) (by kernel_rfl) numIn_ok (eN_ _)),by simp [Tryz.f116],by simp [go_sem],fun w Mx pin=>?_⟩
 simp only [hB_at,lab_nil,lab_cons,hOf_nil,hOf_cons]
 refine aQ_ ?_
 iterate 1
  refine oC_ fun J hJ=>?_
  simp [go_sem]
  refine hJ _ _ _ ?_
  clear hJ J
 refine oN_ ?_
 refine aQ_ ?_
 iterate 3
  refine oC_ fun J hJ=>?_
  simp [go_sem,numInS_at]
  refine hJ _ _ _ ?_
  clear hJ J
 refine oN_ ?_
 refine aE_ ?_
 refine fQ_ [] ?_
 simp [go_sem,Tryz.f116,itemB]
structure sFineX where
 i:Int
 n:Int
noncomputable def sFineS:HSpec:=mkH (ι:=sFineX) (fun ⟨i,n⟩=>([.int .i64 i,.int .i64 n],[])) fun ⟨i,n⟩=>⟨.bool (fineB i n),[],[]⟩
theorem sFineS_atG (i:Int) (n:Int):sFineS [.int .i64 i,.int .i64 n] []=some (⟨.bool (fineB i n),[],[]⟩):=
 mA_ (ι:=sFineX) (fun i j h=>by obtain ⟨i,n⟩:=i; obtain ⟨i2,n2⟩:=j; simp [and_assoc,qB_,qI_,qO_,qC_,qE_,qK_,qR_,qV_,qP_,qOc_] at h; obtain ⟨rfl,rfl⟩:=h; rfl) ⟨i,n⟩
theorem sFineS_at (i:Int) (n:Int):sFineS [.int .i64 i,.int .i64 n] []=some (⟨.bool (fineB i n),[],[]⟩):=sFineS_atG i n
theorem sFine_ok:HSound Tryz.prog 113 sFineS:=by
 refine sE_ (fn:=Tryz.f113) rfl rfl (by kernel_rfl) fun args bx hr hS=>?_
 obtain ⟨⟨i,n⟩,rfl,rfl,rfl⟩:=mO_ hS
 clear hS
 refine ⟨_,(eV_ (g:=117) (by kernel_rfl) sItem_ok (eV_ (g:=70) (by kernel_rfl) numIn_ok (eN_ _))),by simp [Tryz.f113],by simp [go_sem],fun w Mx pin=>?_⟩
 simp only [hB_at,lab_nil,lab_cons,hOf_nil,hOf_cons]
 refine aQ_ ?_
 iterate 1
  refine oC_ fun J hJ=>?_
  simp [go_sem]
  refine hJ _ _ _ ?_
  clear hJ J
 refine oN_ ?_
 refine aS_ fun K2 hK2=>?_
 cases h1:itemB i
 all_goals
  refine aR_ ?_
  iterate 7
   refine oC_ fun J hJ=>?_
   simp [go_sem,sItemS_at i,h1,numInS_at n 0 1099511627776]
   refine hJ _ _ _ ?_
   clear hJ J
  refine oN_ ?_
  refine hK2 _ ?_
  clear hK2
  refine aE_ ?_
  refine fQ_ [] ?_
  simp [go_sem,Tryz.f113,fineB,h1]
structure pFineX where
 i:Int
 n:Int
noncomputable def pFineS:HSpec:=mkH (ι:=pFineX) (fun ⟨i,n⟩=>([.int .i64 i,.int .i64 n],[])) fun ⟨i,n⟩=>⟨.bool (fineB i n),[],[]⟩
theorem pFineS_atG (i:Int) (n:Int):pFineS [.int .i64 i,.int .i64 n] []=some (⟨.bool (fineB i n),[],[]⟩):=
 mA_ (ι:=pFineX) (fun i j h=>by obtain ⟨i,n⟩:=i; obtain ⟨i2,n2⟩:=j; simp [and_assoc,qB_,qI_,qO_,qC_,qE_,qK_,qR_,qV_,qP_,qOc_] at h; obtain ⟨rfl,rfl⟩:=h; rfl) ⟨i,n⟩
theorem pFineS_at (i:Int) (n:Int):pFineS [.int .i64 i,.int .i64 n] []=some (⟨.bool (fineB i n),[],[]⟩):=pFineS_atG i n
theorem pFine_ok:HSound Tryz.prog 115 pFineS:=by
 refine sE_ (fn:=Tryz.f115) rfl rfl (by kernel_rfl) fun args bx hr hS=>?_
 obtain ⟨⟨i,n⟩,rfl,rfl,rfl⟩:=mO_ hS
 clear hS
 refine ⟨_,(eV_ (g:=116) (by kernel_rfl) pBuyer_ok (eV_ (g:=70) (by kernel_rfl) numIn_ok (eN_ _))),by simp [Tryz.f115],by simp [go_sem],fun w Mx pin=>?_⟩
 simp only [hB_at,lab_nil,lab_cons,hOf_nil,hOf_cons]
 refine aQ_ ?_
 iterate 1
  refine oC_ fun J hJ=>?_
  simp [go_sem]
  refine hJ _ _ _ ?_
  clear hJ J
 refine oN_ ?_
 refine aS_ fun K2 hK2=>?_
 cases h1:itemB i
 all_goals
  refine aR_ ?_
  iterate 7
   refine oC_ fun J hJ=>?_
   simp [go_sem,pBuyerS_at i,h1,numInS_at n 0 1099511627776]
   refine hJ _ _ _ ?_
   clear hJ J
  refine oN_ ?_
  refine hK2 _ ?_
  clear hK2
  refine aE_ ?_
  refine fQ_ [] ?_
  simp [go_sem,Tryz.f115,fineB,h1]
theorem mulN_ok_aux (a b:Int) (w:World) (h:0<=a/\a<=1099511627776/\0<=b/\b<=1073741824):Calls Tryz.prog 129 #[.int .i64 a,.int .i64 b] w fun e w'=>(∃ v,e=.returned v/\v=(if a * b<=9223372036854775807 then .tuple #[.int .i64 (a * b),.bool true] else .tuple #[.int .i64 0,.bool false]))/\w=w':=by
 have h0:0<=a * b:=Int.mul_nonneg h.1 h.2.2.1
 by_cases hp:a * b<=9223372036854775807
 ·
  refine (Mul_yes a b w ⟨by omega,by omega⟩ ⟨by omega,by omega⟩ ⟨by omega,hp⟩).mono ?_
  rintro e w' ⟨rfl,rfl⟩
  exact ⟨⟨_,rfl,by rw [if_pos hp]⟩,rfl⟩
 ·
  refine (Mul_no a b w ⟨by omega,by omega⟩ ⟨by omega,by omega⟩ (fun hh=>hp hh.2)).mono ?_
  rintro e w' ⟨rfl,rfl⟩
  exact ⟨⟨_,rfl,by rw [if_neg hp]⟩,rfl⟩
structure mulNX where
 a:Int
 b:Int
 hL:0<=a/\a<=1099511627776/\0<=b/\b<=1073741824
noncomputable def mulNS:HSpec:=mkH (ι:=mulNX) (fun ⟨a,b,hL⟩=>([.int .i64 a,.int .i64 b],[])) fun ⟨a,b,hL⟩=>mulH a b
theorem mulNS_atG (a:Int) (b:Int) (hL:0<=a/\a<=1099511627776/\0<=b/\b<=1073741824):mulNS [.int .i64 a,.int .i64 b] []=some (mulH a b):=
 mA_ (ι:=mulNX) (fun i j h=>by obtain ⟨a,b,hL⟩:=i; obtain ⟨a2,b2,hL2⟩:=j; simp [and_assoc,qB_,qI_,qO_,qC_,qE_,qK_,qR_,qV_,qP_,qOc_] at h; obtain ⟨rfl,rfl⟩:=h; rfl) ⟨a,b,hL⟩
theorem mulNS_at (a:Int) (b:Int) (hL:0<=a/\a<=1099511627776/\0<=b/\b<=1073741824):mulNS [.int .i64 a,.int .i64 b] []=some (mulH a b):=mulNS_atG a b hL
theorem mulN_ok:HSound Tryz.prog 129 mulNS:=by
 intro args bx hr hS
 obtain ⟨⟨a,b,hL⟩,h1,h2,h3⟩:=mO_ hS
 simp only at h1 h2 h3
 subst h1
 subst h2
 have hup:(mulH a b).up=[]:=by unfold mulH; split <;> rfl
 rw [h3]
 refine ⟨by rw [hup]; trivial,fun w Mx pin vals μ hA _=>?_⟩
 have hsz:=hA.sz
 have h0:=(hA.rep 0 _ rfl).int_inv
 have h1:=(hA.rep 1 _ rfl).int_inv
 have hv:vals=#[.int .i64 a,.int .i64 b]:=by
  apply Array.ext
  · simpa using hsz
  ·
   intro i hi hj
   simp only [List.size_toArray,List.length_cons,List.length_nil] at hj
   match i,hj with
   | 0,_=>simpa [Array.getD_eq_getD_getElem?,hi] using h0
   | 1,_=>simpa [Array.getD_eq_getD_getElem?,hi] using h1
 subst hv
 refine (mulN_ok_aux a b w hL).mono ?_
 rintro e w' ⟨⟨v,rfl,rfl⟩,rfl⟩
 by_cases hp:a * b<=9223372036854775807
 ·
  rw [mulH,if_pos hp,if_pos hp]
  refine ⟨μ,hA.mem,.inr ⟨by simp,_,rfl,?_⟩⟩
  exact .tup _ _ _ (fun i=>if i=0 then .int .i64 (a * b) else .bool true) rfl (fun i hi=>by match i,hi with | 0,_=>rfl | 1,_=>rfl) (fun i c hc=>by
   match i with
   | 0=>simp at hc; subst hc; exact .int _ _ _
   | 1=>simp at hc; subst hc; exact .bool _ _
   | n + 2=>simp at hc)
 ·
  rw [mulH,if_neg hp,if_neg hp]
  refine ⟨μ,hA.mem,.inr ⟨by simp,_,rfl,?_⟩⟩
  exact .tup _ _ _ (fun i=>if i=0 then .int .i64 0 else .bool false) rfl (fun i hi=>by match i,hi with | 0,_=>rfl | 1,_=>rfl) (fun i c hc=>by
   match i with
   | 0=>simp at hc; subst hc; exact .int _ _ _
   | 1=>simp at hc; subst hc; exact .bool _ _
   | n + 2=>simp at hc)
structure sAddX where
 b:Bk
 os:List Ord
 os':AV
 i:Int
 n:Int
 h_os:SlA 7 cOrd os os'
 hL:FairB b
noncomputable def sAddS:HSpec:=mkH (ι:=sAddX) (fun ⟨b,os,os',i,n,h_os,hL⟩=>([.agg (cBk b os'),.int .i64 i,.int .i64 n],[])) fun ⟨b,os,os',i,n,h_os,hL⟩=>bkH os (addB' b i n)
theorem sAddS_atG (b:Bk) (os:List Ord) (os':AV) (i:Int) (n:Int) (h_os:SlA 7 cOrd os os') (hL:FairB b):sAddS [.agg (cBk b os'),.int .i64 i,.int .i64 n] []=some (bkH os (addB' b i n)):=
 mA_ (ι:=sAddX) (fun i j h=>by obtain ⟨b,os,os',i,n,h_os,hL⟩:=i; obtain ⟨b2,os2,os'2,i2,n2,h_os2,hL2⟩:=j; simp [and_assoc,qB_,qI_,qO_,qC_,qE_,qK_,qR_,qV_,qP_,qOc_] at h; obtain ⟨rfl,rfl,rfl,rfl⟩:=h; obtain rfl:=SlA.inj (fun x y h=>cOrd_inj h) h_os h_os2; rfl) ⟨b,os,os',i,n,h_os,hL⟩
theorem sAddS_at (b:Bk) (os:List Ord) (i:Int) (n:Int) (hL:FairB b):sAddS [.agg (cBk b (.sl 7 (rows cOrd os))),.int .i64 i,.int .i64 n] []=some (bkH os (addB' b i n)):=sAddS_atG b os _ i n .sl hL
theorem sAdd_ok:HSound Tryz.prog 101 sAddS:=by
 refine sE_ (fn:=Tryz.f101) rfl rfl (by kernel_rfl) fun args bx hr hS=>?_
 obtain ⟨⟨b,os,os',i,n,h_os,hL⟩,rfl,rfl,rfl⟩:=mO_ hS
 clear hS
 refine ⟨_,(eV_ (g:=113) (by kernel_rfl) sFine_ok (eV_ (g:=114) (by kernel_rfl) numAdd_ok (eN_ _))),by simp [Tryz.f101],by simp [bkH_goOn,go_sem],fun w Mx pin=>?_⟩
 simp only [hB_at,lab_nil,lab_cons,hOf_nil,hOf_cons]
 refine aW_ (s':=⟨ofL [(0,.agg (cBk b (.sl 7 (rows cOrd os)))),(1,.int .i64 i),(2,.int .i64 n)],hOf []⟩) ?_ ?_
 · cases h_os <;> exact wO_ [] (by simp [go_sem]) (by simp [go_sem]) (by simp [go_sem])
 clear h_os
 refine aQ_ ?_
 iterate 3
  refine oC_ fun J hJ=>?_
  simp [go_sem]
  refine hJ _ _ _ ?_
  clear hJ J
 refine oN_ ?_
 refine aS_ fun K2 hK2=>?_
 refine aS_ fun K3 hK3=>?_
 cases hf:fineB i n
 ·
  have hr:addB' b i n=.error 4:=by unfold addB'; rw [if_neg (by simp [hf])]
  refine aR_ ?_
  iterate 4
   refine oC_ fun J hJ=>?_
   simp [go_sem,sFineS_at i n,hf]
   refine hJ _ _ _ ?_
   clear hJ J
  refine oN_ ?_
  refine hK3 _ ?_
  clear hK3
  refine aT_ rfl ?_
  refine aQ_ ?_
  iterate 3
   refine oC_ fun J hJ=>?_
   simp [go_sem]
   refine hJ _ _ _ ?_
   clear hJ J
  refine oN_ ?_
  refine aE_ ?_
  rw [hr]
  refine fQ_ [] ?_
  simp [go_sem,Tryz.f101,bkH]
 ·
  obtain ⟨h0,h7,h8,h5,hn0,hn1⟩:=fineB_rng hf
  obtain ⟨s0,s1,p0,p1,u0,u1⟩:=hL i.toNat h5
  refine aR_ ?_
  iterate 4
   refine oC_ fun J hJ=>?_
   simp [go_sem,sFineS_at i n,hf]
   refine hJ _ _ _ ?_
   clear hJ J
  refine oN_ ?_
  refine hK3 _ ?_
  clear hK3
  refine aF_ rfl ?_
  refine aK_ ?_
  refine hK2 _ ?_
  clear hK2
  refine aQ_ ?_
  iterate 11
   refine oC_ fun J hJ=>?_
   simp [go_sem,h0,h8,h5,numAddS_at (b.st.at i.toNat) n (by omega)]
   refine hJ _ _ _ ?_
   clear hJ J
  refine oN_ ?_
  refine aS_ fun K7 hK7=>?_
  refine aS_ fun K8 hK8=>?_
  by_cases hle:b.st.at i.toNat + n<=1099511627776
  ·
   have hgt:¬ 1099511627776 < b.st.at i.toNat + n:=by omega
   have hr:addB' b i n=.ok { b with st:=b.st.put i.toNat (b.st.at i.toNat + n) }:=by unfold addB'; rw [if_pos hf,if_pos hle]
   refine aR_ ?_
   iterate 6
    refine oC_ fun J hJ=>?_
    simp [go_sem,hgt]
    refine hJ _ _ _ ?_
    clear hJ J
   refine oN_ ?_
   refine hK8 _ ?_
   clear hK8
   refine aF_ rfl ?_
   refine aK_ ?_
   refine hK7 _ ?_
   clear hK7
   refine aQ_ ?_
   iterate 5
    refine oC_ fun J hJ=>?_
    simp [go_sem,h0,h8,h5,show i<=24 by omega,show 8 + i.toNat<=24 by omega,show 16 + i.toNat<=24 by omega]
    refine hJ _ _ _ ?_
    clear hJ J
   refine oN_ ?_
   refine aQ_ ?_
   iterate 3
    refine oC_ fun J hJ=>?_
    simp [go_sem]
    refine hJ _ _ _ ?_
    clear hJ J
   refine oN_ ?_
   refine aE_ ?_
   rw [hr]
   refine fQ_ [] ?_
   simp [go_sem,Tryz.f101,bkH]
  ·
   have hgt:1099511627776 < b.st.at i.toNat + n:=by omega
   have hr:addB' b i n=.error 7:=by unfold addB'; rw [if_pos hf,if_neg hle]
   refine aR_ ?_
   iterate 6
    refine oC_ fun J hJ=>?_
    simp [go_sem,hgt]
    refine hJ _ _ _ ?_
    clear hJ J
   refine oN_ ?_
   refine hK8 _ ?_
   clear hK8
   refine aT_ rfl ?_
   refine aQ_ ?_
   iterate 3
    refine oC_ fun J hJ=>?_
    simp [go_sem]
    refine hJ _ _ _ ?_
    clear hJ J
   refine oN_ ?_
   refine aE_ ?_
   rw [hr]
   refine fQ_ [] ?_
   simp [go_sem,Tryz.f101,bkH]
structure pGiveX where
 b:Bk
 os:List Ord
 os':AV
 i:Int
 n:Int
 h_os:SlA 7 cOrd os os'
 hL:FairB b
noncomputable def pGiveS:HSpec:=mkH (ι:=pGiveX) (fun ⟨b,os,os',i,n,h_os,hL⟩=>([.agg (cBk b os'),.int .i64 i,.int .i64 n],[])) fun ⟨b,os,os',i,n,h_os,hL⟩=>bkH os (giveB b i n)
theorem pGiveS_atG (b:Bk) (os:List Ord) (os':AV) (i:Int) (n:Int) (h_os:SlA 7 cOrd os os') (hL:FairB b):pGiveS [.agg (cBk b os'),.int .i64 i,.int .i64 n] []=some (bkH os (giveB b i n)):=
 mA_ (ι:=pGiveX) (fun i j h=>by obtain ⟨b,os,os',i,n,h_os,hL⟩:=i; obtain ⟨b2,os2,os'2,i2,n2,h_os2,hL2⟩:=j; simp [and_assoc,qB_,qI_,qO_,qC_,qE_,qK_,qR_,qV_,qP_,qOc_] at h; obtain ⟨rfl,rfl,rfl,rfl⟩:=h; obtain rfl:=SlA.inj (fun x y h=>cOrd_inj h) h_os h_os2; rfl) ⟨b,os,os',i,n,h_os,hL⟩
theorem pGiveS_at (b:Bk) (os:List Ord) (i:Int) (n:Int) (hL:FairB b):pGiveS [.agg (cBk b (.sl 7 (rows cOrd os))),.int .i64 i,.int .i64 n] []=some (bkH os (giveB b i n)):=pGiveS_atG b os _ i n .sl hL
theorem pGive_ok:HSound Tryz.prog 102 pGiveS:=by
 refine sE_ (fn:=Tryz.f102) rfl rfl (by kernel_rfl) fun args bx hr hS=>?_
 obtain ⟨⟨b,os,os',i,n,h_os,hL⟩,rfl,rfl,rfl⟩:=mO_ hS
 clear hS
 refine ⟨_,(eV_ (g:=115) (by kernel_rfl) pFine_ok (eV_ (g:=114) (by kernel_rfl) numAdd_ok (eN_ _))),by simp [Tryz.f102],by simp [bkH_goOn,go_sem],fun w Mx pin=>?_⟩
 simp only [hB_at,lab_nil,lab_cons,hOf_nil,hOf_cons]
 refine aW_ (s':=⟨ofL [(0,.agg (cBk b (.sl 7 (rows cOrd os)))),(1,.int .i64 i),(2,.int .i64 n)],hOf []⟩) ?_ ?_
 · cases h_os <;> exact wO_ [] (by simp [go_sem]) (by simp [go_sem]) (by simp [go_sem])
 clear h_os
 refine aQ_ ?_
 iterate 3
  refine oC_ fun J hJ=>?_
  simp [go_sem]
  refine hJ _ _ _ ?_
  clear hJ J
 refine oN_ ?_
 refine aS_ fun K2 hK2=>?_
 refine aS_ fun K3 hK3=>?_
 cases hf:fineB i n
 ·
  have hr:giveB b i n=.error 4:=by unfold giveB; rw [if_neg (by simp [hf])]
  refine aR_ ?_
  iterate 4
   refine oC_ fun J hJ=>?_
   simp [go_sem,pFineS_at i n,hf]
   refine hJ _ _ _ ?_
   clear hJ J
  refine oN_ ?_
  refine hK3 _ ?_
  clear hK3
  refine aT_ rfl ?_
  refine aQ_ ?_
  iterate 3
   refine oC_ fun J hJ=>?_
   simp [go_sem]
   refine hJ _ _ _ ?_
   clear hJ J
  refine oN_ ?_
  refine aE_ ?_
  rw [hr]
  refine fQ_ [] ?_
  simp [go_sem,Tryz.f102,bkH]
 ·
  obtain ⟨h0,h7,h8,h5,hn0,hn1⟩:=fineB_rng hf
  obtain ⟨s0,s1,p0,p1,u0,u1⟩:=hL i.toNat h5
  refine aR_ ?_
  iterate 4
   refine oC_ fun J hJ=>?_
   simp [go_sem,pFineS_at i n,hf]
   refine hJ _ _ _ ?_
   clear hJ J
  refine oN_ ?_
  refine hK3 _ ?_
  clear hK3
  refine aF_ rfl ?_
  refine aK_ ?_
  refine hK2 _ ?_
  clear hK2
  refine aQ_ ?_
  iterate 11
   refine oC_ fun J hJ=>?_
   simp [go_sem,h0,h8,h5,numAddS_at (b.pu.at i.toNat) n (by omega)]
   refine hJ _ _ _ ?_
   clear hJ J
  refine oN_ ?_
  refine aS_ fun K7 hK7=>?_
  refine aS_ fun K8 hK8=>?_
  by_cases hle:b.pu.at i.toNat + n<=1099511627776
  ·
   have hgt:¬ 1099511627776 < b.pu.at i.toNat + n:=by omega
   have hr:giveB b i n=.ok { b with pu:=b.pu.put i.toNat (b.pu.at i.toNat + n) }:=by unfold giveB; rw [if_pos hf,if_pos hle]
   refine aR_ ?_
   iterate 6
    refine oC_ fun J hJ=>?_
    simp [go_sem,hgt]
    refine hJ _ _ _ ?_
    clear hJ J
   refine oN_ ?_
   refine hK8 _ ?_
   clear hK8
   refine aF_ rfl ?_
   refine aK_ ?_
   refine hK7 _ ?_
   clear hK7
   refine aQ_ ?_
   iterate 5
    refine oC_ fun J hJ=>?_
    simp [go_sem,h0,h8,h5,show i<=24 by omega,show 8 + i.toNat<=24 by omega,show 16 + i.toNat<=24 by omega]
    refine hJ _ _ _ ?_
    clear hJ J
   refine oN_ ?_
   refine aQ_ ?_
   iterate 3
    refine oC_ fun J hJ=>?_
    simp [go_sem]
    refine hJ _ _ _ ?_
    clear hJ J
   refine oN_ ?_
   refine aE_ ?_
   rw [hr]
   refine fQ_ [] ?_
   simp [go_sem,Tryz.f102,bkH]
  ·
   have hgt:1099511627776 < b.pu.at i.toNat + n:=by omega
   have hr:giveB b i n=.error 7:=by unfold giveB; rw [if_pos hf,if_neg hle]
   refine aR_ ?_
   iterate 6
    refine oC_ fun J hJ=>?_
    simp [go_sem,hgt]
    refine hJ _ _ _ ?_
    clear hJ J
   refine oN_ ?_
   refine hK8 _ ?_
   clear hK8
   refine aT_ rfl ?_
   refine aQ_ ?_
   iterate 3
    refine oC_ fun J hJ=>?_
    simp [go_sem]
    refine hJ _ _ _ ?_
    clear hJ J
   refine oN_ ?_
   refine aE_ ?_
   rw [hr]
   refine fQ_ [] ?_
   simp [go_sem,Tryz.f102,bkH]
structure sTakeX where
 b:Bk
 os:List Ord
 os':AV
 i:Int
 n:Int
 h_os:SlA 7 cOrd os os'
 hL:FairB b
noncomputable def sTakeS:HSpec:=mkH (ι:=sTakeX) (fun ⟨b,os,os',i,n,h_os,hL⟩=>([.agg (cBk b os'),.int .i64 i,.int .i64 n],[])) fun ⟨b,os,os',i,n,h_os,hL⟩=>bkH os (takeB b i n)
theorem sTakeS_atG (b:Bk) (os:List Ord) (os':AV) (i:Int) (n:Int) (h_os:SlA 7 cOrd os os') (hL:FairB b):sTakeS [.agg (cBk b os'),.int .i64 i,.int .i64 n] []=some (bkH os (takeB b i n)):=
 mA_ (ι:=sTakeX) (fun i j h=>by obtain ⟨b,os,os',i,n,h_os,hL⟩:=i; obtain ⟨b2,os2,os'2,i2,n2,h_os2,hL2⟩:=j; simp [and_assoc,qB_,qI_,qO_,qC_,qE_,qK_,qR_,qV_,qP_,qOc_] at h; obtain ⟨rfl,rfl,rfl,rfl⟩:=h; obtain rfl:=SlA.inj (fun x y h=>cOrd_inj h) h_os h_os2; rfl) ⟨b,os,os',i,n,h_os,hL⟩
theorem sTakeS_at (b:Bk) (os:List Ord) (i:Int) (n:Int) (hL:FairB b):sTakeS [.agg (cBk b (.sl 7 (rows cOrd os))),.int .i64 i,.int .i64 n] []=some (bkH os (takeB b i n)):=sTakeS_atG b os _ i n .sl hL
theorem sTake_ok:HSound Tryz.prog 120 sTakeS:=by
 refine sE_ (fn:=Tryz.f120) rfl rfl (by kernel_rfl) fun args bx hr hS=>?_
 obtain ⟨⟨b,os,os',i,n,h_os,hL⟩,rfl,rfl,rfl⟩:=mO_ hS
 clear hS
 refine ⟨_,(eV_ (g:=113) (by kernel_rfl) sFine_ok (eN_ _)),by simp [Tryz.f120],by simp [bkH_goOn,go_sem],fun w Mx pin=>?_⟩
 simp only [hB_at,lab_nil,lab_cons,hOf_nil,hOf_cons]
 refine aW_ (s':=⟨ofL [(0,.agg (cBk b (.sl 7 (rows cOrd os)))),(1,.int .i64 i),(2,.int .i64 n)],hOf []⟩) ?_ ?_
 · cases h_os <;> exact wO_ [] (by simp [go_sem]) (by simp [go_sem]) (by simp [go_sem])
 clear h_os
 refine aQ_ ?_
 iterate 3
  refine oC_ fun J hJ=>?_
  simp [go_sem]
  refine hJ _ _ _ ?_
  clear hJ J
 refine oN_ ?_
 refine aS_ fun K2 hK2=>?_
 refine aS_ fun K3 hK3=>?_
 cases hf:fineB i n
 ·
  have hr:takeB b i n=.error 4:=by unfold takeB; rw [if_neg (by simp [hf])]
  refine aR_ ?_
  iterate 4
   refine oC_ fun J hJ=>?_
   simp [go_sem,sFineS_at i n,hf]
   refine hJ _ _ _ ?_
   clear hJ J
  refine oN_ ?_
  refine hK3 _ ?_
  clear hK3
  refine aT_ rfl ?_
  refine aQ_ ?_
  iterate 3
   refine oC_ fun J hJ=>?_
   simp [go_sem]
   refine hJ _ _ _ ?_
   clear hJ J
  refine oN_ ?_
  refine aE_ ?_
  rw [hr]
  refine fQ_ [] ?_
  simp [go_sem,Tryz.f120,bkH]
 ·
  obtain ⟨h0,h7,h8,h5,hn0,hn1⟩:=fineB_rng hf
  obtain ⟨s0,s1,p0,p1,u0,u1⟩:=hL i.toNat h5
  refine aR_ ?_
  iterate 4
   refine oC_ fun J hJ=>?_
   simp [go_sem,sFineS_at i n,hf]
   refine hJ _ _ _ ?_
   clear hJ J
  refine oN_ ?_
  refine hK3 _ ?_
  clear hK3
  refine aF_ rfl ?_
  refine aK_ ?_
  refine hK2 _ ?_
  clear hK2
  refine aS_ fun K6 hK6=>?_
  refine aS_ fun K7 hK7=>?_
  by_cases hlt:b.st.at i.toNat < n
  ·
   have hr:takeB b i n=.error 11:=by unfold takeB; rw [if_pos hf,if_pos hlt]
   refine aR_ ?_
   iterate 6
    refine oC_ fun J hJ=>?_
    simp [go_sem,h0,h8,h5,hlt]
    refine hJ _ _ _ ?_
    clear hJ J
   refine oN_ ?_
   refine hK7 _ ?_
   clear hK7
   refine aT_ rfl ?_
   refine aQ_ ?_
   iterate 3
    refine oC_ fun J hJ=>?_
    simp [go_sem]
    refine hJ _ _ _ ?_
    clear hJ J
   refine oN_ ?_
   refine aE_ ?_
   rw [hr]
   refine fQ_ [] ?_
   simp [go_sem,Tryz.f120,bkH]
  ·
   have hr:takeB b i n=.ok { b with st:=b.st.put i.toNat (b.st.at i.toNat - n) }:=by unfold takeB; rw [if_pos hf,if_neg hlt]
   have hw:=wA_ (n:=b.st.at i.toNat - n) (by omega)
   refine aR_ ?_
   iterate 6
    refine oC_ fun J hJ=>?_
    simp [go_sem,h0,h8,h5,hlt]
    refine hJ _ _ _ ?_
    clear hJ J
   refine oN_ ?_
   refine hK7 _ ?_
   clear hK7
   refine aF_ rfl ?_
   refine aK_ ?_
   refine hK6 _ ?_
   clear hK6
   refine aQ_ ?_
   iterate 9
    refine oC_ fun J hJ=>?_
    simp [go_sem,h0,h8,h5,hw,show i<=24 by omega,show 8 + i.toNat<=24 by omega,show 16 + i.toNat<=24 by omega]
    refine hJ _ _ _ ?_
    clear hJ J
   refine oN_ ?_
   refine aQ_ ?_
   iterate 3
    refine oC_ fun J hJ=>?_
    simp [go_sem]
    refine hJ _ _ _ ?_
    clear hJ J
   refine oN_ ?_
   refine aE_ ?_
   rw [hr]
   refine fQ_ [] ?_
   simp [go_sem,Tryz.f120,bkH]
structure pPayX where
 b:Bk
 os:List Ord
 os':AV
 i:Int
 n:Int
 h_os:SlA 7 cOrd os os'
 hL:FairB b
noncomputable def pPayS:HSpec:=mkH (ι:=pPayX) (fun ⟨b,os,os',i,n,h_os,hL⟩=>([.agg (cBk b os'),.int .i64 i,.int .i64 n],[])) fun ⟨b,os,os',i,n,h_os,hL⟩=>bkH os (payB b i n)
theorem pPayS_atG (b:Bk) (os:List Ord) (os':AV) (i:Int) (n:Int) (h_os:SlA 7 cOrd os os') (hL:FairB b):pPayS [.agg (cBk b os'),.int .i64 i,.int .i64 n] []=some (bkH os (payB b i n)):=
 mA_ (ι:=pPayX) (fun i j h=>by obtain ⟨b,os,os',i,n,h_os,hL⟩:=i; obtain ⟨b2,os2,os'2,i2,n2,h_os2,hL2⟩:=j; simp [and_assoc,qB_,qI_,qO_,qC_,qE_,qK_,qR_,qV_,qP_,qOc_] at h; obtain ⟨rfl,rfl,rfl,rfl⟩:=h; obtain rfl:=SlA.inj (fun x y h=>cOrd_inj h) h_os h_os2; rfl) ⟨b,os,os',i,n,h_os,hL⟩
theorem pPayS_at (b:Bk) (os:List Ord) (i:Int) (n:Int) (hL:FairB b):pPayS [.agg (cBk b (.sl 7 (rows cOrd os))),.int .i64 i,.int .i64 n] []=some (bkH os (payB b i n)):=pPayS_atG b os _ i n .sl hL
theorem pPay_ok:HSound Tryz.prog 124 pPayS:=by
 refine sE_ (fn:=Tryz.f124) rfl rfl (by kernel_rfl) fun args bx hr hS=>?_
 obtain ⟨⟨b,os,os',i,n,h_os,hL⟩,rfl,rfl,rfl⟩:=mO_ hS
 clear hS
 refine ⟨_,(eV_ (g:=115) (by kernel_rfl) pFine_ok (eN_ _)),by simp [Tryz.f124],by simp [bkH_goOn,go_sem],fun w Mx pin=>?_⟩
 simp only [hB_at,lab_nil,lab_cons,hOf_nil,hOf_cons]
 refine aW_ (s':=⟨ofL [(0,.agg (cBk b (.sl 7 (rows cOrd os)))),(1,.int .i64 i),(2,.int .i64 n)],hOf []⟩) ?_ ?_
 · cases h_os <;> exact wO_ [] (by simp [go_sem]) (by simp [go_sem]) (by simp [go_sem])
 clear h_os
 refine aQ_ ?_
 iterate 3
  refine oC_ fun J hJ=>?_
  simp [go_sem]
  refine hJ _ _ _ ?_
  clear hJ J
 refine oN_ ?_
 refine aS_ fun K2 hK2=>?_
 refine aS_ fun K3 hK3=>?_
 cases hf:fineB i n
 ·
  have hr:payB b i n=.error 4:=by unfold payB; rw [if_neg (by simp [hf])]
  refine aR_ ?_
  iterate 4
   refine oC_ fun J hJ=>?_
   simp [go_sem,pFineS_at i n,hf]
   refine hJ _ _ _ ?_
   clear hJ J
  refine oN_ ?_
  refine hK3 _ ?_
  clear hK3
  refine aT_ rfl ?_
  refine aQ_ ?_
  iterate 3
   refine oC_ fun J hJ=>?_
   simp [go_sem]
   refine hJ _ _ _ ?_
   clear hJ J
  refine oN_ ?_
  refine aE_ ?_
  rw [hr]
  refine fQ_ [] ?_
  simp [go_sem,Tryz.f124,bkH]
 ·
  obtain ⟨h0,h7,h8,h5,hn0,hn1⟩:=fineB_rng hf
  obtain ⟨s0,s1,p0,p1,u0,u1⟩:=hL i.toNat h5
  refine aR_ ?_
  iterate 4
   refine oC_ fun J hJ=>?_
   simp [go_sem,pFineS_at i n,hf]
   refine hJ _ _ _ ?_
   clear hJ J
  refine oN_ ?_
  refine hK3 _ ?_
  clear hK3
  refine aF_ rfl ?_
  refine aK_ ?_
  refine hK2 _ ?_
  clear hK2
  refine aS_ fun K6 hK6=>?_
  refine aS_ fun K7 hK7=>?_
  by_cases hlt:b.pu.at i.toNat < n
  ·
   have hr:payB b i n=.error 11:=by unfold payB; rw [if_pos hf,if_pos hlt]
   refine aR_ ?_
   iterate 6
    refine oC_ fun J hJ=>?_
    simp [go_sem,h0,h8,h5,hlt]
    refine hJ _ _ _ ?_
    clear hJ J
   refine oN_ ?_
   refine hK7 _ ?_
   clear hK7
   refine aT_ rfl ?_
   refine aQ_ ?_
   iterate 3
    refine oC_ fun J hJ=>?_
    simp [go_sem]
    refine hJ _ _ _ ?_
    clear hJ J
   refine oN_ ?_
   refine aE_ ?_
   rw [hr]
   refine fQ_ [] ?_
   simp [go_sem,Tryz.f124,bkH]
  ·
   have hr:payB b i n=.ok { b with pu:=b.pu.put i.toNat (b.pu.at i.toNat - n) }:=by unfold payB; rw [if_pos hf,if_neg hlt]
   have hw:=wA_ (n:=b.pu.at i.toNat - n) (by omega)
   refine aR_ ?_
   iterate 6
    refine oC_ fun J hJ=>?_
    simp [go_sem,h0,h8,h5,hlt]
    refine hJ _ _ _ ?_
    clear hJ J
   refine oN_ ?_
   refine hK7 _ ?_
   clear hK7
   refine aF_ rfl ?_
   refine aK_ ?_
   refine hK6 _ ?_
   clear hK6
   refine aQ_ ?_
   iterate 9
    refine oC_ fun J hJ=>?_
    simp [go_sem,h0,h8,h5,hw,show i<=24 by omega,show 8 + i.toNat<=24 by omega,show 16 + i.toNat<=24 by omega]
    refine hJ _ _ _ ?_
    clear hJ J
   refine oN_ ?_
   refine aQ_ ?_
   iterate 3
    refine oC_ fun J hJ=>?_
    simp [go_sem]
    refine hJ _ _ _ ?_
    clear hJ J
   refine oN_ ?_
   refine aE_ ?_
   rw [hr]
   refine fQ_ [] ?_
   simp [go_sem,Tryz.f124,bkH]
structure sHasX where
 b:Bk
 os:List Ord
 os':AV
 i:Int
 n:Int
 h_os:SlA 7 cOrd os os'
 hL:FairB b
noncomputable def sHasS:HSpec:=mkH (ι:=sHasX) (fun ⟨b,os,os',i,n,h_os,hL⟩=>([.agg (cBk b os'),.int .i64 i,.int .i64 n],[])) fun ⟨b,os,os',i,n,h_os,hL⟩=>⟨.bool (hasB b i n),[],[]⟩
theorem sHasS_atG (b:Bk) (os:List Ord) (os':AV) (i:Int) (n:Int) (h_os:SlA 7 cOrd os os') (hL:FairB b):sHasS [.agg (cBk b os'),.int .i64 i,.int .i64 n] []=some (⟨.bool (hasB b i n),[],[]⟩):=
 mA_ (ι:=sHasX) (fun i j h=>by obtain ⟨b,os,os',i,n,h_os,hL⟩:=i; obtain ⟨b2,os2,os'2,i2,n2,h_os2,hL2⟩:=j; simp [and_assoc,qB_,qI_,qO_,qC_,qE_,qK_,qR_,qV_,qP_,qOc_] at h; obtain ⟨rfl,rfl,rfl,rfl⟩:=h; obtain rfl:=SlA.inj (fun x y h=>cOrd_inj h) h_os h_os2; rfl) ⟨b,os,os',i,n,h_os,hL⟩
theorem sHasS_at (b:Bk) (os:List Ord) (i:Int) (n:Int) (hL:FairB b):sHasS [.agg (cBk b (.sl 7 (rows cOrd os))),.int .i64 i,.int .i64 n] []=some (⟨.bool (hasB b i n),[],[]⟩):=sHasS_atG b os _ i n .sl hL
theorem sHas_ok:HSound Tryz.prog 118 sHasS:=by
 refine sE_ (fn:=Tryz.f118) rfl rfl (by kernel_rfl) fun args bx hr hS=>?_
 obtain ⟨⟨b,os,os',i,n,h_os,hL⟩,rfl,rfl,rfl⟩:=mO_ hS
 clear hS
 refine ⟨_,(eV_ (g:=120) (by kernel_rfl) sTake_ok (eN_ _)),by simp [Tryz.f118],by simp [go_sem],fun w Mx pin=>?_⟩
 simp only [hB_at,lab_nil,lab_cons,hOf_nil,hOf_cons]
 refine aW_ (s':=⟨ofL [(0,.agg (cBk b (.sl 7 (rows cOrd os)))),(1,.int .i64 i),(2,.int .i64 n)],hOf []⟩) ?_ ?_
 · cases h_os <;> exact wO_ [] (by simp [go_sem]) (by simp [go_sem]) (by simp [go_sem])
 clear h_os
 refine aQ_ ?_
 iterate 2
  refine oC_ fun J hJ=>?_
  simp [go_sem]
  refine hJ _ _ _ ?_
  clear hJ J
 refine oN_ ?_
 refine aS_ fun K2 hK2=>?_
 rcases hr:takeB b i n with e | d
 ·
  have hz:(e == 0)=false:=by
   have:e=11\/e=4:=by
    unfold takeB at hr
    split at hr
    · split at hr <;> cases hr; exact .inl rfl
    · cases hr; exact .inr rfl
   rcases this with rfl | rfl <;> rfl
  refine aR_ ?_
  iterate 10
   refine oC_ fun J hJ=>?_
   simp [go_sem,sTakeS_at b os i n hL,bkH,hr]
   refine hJ _ _ _ ?_
   clear hJ J
  refine oN_ ?_
  refine hK2 _ ?_
  clear hK2
  refine aQ_ ?_
  iterate 3
   refine oC_ fun J hJ=>?_
   simp [go_sem,hz]
   refine hJ _ _ _ ?_
   clear hJ J
  refine oN_ ?_
  refine aE_ ?_
  refine fQ_ [] ?_
  simp [go_sem,Tryz.f118,hasB,hr]
 ·
  refine aR_ ?_
  iterate 10
   refine oC_ fun J hJ=>?_
   simp [go_sem,sTakeS_at b os i n hL,bkH,hr]
   refine hJ _ _ _ ?_
   clear hJ J
  refine oN_ ?_
  refine hK2 _ ?_
  clear hK2
  refine aQ_ ?_
  iterate 3
   refine oC_ fun J hJ=>?_
   simp [go_sem]
   refine hJ _ _ _ ?_
   clear hJ J
  refine oN_ ?_
  refine aE_ ?_
  refine fQ_ [] ?_
  simp [go_sem,Tryz.f118,hasB,hr]
structure sPriceX where
 b:Bk
 os:List Ord
 os':AV
 i:Int
 n:Int
 h_os:SlA 7 cOrd os os'
noncomputable def sPriceS:HSpec:=mkH (ι:=sPriceX) (fun ⟨b,os,os',i,n,h_os⟩=>([.agg (cBk b os'),.int .i64 i,.int .i64 n],[])) fun ⟨b,os,os',i,n,h_os⟩=>bkH os (priceB b i n)
theorem sPriceS_atG (b:Bk) (os:List Ord) (os':AV) (i:Int) (n:Int) (h_os:SlA 7 cOrd os os'):sPriceS [.agg (cBk b os'),.int .i64 i,.int .i64 n] []=some (bkH os (priceB b i n)):=
 mA_ (ι:=sPriceX) (fun i j h=>by obtain ⟨b,os,os',i,n,h_os⟩:=i; obtain ⟨b2,os2,os'2,i2,n2,h_os2⟩:=j; simp [and_assoc,qB_,qI_,qO_,qC_,qE_,qK_,qR_,qV_,qP_,qOc_] at h; obtain ⟨rfl,rfl,rfl,rfl⟩:=h; obtain rfl:=SlA.inj (fun x y h=>cOrd_inj h) h_os h_os2; rfl) ⟨b,os,os',i,n,h_os⟩
theorem sPriceS_at (b:Bk) (os:List Ord) (i:Int) (n:Int):sPriceS [.agg (cBk b (.sl 7 (rows cOrd os))),.int .i64 i,.int .i64 n] []=some (bkH os (priceB b i n)):=sPriceS_atG b os _ i n .sl
theorem sPrice_ok:HSound Tryz.prog 110 sPriceS:=by
 refine sE_ (fn:=Tryz.f110) rfl rfl (by kernel_rfl) fun args bx hr hS=>?_
 obtain ⟨⟨b,os,os',i,n,h_os⟩,rfl,rfl,rfl⟩:=mO_ hS
 clear hS
 refine ⟨_,(eV_ (g:=117) (by kernel_rfl) sItem_ok (eV_ (g:=70) (by kernel_rfl) numIn_ok (eN_ _))),by simp [Tryz.f110],by simp [bkH_goOn,go_sem],fun w Mx pin=>?_⟩
 simp only [hB_at,lab_nil,lab_cons,hOf_nil,hOf_cons]
 refine aW_ (s':=⟨ofL [(0,.agg (cBk b (.sl 7 (rows cOrd os)))),(1,.int .i64 i),(2,.int .i64 n)],hOf []⟩) ?_ ?_
 · cases h_os <;> exact wO_ [] (by simp [go_sem]) (by simp [go_sem]) (by simp [go_sem])
 clear h_os
 refine aQ_ ?_
 iterate 3
  refine oC_ fun J hJ=>?_
  simp [go_sem]
  refine hJ _ _ _ ?_
  clear hJ J
 refine oN_ ?_
 refine aS_ fun K2 hK2=>?_
 refine aS_ fun K3 hK3=>?_
 cases hi:itemB i <;> cases hn:decide (0<=n/\n<=1073741824)
 ·
  have hr:priceB b i n=.error 4:=by unfold priceB; rw [if_neg (by simp [hi,hn])]
  refine aR_ ?_
  iterate 8
   refine oC_ fun J hJ=>?_
   simp [go_sem,sItemS_at i,hi,numInS_at n 0 1073741824,hn]
   refine hJ _ _ _ ?_
   clear hJ J
  refine oN_ ?_
  refine hK3 _ ?_
  clear hK3
  refine aT_ rfl ?_
  refine aQ_ ?_
  iterate 3
   refine oC_ fun J hJ=>?_
   simp [go_sem]
   refine hJ _ _ _ ?_
   clear hJ J
  refine oN_ ?_
  refine aE_ ?_
  rw [hr]
  refine fQ_ [] ?_
  simp [go_sem,Tryz.f110,bkH]
 ·
  have hr:priceB b i n=.error 4:=by unfold priceB; rw [if_neg (by simp [hi,hn])]
  refine aR_ ?_
  iterate 8
   refine oC_ fun J hJ=>?_
   simp [go_sem,sItemS_at i,hi,numInS_at n 0 1073741824,hn]
   refine hJ _ _ _ ?_
   clear hJ J
  refine oN_ ?_
  refine hK3 _ ?_
  clear hK3
  refine aT_ rfl ?_
  refine aQ_ ?_
  iterate 3
   refine oC_ fun J hJ=>?_
   simp [go_sem]
   refine hJ _ _ _ ?_
   clear hJ J
  refine oN_ ?_
  refine aE_ ?_
  rw [hr]
  refine fQ_ [] ?_
  simp [go_sem,Tryz.f110,bkH]
 ·
  have hr:priceB b i n=.error 4:=by unfold priceB; rw [if_neg (by simp [hi,hn])]
  refine aR_ ?_
  iterate 8
   refine oC_ fun J hJ=>?_
   simp [go_sem,sItemS_at i,hi,numInS_at n 0 1073741824,hn]
   refine hJ _ _ _ ?_
   clear hJ J
  refine oN_ ?_
  refine hK3 _ ?_
  clear hK3
  refine aT_ rfl ?_
  refine aQ_ ?_
  iterate 3
   refine oC_ fun J hJ=>?_
   simp [go_sem]
   refine hJ _ _ _ ?_
   clear hJ J
  refine oN_ ?_
  refine aE_ ?_
  rw [hr]
  refine fQ_ [] ?_
  simp [go_sem,Tryz.f110,bkH]
 ·
  obtain ⟨h0,h7,h8,h5⟩:=itemB_rng hi
  have hr:priceB b i n=.ok { b with pr:=b.pr.put i.toNat n }:=by unfold priceB; rw [if_pos (by simp [hi,hn])]
  refine aR_ ?_
  iterate 8
   refine oC_ fun J hJ=>?_
   simp [go_sem,sItemS_at i,hi,numInS_at n 0 1073741824,hn]
   refine hJ _ _ _ ?_
   clear hJ J
  refine oN_ ?_
  refine hK3 _ ?_
  clear hK3
  refine aF_ rfl ?_
  refine aK_ ?_
  refine hK2 _ ?_
  clear hK2
  refine aQ_ ?_
  iterate 5
   refine oC_ fun J hJ=>?_
   simp [go_sem,h0,h8,h5,show i<=24 by omega,show 8 + i.toNat<=24 by omega,show 16 + i.toNat<=24 by omega]
   refine hJ _ _ _ ?_
   clear hJ J
  refine oN_ ?_
  refine aQ_ ?_
  iterate 3
   refine oC_ fun J hJ=>?_
   simp [go_sem]
   refine hJ _ _ _ ?_
   clear hJ J
  refine oN_ ?_
  refine aE_ ?_
  rw [hr]
  refine fQ_ [] ?_
  simp [go_sem,Tryz.f110,bkH]
structure sCostX where
 b:Bk
 os:List Ord
 os':AV
 i:Int
 n:Int
 h_os:SlA 7 cOrd os os'
 hL:FairB b
noncomputable def sCostS:HSpec:=mkH (ι:=sCostX) (fun ⟨b,os,os',i,n,h_os,hL⟩=>([.agg (cBk b os'),.int .i64 i,.int .i64 n],[])) fun ⟨b,os,os',i,n,h_os,hL⟩=>costH (costB b i n)
theorem sCostS_atG (b:Bk) (os:List Ord) (os':AV) (i:Int) (n:Int) (h_os:SlA 7 cOrd os os') (hL:FairB b):sCostS [.agg (cBk b os'),.int .i64 i,.int .i64 n] []=some (costH (costB b i n)):=
 mA_ (ι:=sCostX) (fun i j h=>by obtain ⟨b,os,os',i,n,h_os,hL⟩:=i; obtain ⟨b2,os2,os'2,i2,n2,h_os2,hL2⟩:=j; simp [and_assoc,qB_,qI_,qO_,qC_,qE_,qK_,qR_,qV_,qP_,qOc_] at h; obtain ⟨rfl,rfl,rfl,rfl⟩:=h; obtain rfl:=SlA.inj (fun x y h=>cOrd_inj h) h_os h_os2; rfl) ⟨b,os,os',i,n,h_os,hL⟩
theorem sCostS_at (b:Bk) (os:List Ord) (i:Int) (n:Int) (hL:FairB b):sCostS [.agg (cBk b (.sl 7 (rows cOrd os))),.int .i64 i,.int .i64 n] []=some (costH (costB b i n)):=sCostS_atG b os _ i n .sl hL
theorem sCost_ok:HSound Tryz.prog 123 sCostS:=by
 refine sE_ (fn:=Tryz.f123) rfl rfl (by kernel_rfl) fun args bx hr hS=>?_
 obtain ⟨⟨b,os,os',i,n,h_os,hL⟩,rfl,rfl,rfl⟩:=mO_ hS
 clear hS
 refine ⟨_,(eV_ (g:=113) (by kernel_rfl) sFine_ok (eV_ (g:=129) (by kernel_rfl) mulN_ok (eN_ _))),by simp [Tryz.f123],by simp [costH_goOn,go_sem],fun w Mx pin=>?_⟩
 simp only [hB_at,lab_nil,lab_cons,hOf_nil,hOf_cons]
 refine aW_ (s':=⟨ofL [(0,.agg (cBk b (.sl 7 (rows cOrd os)))),(1,.int .i64 i),(2,.int .i64 n)],hOf []⟩) ?_ ?_
 · cases h_os <;> exact wO_ [] (by simp [go_sem]) (by simp [go_sem]) (by simp [go_sem])
 clear h_os
 refine aQ_ ?_
 iterate 3
  refine oC_ fun J hJ=>?_
  simp [go_sem]
  refine hJ _ _ _ ?_
  clear hJ J
 refine oN_ ?_
 refine aS_ fun K2 hK2=>?_
 refine aS_ fun K3 hK3=>?_
 cases hf:fineB i n
 ·
  have hr:costB b i n=.error 4:=by unfold costB; rw [if_neg (by simp [hf])]
  refine aR_ ?_
  iterate 4
   refine oC_ fun J hJ=>?_
   simp [go_sem,sFineS_at i n,hf]
   refine hJ _ _ _ ?_
   clear hJ J
  refine oN_ ?_
  refine hK3 _ ?_
  clear hK3
  refine aT_ rfl ?_
  refine aQ_ ?_
  iterate 2
   refine oC_ fun J hJ=>?_
   simp [go_sem]
   refine hJ _ _ _ ?_
   clear hJ J
  refine oN_ ?_
  refine aE_ ?_
  rw [hr]
  refine fQ_ [] ?_
  simp [go_sem,Tryz.f123,costH]
 ·
  obtain ⟨h0,h7,h8,h5,hn0,hn1⟩:=fineB_rng hf
  obtain ⟨s0,s1,p0,p1,u0,u1⟩:=hL i.toNat h5
  have hp:0<=n * b.pr.at i.toNat:=Int.mul_nonneg hn0 p0
  obtain ⟨P,hP⟩:∃ P,P=n * b.pr.at i.toNat:=⟨_,rfl⟩
  rw [<-hP] at hp
  refine aR_ ?_
  iterate 4
   refine oC_ fun J hJ=>?_
   simp [go_sem,sFineS_at i n,hf]
   refine hJ _ _ _ ?_
   clear hJ J
  refine oN_ ?_
  refine hK3 _ ?_
  clear hK3
  refine aF_ rfl ?_
  refine aK_ ?_
  refine hK2 _ ?_
  clear hK2
  refine aS_ fun K6 hK6=>?_
  rcases (show P<=1099511627776\/(¬ P<=1099511627776/\P<=9223372036854775807)\/(¬ P<=1099511627776/\¬ P<=9223372036854775807) by omega) with hc | ⟨hc,hd⟩ | ⟨hc,hd⟩
  ·
   have hr:costB b i n=.ok P:=by unfold costB; rw [if_pos hf,<-hP,if_pos hc]
   have hd:P<=9223372036854775807:=by omega
   have hm:mulH n (b.pr.at i.toNat)=_:=if_pos (hP ▸ hd)
   rw [<-hP] at hm
   refine aR_ ?_
   iterate 11
    refine oC_ fun J hJ=>?_
    simp [go_sem,h0,h8,h5,mulNS_at n (b.pr.at i.toNat) ⟨hn0,hn1,p0,p1⟩,hm]
    refine hJ _ _ _ ?_
    clear hJ J
   refine oN_ ?_
   refine hK6 _ ?_
   clear hK6
   refine aS_ fun K7 hK7=>?_
   refine aQ_ ?_
   iterate 6
    refine oC_ fun J hJ=>?_
    simp [go_sem,show ¬ 1099511627776 < P by omega]
    refine hJ _ _ _ ?_
    clear hJ J
   refine oN_ ?_
   refine aF_ rfl ?_
   refine aK_ ?_
   refine hK7 _ ?_
   clear hK7
   refine aQ_ ?_
   iterate 3
    refine oC_ fun J hJ=>?_
    simp [go_sem]
    refine hJ _ _ _ ?_
    clear hJ J
   refine oN_ ?_
   refine aE_ ?_
   rw [hr]
   refine fQ_ [] ?_
   simp [go_sem,Tryz.f123,costH]
  ·
   have hr:costB b i n=.error 7:=by unfold costB; rw [if_pos hf,<-hP,if_neg hc]
   have hm:mulH n (b.pr.at i.toNat)=_:=if_pos (hP ▸ hd)
   rw [<-hP] at hm
   refine aR_ ?_
   iterate 11
    refine oC_ fun J hJ=>?_
    simp [go_sem,h0,h8,h5,mulNS_at n (b.pr.at i.toNat) ⟨hn0,hn1,p0,p1⟩,hm]
    refine hJ _ _ _ ?_
    clear hJ J
   refine oN_ ?_
   refine hK6 _ ?_
   clear hK6
   refine aS_ fun K7 hK7=>?_
   refine aQ_ ?_
   iterate 6
    refine oC_ fun J hJ=>?_
    simp [go_sem,show 1099511627776 < P by omega]
    refine hJ _ _ _ ?_
    clear hJ J
   refine oN_ ?_
   refine aT_ rfl ?_
   refine aQ_ ?_
   iterate 2
    refine oC_ fun J hJ=>?_
    simp [go_sem]
    refine hJ _ _ _ ?_
    clear hJ J
   refine oN_ ?_
   refine aE_ ?_
   rw [hr]
   refine fQ_ [] ?_
   simp [go_sem,Tryz.f123,costH]
  ·
   have hr:costB b i n=.error 7:=by unfold costB; rw [if_pos hf,<-hP,if_neg hc]
   have hm:mulH n (b.pr.at i.toNat)=_:=if_neg (hP ▸ hd)
   refine aR_ ?_
   iterate 11
    refine oC_ fun J hJ=>?_
    simp [go_sem,h0,h8,h5,mulNS_at n (b.pr.at i.toNat) ⟨hn0,hn1,p0,p1⟩,hm]
    refine hJ _ _ _ ?_
    clear hJ J
   refine oN_ ?_
   refine hK6 _ ?_
   clear hK6
   refine aS_ fun K7 hK7=>?_
   refine aQ_ ?_
   iterate 6
    refine oC_ fun J hJ=>?_
    simp [go_sem]
    refine hJ _ _ _ ?_
    clear hJ J
   refine oN_ ?_
   refine aT_ rfl ?_
   refine aQ_ ?_
   iterate 2
    refine oC_ fun J hJ=>?_
    simp [go_sem]
    refine hJ _ _ _ ?_
    clear hJ J
   refine oN_ ?_
   refine aE_ ?_
   rw [hr]
   refine fQ_ [] ?_
   simp [go_sem,Tryz.f123,costH]
def ordId (a b:Id):Int:=orL [cmpI a.seq b.seq,cmpI a.rep b.rep]
def lessId (a b:Id):Bool:=decide (ordId a b < 0)
def lessR (a b:Id):Bool:=decide (a.seq < b.seq\/a.seq=b.seq/\a.rep < b.rep)
theorem less_eq (a b:Id):lessR a b=lessId a b:=by
 have h:(ordId a b < 0) ↔ (a.seq < b.seq\/a.seq=b.seq/\a.rep < b.rep):=by
  simp only [ordId,orL,cmpI]
  split <;> split <;> (try split) <;> (try split) <;> (try split) <;> omega
 unfold lessId lessR
 exact decide_eq_decide.2 h.symm
structure ordIdX where
 a:Id
 b:Id
noncomputable def ordIdS:HSpec:=mkH (ι:=ordIdX) (fun ⟨a,b⟩=>([.agg (cId a),.agg (cId b)],[])) fun ⟨a,b⟩=>⟨.int .i64 (ordId a b),[],[]⟩
theorem ordIdS_atG (a:Id) (b:Id):ordIdS [.agg (cId a),.agg (cId b)] []=some (⟨.int .i64 (ordId a b),[],[]⟩):=
 mA_ (ι:=ordIdX) (fun i j h=>by obtain ⟨a,b⟩:=i; obtain ⟨a2,b2⟩:=j; simp [and_assoc,qB_,qI_,qO_,qC_,qE_,qK_,qR_,qV_,qP_,qOc_] at h; obtain ⟨rfl,rfl⟩:=h; rfl) ⟨a,b⟩
theorem ordIdS_at (a:Id) (b:Id):ordIdS [.agg (cId a),.agg (cId b)] []=some (⟨.int .i64 (ordId a b),[],[]⟩):=ordIdS_atG a b
theorem ordId_ok:HSound Tryz.prog 138 ordIdS:=by
 refine sE_ (fn:=Tryz.f138) rfl rfl (by kernel_rfl) fun args bx hr hS=>?_
 obtain ⟨⟨a,b⟩,rfl,rfl,rfl⟩:=mO_ hS
 clear hS
 refine ⟨_,(eV_ (g:=112) (by kernel_rfl) cmp_ok (eV_ (g:=111) (by kernel_rfl) or_ok (eN_ _))),by simp [Tryz.f138],by simp [go_sem],fun w Mx pin=>?_⟩
 simp only [hB_at,lab_nil,lab_cons,hOf_nil,hOf_cons]
 refine aQ_ ?_
 iterate 3
  refine oC_ fun J hJ=>?_
  simp [go_sem]
  refine hJ _ _ _ ?_
  clear hJ J
 refine oN_ ?_
 refine aU_ ?_
 iterate 13
  refine oC_ fun J hJ=>?_
  simp [go_sem,cmpS_at,orS_at [cmpI a.seq b.seq,cmpI a.rep b.rep] (by simp)]
  refine hJ _ _ _ ?_
  clear hJ J
 refine oN_ ?_
 refine ⟨rfl,?_⟩
 refine aE_ ?_
 refine fQ_ [] ?_
 simp [go_sem,Tryz.f138,ordId]
structure lessIdX where
 a:Id
 b:Id
noncomputable def lessIdS:HSpec:=mkH (ι:=lessIdX) (fun ⟨a,b⟩=>([.agg (cId a),.agg (cId b)],[])) fun ⟨a,b⟩=>⟨.bool (lessId a b),[],[]⟩
theorem lessIdS_atG (a:Id) (b:Id):lessIdS [.agg (cId a),.agg (cId b)] []=some (⟨.bool (lessId a b),[],[]⟩):=
 mA_ (ι:=lessIdX) (fun i j h=>by obtain ⟨a,b⟩:=i; obtain ⟨a2,b2⟩:=j; simp [and_assoc,qB_,qI_,qO_,qC_,qE_,qK_,qR_,qV_,qP_,qOc_] at h; obtain ⟨rfl,rfl⟩:=h; rfl) ⟨a,b⟩
theorem lessIdS_at (a:Id) (b:Id):lessIdS [.agg (cId a),.agg (cId b)] []=some (⟨.bool (lessId a b),[],[]⟩):=lessIdS_atG a b
theorem lessId_ok:HSound Tryz.prog 132 lessIdS:=by
 refine sE_ (fn:=Tryz.f132) rfl rfl (by kernel_rfl) fun args bx hr hS=>?_
 obtain ⟨⟨a,b⟩,rfl,rfl,rfl⟩:=mO_ hS
 clear hS
 refine ⟨_,(eV_ (g:=138) (by kernel_rfl) ordId_ok (eN_ _)),by simp [Tryz.f132],by simp [go_sem],fun w Mx pin=>?_⟩
 simp only [hB_at,lab_nil,lab_cons,hOf_nil,hOf_cons]
 refine aQ_ ?_
 iterate 3
  refine oC_ fun J hJ=>?_
  simp [go_sem]
  refine hJ _ _ _ ?_
  clear hJ J
 refine oN_ ?_
 refine aQ_ ?_
 iterate 5
  refine oC_ fun J hJ=>?_
  simp [go_sem,ordIdS_at]
  refine hJ _ _ _ ?_
  clear hJ J
 refine oN_ ?_
 refine aE_ ?_
 refine fQ_ [] ?_
 simp [go_sem,Tryz.f132,lessId]
structure lessRX where
 a:Id
 b:Id
noncomputable def lessRS:HSpec:=mkH (ι:=lessRX) (fun ⟨a,b⟩=>([.agg (cId a),.agg (cId b)],[])) fun ⟨a,b⟩=>⟨.bool (lessR a b),[],[]⟩
theorem lessRS_atG (a:Id) (b:Id):lessRS [.agg (cId a),.agg (cId b)] []=some (⟨.bool (lessR a b),[],[]⟩):=
 mA_ (ι:=lessRX) (fun i j h=>by obtain ⟨a,b⟩:=i; obtain ⟨a2,b2⟩:=j; simp [and_assoc,qB_,qI_,qO_,qC_,qE_,qK_,qR_,qV_,qP_,qOc_] at h; obtain ⟨rfl,rfl⟩:=h; rfl) ⟨a,b⟩
theorem lessRS_at (a:Id) (b:Id):lessRS [.agg (cId a),.agg (cId b)] []=some (⟨.bool (lessR a b),[],[]⟩):=lessRS_atG a b
theorem lessR_ok:HSound Tryz.prog 93 lessRS:=by
 refine sE_ (fn:=Tryz.f93) rfl rfl (by kernel_rfl) fun args bx hr hS=>?_
 obtain ⟨⟨a,b⟩,rfl,rfl,rfl⟩:=mO_ hS
 clear hS
 refine ⟨_,(eN_ _),by simp [Tryz.f93],by simp [go_sem],fun w Mx pin=>?_⟩
 simp only [hB_at,lab_nil,lab_cons,hOf_nil,hOf_cons]
 refine aQ_ ?_
 iterate 3
  refine oC_ fun J hJ=>?_
  simp [go_sem]
  refine hJ _ _ _ ?_
  clear hJ J
 refine oN_ ?_
 refine aS_ fun K2 hK2=>?_
 cases h1:decide (a.seq < b.seq) <;> cases h2:(a.seq == b.seq) <;> cases h3:decide (a.rep < b.rep)
 all_goals
  refine aR_ ?_
  iterate 20
   refine oC_ fun J hJ=>?_
   simp [go_sem,h1,h2,h3]
   refine hJ _ _ _ ?_
   clear hJ J
  refine oN_ ?_
  refine hK2 _ ?_
  clear hK2
  refine aE_ ?_
  refine fQ_ [] ?_
  simp at h1 h2 h3
  simp [go_sem,Tryz.f93,lessR]
  try omega
def isOrd (a:Id) (x:Ord):Bool:=decide (x.id=a)
structure isOrdX where
 x:Ord
 a:Id
noncomputable def isOrdS:HSpec:=mkH (ι:=isOrdX) (fun ⟨x,a⟩=>([.agg (cOrd x),.iref (cId a) 0],[])) fun ⟨x,a⟩=>⟨.bool (isOrd a x),[],[]⟩
theorem isOrdS_atG (x:Ord) (a:Id):isOrdS [.agg (cOrd x),.iref (cId a) 0] []=some (⟨.bool (isOrd a x),[],[]⟩):=
 mA_ (ι:=isOrdX) (fun i j h=>by obtain ⟨x,a⟩:=i; obtain ⟨x2,a2⟩:=j; simp [and_assoc,qB_,qI_,qO_,qC_,qE_,qK_,qR_,qV_,qP_,qOc_] at h; obtain ⟨rfl,rfl⟩:=h; rfl) ⟨x,a⟩
theorem isOrdS_at (x:Ord) (a:Id):isOrdS [.agg (cOrd x),.iref (cId a) 0] []=some (⟨.bool (isOrd a x),[],[]⟩):=isOrdS_atG x a
theorem isOrd_ok:HSound Tryz.prog 131 isOrdS:=by
 refine sE_ (fn:=Tryz.f131) rfl rfl (by kernel_rfl) fun args bx hr hS=>?_
 obtain ⟨⟨x,a⟩,rfl,rfl,rfl⟩:=mO_ hS
 clear hS
 refine ⟨_,(eN_ _),by simp [Tryz.f131],by simp [go_sem],fun w Mx pin=>?_⟩
 simp only [hB_at,lab_nil,lab_cons,hOf_nil,hOf_cons]
 refine aQ_ ?_
 iterate 2
  refine oC_ fun J hJ=>?_
  simp [go_sem]
  refine hJ _ _ _ ?_
  clear hJ J
 refine oN_ ?_
 refine aQ_ ?_
 iterate 5
  refine oC_ fun J hJ=>?_
  simp [go_sem]
  refine hJ _ _ _ ?_
  clear hJ J
 refine oN_ ?_
 refine aE_ ?_
 refine fQ_ [] ?_
 simp [go_sem,Tryz.f131,isOrd]
def placeL (os:List Ord) (a:Id):Int:=idxL (isOrd a) os 0
def findL (os:List Ord) (a:Id):Option Ord:=os.find? (isOrd a)
theorem idxL_ge {α:Type} (p:α->Bool):∀ (l:List α) (i:Nat),idxL p l i=-1/\l.find? p=none\/∃ k x,k < l.length/\idxL p l i=((i + k:Nat):Int)/\l[k]?=some x/\p x=true/\l.find? p=some x
 | [],i=>.inl ⟨rfl,rfl⟩
 | x :: r,i=>by
  by_cases hx:p x=true
  · exact .inr ⟨0,x,by simp,by simp [idxL,hx],by simp,hx,by simp [List.find?,hx]⟩
  ·
   rcases idxL_ge p r (i + 1) with ⟨h1,h2⟩ | ⟨k,y,h1,h2,h3,h4,h5⟩
   · exact .inl ⟨by simp [idxL,hx,h1],by simp [List.find?,hx,h2]⟩
   · exact .inr ⟨k + 1,y,by simp [h1],by simp [idxL,hx,h2]; omega,by simpa using h3,h4,by simp [List.find?,hx,h5]⟩
theorem place_cases (os:List Ord) (a:Id):placeL os a=-1/\findL os a=none\/∃ (k:Nat) (x:Ord),k < os.length/\placeL os a=(k:Int)/\os[k]?=some x/\isOrd a x=true/\findL os a=some x:=by
 rcases idxL_ge (isOrd a) os 0 with h | ⟨k,x,h1,h2,h3,h4,h5⟩
 · exact .inl h
 · exact .inr ⟨k,x,h1,by have h:=h2; rw [Nat.zero_add] at h; exact h,h3,h4,h5⟩
structure placeX where
 b:Bk
 os:List Ord
 os':AV
 a:Id
 h_os:SlA 7 cOrd os os'
 hL:os.length<=100000
noncomputable def placeS:HSpec:=mkH (ι:=placeX) (fun ⟨b,os,os',a,h_os,hL⟩=>([.agg (cBk b os'),.agg (cId a)],[])) fun ⟨b,os,os',a,h_os,hL⟩=>⟨.int .i64 (placeL os a),[],[]⟩
theorem placeS_atG (b:Bk) (os:List Ord) (os':AV) (a:Id) (h_os:SlA 7 cOrd os os') (hL:os.length<=100000):placeS [.agg (cBk b os'),.agg (cId a)] []=some (⟨.int .i64 (placeL os a),[],[]⟩):=
 mA_ (ι:=placeX) (fun i j h=>by obtain ⟨b,os,os',a,h_os,hL⟩:=i; obtain ⟨b2,os2,os'2,a2,h_os2,hL2⟩:=j; simp [and_assoc,qB_,qI_,qO_,qC_,qE_,qK_,qR_,qV_,qP_,qOc_] at h; obtain ⟨rfl,rfl,rfl⟩:=h; obtain rfl:=SlA.inj (fun x y h=>cOrd_inj h) h_os h_os2; rfl) ⟨b,os,os',a,h_os,hL⟩
theorem placeS_at (b:Bk) (os:List Ord) (a:Id) (hL:os.length<=100000):placeS [.agg (cBk b (.sl 7 (rows cOrd os))),.agg (cId a)] []=some (⟨.int .i64 (placeL os a),[],[]⟩):=placeS_atG b os _ a .sl hL
theorem place_ok:HSound Tryz.prog 126 placeS:=by
 refine sE_ (fn:=Tryz.f126) rfl rfl (by kernel_rfl) fun args bx hr hS=>?_
 obtain ⟨⟨b,os,os',a,h_os,hL⟩,rfl,rfl,rfl⟩:=mO_ hS
 clear hS
 refine ⟨_,(eV_ (g:=130) (by kernel_rfl) (indexOrd_ok 131 [.iref (cId a) 0] (isOrd a) isOrdS (by kernel_rfl) isOrd_ok (fun x=>isOrdS_at x a) (fun H=>by simp [go_sem]) (fun H0 H=>by simp [go_sem])) (eN_ _)),by simp [Tryz.f126],by simp [go_sem],fun w Mx pin=>?_⟩
 simp only [hB_at,lab_nil,lab_cons,hOf_nil,hOf_cons]
 refine aW_ (s':=⟨ofL [(0,.agg (cBk b (.sl 7 (rows cOrd os)))),(1,.agg (cId a))],hOf []⟩) ?_ ?_
 · cases h_os <;> exact wO_ [] (by simp [go_sem]) (by simp [go_sem]) (by simp [go_sem])
 clear h_os
 refine aQ_ ?_
 iterate 3
  refine oC_ fun J hJ=>?_
  simp [go_sem]
  refine hJ _ _ _ ?_
  clear hJ J
 refine oN_ ?_
 refine aQ_ ?_
 iterate 5
  refine oC_ fun J hJ=>?_
  simp [go_sem,indexOrdS_at _ _ (isOrd a) os hL]
  refine hJ _ _ _ ?_
  clear hJ J
 refine oN_ ?_
 refine aE_ ?_
 refine fQ_ [] ?_
 simp [go_sem,Tryz.f126,placeL]
def findR (os:List Ord) (a:Id):AV:=.tup [.agg (cOrd ((findL os a).getD zOrd)),.bool (findL os a).isSome]
structure findX where
 b:Bk
 os:List Ord
 os':AV
 a:Id
 h_os:SlA 7 cOrd os os'
 hL:os.length<=100000
noncomputable def findS:HSpec:=mkH (ι:=findX) (fun ⟨b,os,os',a,h_os,hL⟩=>([.agg (cBk b os'),.agg (cId a)],[])) fun ⟨b,os,os',a,h_os,hL⟩=>⟨findR os a,[],[]⟩
theorem findS_atG (b:Bk) (os:List Ord) (os':AV) (a:Id) (h_os:SlA 7 cOrd os os') (hL:os.length<=100000):findS [.agg (cBk b os'),.agg (cId a)] []=some (⟨findR os a,[],[]⟩):=
 mA_ (ι:=findX) (fun i j h=>by obtain ⟨b,os,os',a,h_os,hL⟩:=i; obtain ⟨b2,os2,os'2,a2,h_os2,hL2⟩:=j; simp [and_assoc,qB_,qI_,qO_,qC_,qE_,qK_,qR_,qV_,qP_,qOc_] at h; obtain ⟨rfl,rfl,rfl⟩:=h; obtain rfl:=SlA.inj (fun x y h=>cOrd_inj h) h_os h_os2; rfl) ⟨b,os,os',a,h_os,hL⟩
theorem findS_at (b:Bk) (os:List Ord) (a:Id) (hL:os.length<=100000):findS [.agg (cBk b (.sl 7 (rows cOrd os))),.agg (cId a)] []=some (⟨findR os a,[],[]⟩):=findS_atG b os _ a .sl hL
theorem find_ok:HSound Tryz.prog 134 findS:=by
 refine sE_ (fn:=Tryz.f134) rfl rfl (by kernel_rfl) fun args bx hr hS=>?_
 obtain ⟨⟨b,os,os',a,h_os,hL⟩,rfl,rfl,rfl⟩:=mO_ hS
 clear hS
 refine ⟨_,(eV_ (g:=126) (by kernel_rfl) place_ok (eN_ _)),by simp [Tryz.f134],by simp [go_sem],fun w Mx pin=>?_⟩
 simp only [hB_at,lab_nil,lab_cons,hOf_nil,hOf_cons]
 refine aW_ (s':=⟨ofL [(0,.agg (cBk b (.sl 7 (rows cOrd os)))),(1,.agg (cId a))],hOf []⟩) ?_ ?_
 · cases h_os <;> exact wO_ [] (by simp [go_sem]) (by simp [go_sem]) (by simp [go_sem])
 clear h_os
 have hpc:=place_cases os a
 refine aQ_ ?_
 iterate 4
  refine oC_ fun J hJ=>?_
  simp [go_sem]
  refine hJ _ _ _ ?_
  clear hJ J
 refine oN_ ?_
 refine aQ_ ?_
 iterate 4
  refine oC_ fun J hJ=>?_
  simp [go_sem,placeS_at b os a hL]
  refine hJ _ _ _ ?_
  clear hJ J
 refine oN_ ?_
 refine aS_ fun K3 hK3=>?_
 refine aQ_ ?_
 iterate 2
  refine oC_ fun J hJ=>?_
  simp [go_sem]
  refine hJ _ _ _ ?_
  clear hJ J
 refine oN_ ?_
 refine aC_ (t:=_) rfl (fun c5=>?_) (fun c5=>?_)
 ·
  simp [go_sem] at c5
  obtain ⟨_,hf⟩ | ⟨k,x,hk0,hk,hx,_,hf⟩:=hpc
  rotate_left
  · omega
  refine aQ_ ?_
  iterate 3
   refine oC_ fun J hJ=>?_
   simp [go_sem]
   refine hJ _ _ _ ?_
   clear hJ J
  refine oN_ ?_
  refine aE_ ?_
  refine fQ_ [] ?_
  simp [go_sem,Tryz.f134,findR,hf]
 ·
  simp [go_sem] at c5
  obtain ⟨h1,_⟩ | ⟨k,x,hk0,hk,hx,_,hf⟩:=hpc
  · omega
  refine aK_ ?_
  refine hK3 _ ?_
  clear hK3
  refine aQ_ ?_
  iterate 7
   refine oC_ fun J hJ=>?_
   simp [go_sem,hk,hx]
   refine hJ _ _ _ ?_
   clear hJ J
  refine oN_ ?_
  refine aE_ ?_
  refine fQ_ [] ?_
  simp [go_sem,Tryz.f134,findR,hf]
structure indexIntX where
 L:List Int
 L':AV
 v:Int
 h_L:SlA 1 cInt L L'
 hL:L.length<=9223372036854775807
noncomputable def indexIntS:HSpec:=mkH (ι:=indexIntX) (fun ⟨L,L',v,h_L,hL⟩=>([L',.int .i64 v],[])) fun ⟨L,L',v,h_L,hL⟩=>⟨.int .i64 (idxL (fun x=>decide (v=x)) L 0),[],[]⟩
theorem indexIntS_atG (L:List Int) (L':AV) (v:Int) (h_L:SlA 1 cInt L L') (hL:L.length<=9223372036854775807):indexIntS [L',.int .i64 v] []=some (⟨.int .i64 (idxL (fun x=>decide (v=x)) L 0),[],[]⟩):=
 mA_ (ι:=indexIntX) (fun i j h=>by obtain ⟨L,L',v,h_L,hL⟩:=i; obtain ⟨L2,L'2,v2,h_L2,hL2⟩:=j; simp [and_assoc,qB_,qI_,qO_,qC_,qE_,qK_,qR_,qV_,qP_,qOc_] at h; obtain ⟨rfl,rfl⟩:=h; obtain rfl:=SlA.inj (fun x y h=>cInt_inj h) h_L h_L2; rfl) ⟨L,L',v,h_L,hL⟩
theorem indexIntS_at (L:List Int) (v:Int) (hL:L.length<=9223372036854775807):indexIntS [(.sl 1 (rows cInt L)),.int .i64 v] []=some (⟨.int .i64 (idxL (fun x=>decide (v=x)) L 0),[],[]⟩):=indexIntS_atG L _ v .sl hL
def indexIntI (L:List Int) (v:Int) (pre _post:List Int):St:=⟨ofL [(0,.sl 1 (rows cInt L)),(1,.int .i64 v),(7,.int .i64 L.length),(8,.int .i64 pre.length)],hOf []⟩
theorem indexInt_ok:HSound Tryz.prog 140 indexIntS:=by
 refine sE_ (fn:=Tryz.f140) rfl rfl (by kernel_rfl) fun args bx hr hS=>?_
 obtain ⟨⟨L,L',v,h_L,hL⟩,rfl,rfl,rfl⟩:=mO_ hS
 clear hS
 refine ⟨_,(eN_ _),by simp [Tryz.f140],by simp [go_sem],fun w Mx pin=>?_⟩
 simp only [hB_at,lab_nil,lab_cons,hOf_nil,hOf_cons]
 refine aW_ (s':=⟨ofL [(0,(.sl 1 (rows cInt L))),(1,.int .i64 v)],hOf []⟩) ?_ ?_
 · cases h_L <;> exact wO_ [] (by simp [go_sem]) (by simp [go_sem]) (by simp [go_sem])
 clear h_L
 refine aQ_ ?_
 iterate 1
  refine oC_ fun J hJ=>?_
  simp [go_sem]
  refine hJ _ _ _ ?_
  clear hJ J
 refine oN_ ?_
 refine aS_ fun K2 hK2=>?_
 refine aQ_ ?_
 iterate 3
  refine oC_ fun J hJ=>?_
  simp [go_sem]
  refine hJ _ _ _ ?_
  clear hJ J
 refine oN_ ?_
 refine aB_ ?_
 refine aL_ (ι:={ q:List Int × List Int // q.1++q.2=L/\idxL (fun x=>decide (v=x)) q.2 q.1.length=idxL (fun x=>decide (v=x)) L 0 }) (fun q=>indexIntI L v q.1.1 q.1.2) (fun q=>q.1.2.length) ⟨([],L),rfl,rfl⟩ ?_ ?_
 · refine wO_ [] (by simp [go_sem]) ?_ ?_ <;> simp [go_sem]
 intro ⟨⟨pre,post⟩,hl,hgo⟩
 simp only at hl hgo
 simp only [indexIntI]
 refine aQ_ ?_
 iterate 1
  refine oC_ fun J hJ=>?_
  simp [go_sem]
  refine hJ _ _ _ ?_
  clear hJ J
 refine oN_ ?_
 refine aS_ fun K5 hK5=>?_
 refine aC_ (t:=_) rfl (fun c6=>?_) (fun c6=>?_)
 ·
  simp [go_sem] at c6
  obtain ⟨x,post,rfl,hx⟩:=mL_ hl c6
  refine aK_ ?_
  refine hK5 _ ?_
  clear hK5
  refine aS_ fun K7 hK7=>?_
  refine aB_ ?_
  refine aQ_ ?_
  iterate 2
   refine oC_ fun J hJ=>?_
   simp [go_sem]
   refine hJ _ _ _ ?_
   clear hJ J
  refine oN_ ?_
  refine aQ_ ?_
  iterate 6
   refine oC_ fun J hJ=>?_
   simp [go_sem,hx]
   refine hJ _ _ _ ?_
   clear hJ J
  refine oN_ ?_
  refine aC_ (t:=_) rfl (fun c10=>?_) (fun c10=>?_)
  ·
   simp [go_sem] at c10
   subst c10
   refine aQ_ ?_
   iterate 2
    refine oC_ fun J hJ=>?_
    simp [go_sem]
    refine hJ _ _ _ ?_
    clear hJ J
   refine oN_ ?_
   refine aE_ ?_
   refine fQ_ [] ?_
   simp [go_sem,Tryz.f140,<-hgo,idxL]
  ·
   simp [go_sem] at c10
   refine aK_ ?_
   refine hK7 _ ?_
   clear hK7
   refine aR_ ?_
   iterate 2
    refine oC_ fun J hJ=>?_
    simp [go_sem]
    refine hJ _ _ _ ?_
    clear hJ J
   refine oN_ ?_
   refine ⟨⟨(pre++[x],post),by simp [<-hl],by rw [<-hgo]; simp [idxL,c10]⟩,?_,by simp⟩
   refine wO_ [] (by simp [go_sem]) ?_ ?_ <;> simp [go_sem,wrap_big hx hL]
 ·
  simp [go_sem] at c6
  obtain ⟨rfl,rfl⟩:=mN_ hl c6
  refine aX_ ?_
  simp only [go_sem]
  refine hK2 _ ?_
  clear hK2
  refine aQ_ ?_
  iterate 1
   refine oC_ fun J hJ=>?_
   simp [go_sem]
   refine hJ _ _ _ ?_
   clear hJ J
  refine oN_ ?_
  refine aE_ ?_
  refine fQ_ [] ?_
  simp [go_sem,Tryz.f140,<-hgo,idxL]
theorem idxL_ge0 {α:Type} (p:α->Bool) (l:List α) (i:Nat):(0<=idxL p l i) ↔ l.any p=true:=by
 induction l generalizing i with
 | nil=>simp [idxL]
 | cons x r ih=>
  by_cases hx:p x=true
  · simp [idxL,hx]
  · simp [idxL,hx,ih]
structure contIntX where
 L:List Int
 L':AV
 v:Int
 h_L:SlA 1 cInt L L'
 hL:L.length<=9223372036854775807
noncomputable def contIntS:HSpec:=mkH (ι:=contIntX) (fun ⟨L,L',v,h_L,hL⟩=>([L',.int .i64 v],[])) fun ⟨L,L',v,h_L,hL⟩=>⟨.bool (decide (v ∈ L)),[],[]⟩
theorem contIntS_atG (L:List Int) (L':AV) (v:Int) (h_L:SlA 1 cInt L L') (hL:L.length<=9223372036854775807):contIntS [L',.int .i64 v] []=some (⟨.bool (decide (v ∈ L)),[],[]⟩):=
 mA_ (ι:=contIntX) (fun i j h=>by obtain ⟨L,L',v,h_L,hL⟩:=i; obtain ⟨L2,L'2,v2,h_L2,hL2⟩:=j; simp [and_assoc,qB_,qI_,qO_,qC_,qE_,qK_,qR_,qV_,qP_,qOc_] at h; obtain ⟨rfl,rfl⟩:=h; obtain rfl:=SlA.inj (fun x y h=>cInt_inj h) h_L h_L2; rfl) ⟨L,L',v,h_L,hL⟩
theorem contIntS_at (L:List Int) (v:Int) (hL:L.length<=9223372036854775807):contIntS [(.sl 1 (rows cInt L)),.int .i64 v] []=some (⟨.bool (decide (v ∈ L)),[],[]⟩):=contIntS_atG L _ v .sl hL
theorem contInt_ok:HSound Tryz.prog 135 contIntS:=by
 refine sE_ (fn:=Tryz.f135) rfl rfl (by kernel_rfl) fun args bx hr hS=>?_
 obtain ⟨⟨L,L',v,h_L,hL⟩,rfl,rfl,rfl⟩:=mO_ hS
 clear hS
 refine ⟨_,(eV_ (g:=140) (by kernel_rfl) indexInt_ok (eN_ _)),by simp [Tryz.f135],by simp [go_sem],fun w Mx pin=>?_⟩
 simp only [hB_at,lab_nil,lab_cons,hOf_nil,hOf_cons]
 refine aW_ (s':=⟨ofL [(0,(.sl 1 (rows cInt L))),(1,.int .i64 v)],hOf []⟩) ?_ ?_
 · cases h_L <;> exact wO_ [] (by simp [go_sem]) (by simp [go_sem]) (by simp [go_sem])
 clear h_L
 refine aQ_ ?_
 iterate 1
  refine oC_ fun J hJ=>?_
  simp [go_sem]
  refine hJ _ _ _ ?_
  clear hJ J
 refine oN_ ?_
 refine aQ_ ?_
 iterate 5
  refine oC_ fun J hJ=>?_
  simp [go_sem,indexIntS_at L v hL]
  refine hJ _ _ _ ?_
  clear hJ J
 refine oN_ ?_
 refine aE_ ?_
 refine fQ_ [] ?_
 simp [go_sem,Tryz.f135,idxL_ge0]
def inC (os:List Ord) (a:Id) (st:List Int):Int:=match findL os a with
 | none=>14
 | some x=>if x.state ∈ st then 0 else 9
def inO (os:List Ord) (a:Id) (st:List Int):Ord:=if inC os a st=0 then (findL os a).getD zOrd else zOrd
structure inX where
 b:Bk
 os:List Ord
 os':AV
 a:Id
 st:List Int
 st':AV
 h_os:SlA 7 cOrd os os'
 h_st:SlA 1 cInt st st'
 hL:os.length<=100000/\st.length<=9223372036854775807
noncomputable def inS:HSpec:=mkH (ι:=inX) (fun ⟨b,os,os',a,st,st',h_os,h_st,hL⟩=>([.agg (cBk b os'),.agg (cId a),st'],[])) fun ⟨b,os,os',a,st,st',h_os,h_st,hL⟩=>⟨.tup [.agg (cOrd (inO os a st)),.int .i64 (inC os a st)],[],[]⟩
theorem inS_atG (b:Bk) (os:List Ord) (os':AV) (a:Id) (st:List Int) (st':AV) (h_os:SlA 7 cOrd os os') (h_st:SlA 1 cInt st st') (hL:os.length<=100000/\st.length<=9223372036854775807):inS [.agg (cBk b os'),.agg (cId a),st'] []=some (⟨.tup [.agg (cOrd (inO os a st)),.int .i64 (inC os a st)],[],[]⟩):=
 mA_ (ι:=inX) (fun i j h=>by obtain ⟨b,os,os',a,st,st',h_os,h_st,hL⟩:=i; obtain ⟨b2,os2,os'2,a2,st2,st'2,h_os2,h_st2,hL2⟩:=j; simp [and_assoc,qB_,qI_,qO_,qC_,qE_,qK_,qR_,qV_,qP_,qOc_] at h; obtain ⟨rfl,rfl,rfl,rfl⟩:=h; obtain rfl:=SlA.inj (fun x y h=>cOrd_inj h) h_os h_os2; obtain rfl:=SlA.inj (fun x y h=>cInt_inj h) h_st h_st2; rfl) ⟨b,os,os',a,st,st',h_os,h_st,hL⟩
theorem inS_at (b:Bk) (os:List Ord) (a:Id) (st:List Int) (hL:os.length<=100000/\st.length<=9223372036854775807):inS [.agg (cBk b (.sl 7 (rows cOrd os))),.agg (cId a),(.sl 1 (rows cInt st))] []=some (⟨.tup [.agg (cOrd (inO os a st)),.int .i64 (inC os a st)],[],[]⟩):=inS_atG b os _ a st _ .sl .sl hL
theorem in_ok:HSound Tryz.prog 128 inS:=by
 refine sE_ (fn:=Tryz.f128) rfl rfl (by kernel_rfl) fun args bx hr hS=>?_
 obtain ⟨⟨b,os,os',a,st,st',h_os,h_st,hL⟩,rfl,rfl,rfl⟩:=mO_ hS
 clear hS
 refine ⟨_,(eV_ (g:=134) (by kernel_rfl) find_ok (eV_ (g:=135) (by kernel_rfl) contInt_ok (eN_ _))),by simp [Tryz.f128],by simp [go_sem],fun w Mx pin=>?_⟩
 simp only [hB_at,lab_nil,lab_cons,hOf_nil,hOf_cons]
 refine aW_ (s':=⟨ofL [(0,.agg (cBk b (.sl 7 (rows cOrd os)))),(1,.agg (cId a)),(2,(.sl 1 (rows cInt st)))],hOf []⟩) ?_ ?_
 · cases h_os <;> cases h_st <;> exact wO_ [] (by simp [go_sem]) (by simp [go_sem]) (by simp [go_sem])
 clear h_os h_st
 refine aQ_ ?_
 iterate 4
  refine oC_ fun J hJ=>?_
  simp [go_sem]
  refine hJ _ _ _ ?_
  clear hJ J
 refine oN_ ?_
 refine aQ_ ?_
 iterate 9
  refine oC_ fun J hJ=>?_
  simp [go_sem,findS_at b os a hL.1,findR]
  refine hJ _ _ _ ?_
  clear hJ J
 refine oN_ ?_
 refine aS_ fun K3 hK3=>?_
 refine aB_ ?_
 refine aQ_ ?_
 iterate 3
  refine oC_ fun J hJ=>?_
  simp [go_sem]
  refine hJ _ _ _ ?_
  clear hJ J
 refine oN_ ?_
 refine aC_ (t:=_) rfl (fun c5=>?_) (fun c5=>?_)
 ·
  refine aQ_ ?_
  iterate 3
   refine oC_ fun J hJ=>?_
   simp [go_sem]
   refine hJ _ _ _ ?_
   clear hJ J
  refine oN_ ?_
  refine aE_ ?_
  refine fQ_ [] ?_
  cases hf:findL os a
  · simp [go_sem,Tryz.f128,inO,inC,hf]
  · simp [hf] at c5
 ·
  refine aQ_ ?_
  iterate 6
   refine oC_ fun J hJ=>?_
   simp [go_sem,contIntS_at st ((findL os a).getD zOrd).state hL.2]
   refine hJ _ _ _ ?_
   clear hJ J
  refine oN_ ?_
  refine aC_ (t:=_) rfl (fun c8=>?_) (fun c8=>?_)
  ·
   refine aQ_ ?_
   iterate 3
    refine oC_ fun J hJ=>?_
    simp [go_sem]
    refine hJ _ _ _ ?_
    clear hJ J
   refine oN_ ?_
   refine aE_ ?_
   refine fQ_ [] ?_
   cases hf:findL os a
   · simp [hf] at c5
   · simp [hf] at c8; simp [go_sem,Tryz.f128,inO,inC,hf,c8]
  ·
   refine aK_ ?_
   refine hK3 _ ?_
   clear hK3
   refine aQ_ ?_
   iterate 3
    refine oC_ fun J hJ=>?_
    simp [go_sem]
    refine hJ _ _ _ ?_
    clear hJ J
   refine oN_ ?_
   refine aE_ ?_
   refine fQ_ [] ?_
   cases hf:findL os a
   · simp [hf] at c5
   · simp [hf] at c8; simp [go_sem,Tryz.f128,inO,inC,hf,c8]
def atG (a:Id):List Ord->Nat->Nat->Nat
 | [],_,at_=>at_
 | x :: r,i,at_=>atG a r (i + 1) (if lessId x.id a=true then i + 1 else at_)
theorem atG_le (a:Id):∀ (l:List Ord) (i k:Nat),k<=i->atG a l i k<=i + l.length
 | [],i,k,h=>by simpa [atG] using h
 | x :: r,i,k,h=>by
  have:=atG_le a r (i + 1) (if lessId x.id a=true then i + 1 else k) (by split <;> omega)
  simp only [atG,List.length_cons]
  omega
def putL (os:List Ord) (o:Ord):List Ord:=if 0<=placeL os o.id then os.set (placeL os o.id).toNat o else os.take (atG o.id os 0 0)++[o]++os.drop (atG o.id os 0 0)
theorem putL_len (os:List Ord) (o:Ord):(putL os o).length<=os.length + 1:=by
 have:=atG_le o.id os 0 0 (Nat.le_refl _)
 unfold putL
 split
 · simp
 · simp; omega
structure putX where
 b:Bk
 os:List Ord
 os':AV
 x:Ord
 h_os:SlA 7 cOrd os os'
 hL:os.length<=50000
noncomputable def putS:HSpec:=mkH (ι:=putX) (fun ⟨b,os,os',x,h_os,hL⟩=>([.agg (cBk b os'),.agg (cOrd x)],[])) fun ⟨b,os,os',x,h_os,hL⟩=>⟨.agg (cBk b (.sl 7 (rows cOrd (putL os x)))),[],[]⟩
theorem putS_atG (b:Bk) (os:List Ord) (os':AV) (x:Ord) (h_os:SlA 7 cOrd os os') (hL:os.length<=50000):putS [.agg (cBk b os'),.agg (cOrd x)] []=some (⟨.agg (cBk b (.sl 7 (rows cOrd (putL os x)))),[],[]⟩):=
 mA_ (ι:=putX) (fun i j h=>by obtain ⟨b,os,os',x,h_os,hL⟩:=i; obtain ⟨b2,os2,os'2,x2,h_os2,hL2⟩:=j; simp [and_assoc,qB_,qI_,qO_,qC_,qE_,qK_,qR_,qV_,qP_,qOc_] at h; obtain ⟨rfl,rfl,rfl⟩:=h; obtain rfl:=SlA.inj (fun x y h=>cOrd_inj h) h_os h_os2; rfl) ⟨b,os,os',x,h_os,hL⟩
theorem putS_at (b:Bk) (os:List Ord) (x:Ord) (hL:os.length<=50000):putS [.agg (cBk b (.sl 7 (rows cOrd os))),.agg (cOrd x)] []=some (⟨.agg (cBk b (.sl 7 (rows cOrd (putL os x)))),[],[]⟩):=putS_atG b os _ x .sl hL
def putI (b:Bk) (os:List Ord) (x:Ord) (pre _post:List Ord) (k:Nat):St:=⟨ofL [(2,.ref (0,32) 0),(3,.ref (0,48) 0),(4,.ref (0,64) 0),(6,.int .i64 k),(26,.sl 7 (rows cOrd os)),(27,.int .i64 os.length),(28,.int .i64 pre.length)],hOf [((0,32),.obj (cBk b (.sl 7 (rows cOrd os)))),((0,48),.obj (cOrd x)),((0,64),.obj (cBk zBk .nils))]⟩
theorem put_ok:HSound Tryz.prog 127 putS:=by
 refine sE_ (fn:=Tryz.f127) rfl rfl (by kernel_rfl) fun args bx hr hS=>?_
 obtain ⟨⟨b,os,os',x,h_os,hL⟩,rfl,rfl,rfl⟩:=mO_ hS
 clear hS
 refine ⟨_,(eV_ (g:=126) (by kernel_rfl) place_ok (eV_ (g:=66) (by kernel_rfl) cloneOrd_ok (eV_ (g:=132) (by kernel_rfl) lessId_ok (eV_ (g:=133) (by kernel_rfl) concatOrd_ok (eN_ _))))),by simp [Tryz.f127],by simp [go_sem],fun w Mx pin=>?_⟩
 simp only [hB_at,lab_nil,lab_cons,hOf_nil,hOf_cons]
 refine aW_ (s':=⟨ofL [(0,.agg (cBk b (.sl 7 (rows cOrd os)))),(1,.agg (cOrd x))],hOf []⟩) ?_ ?_
 · cases h_os <;> exact wO_ [] (by simp [go_sem]) (by simp [go_sem]) (by simp [go_sem])
 clear h_os
 have hpc:=place_cases os x.id
 refine aQ_ ?_
 iterate 3
  refine oC_ fun J hJ=>?_
  simp [go_sem]
  refine hJ _ _ _ ?_
  clear hJ J
 refine oN_ ?_
 refine aS_ fun K2 hK2=>?_
 refine aQ_ ?_
 iterate 5
  refine oC_ fun J hJ=>?_
  simp [go_sem,placeS_at b os x.id (by omega)]
  refine hJ _ _ _ ?_
  clear hJ J
 refine oN_ ?_
 refine aQ_ ?_
 iterate 2
  refine oC_ fun J hJ=>?_
  simp [go_sem]
  refine hJ _ _ _ ?_
  clear hJ J
 refine oN_ ?_
 refine aC_ (t:=_) rfl (fun c5=>?_) (fun c5=>?_)
 ·
  simp [go_sem] at c5
  obtain ⟨h1,_⟩ | ⟨k,z,hk0,hk,hz,_,hf⟩:=hpc
  · omega
  refine aQ_ ?_
  iterate 5
   refine oC_ fun J hJ=>?_
   simp [go_sem,cloneOrdS_at os (by omega)]
   refine hJ _ _ _ ?_
   clear hJ J
  refine oN_ ?_
  refine aQ_ ?_
  iterate 6
   refine oC_ fun J hJ=>?_
   simp [go_sem,hk,hk0,hz]
   refine hJ _ _ _ ?_
   clear hJ J
  refine oN_ ?_
  refine aQ_ ?_
  iterate 2
   refine oC_ fun J hJ=>?_
   simp [go_sem]
   refine hJ _ _ _ ?_
   clear hJ J
  refine oN_ ?_
  refine aE_ ?_
  have hp:putL os x=os.set k x:=by
   unfold putL
   rw [if_pos (by omega),hk]
   simp
  refine fQ_ [] ?_
  simp [go_sem,Tryz.f127,hp]
  rw [List.take_of_length_le (by simp)]
 ·
  simp [go_sem] at c5
  clear hpc
  refine aK_ ?_
  refine hK2 _ ?_
  clear hK2
  refine aQ_ ?_
  iterate 1
   refine oC_ fun J hJ=>?_
   simp [go_sem]
   refine hJ _ _ _ ?_
   clear hJ J
  refine oN_ ?_
  refine aS_ fun K10 hK10=>?_
  refine aQ_ ?_
  iterate 4
   refine oC_ fun J hJ=>?_
   simp [go_sem]
   refine hJ _ _ _ ?_
   clear hJ J
  refine oN_ ?_
  refine aB_ ?_
  refine aL_ (ι:={ q:List Ord × List Ord × Nat // q.1++q.2.1=os/\q.2.2<=q.1.length/\atG x.id q.2.1 q.1.length q.2.2=atG x.id os 0 0 }) (fun q=>putI b os x q.1.1 q.1.2.1 q.1.2.2) (fun q=>q.1.2.1.length) ⟨([],os,0),rfl,⟨Nat.le_refl _,rfl⟩⟩ ?_ ?_
  · refine wO_ [((0,32),some (0,32)),((0,48),some (0,48)),((0,64),some (0,64))] (by simp [go_sem]) ?_ ?_ <;> simp [go_sem]
  intro ⟨⟨pre,post,k⟩,hl,hgo⟩
  simp only at hl hgo
  have hpl:=lS_ hl (show os.length<=100000 by omega)
  simp only [putI]
  refine aQ_ ?_
  iterate 1
   refine oC_ fun J hJ=>?_
   simp [go_sem]
   refine hJ _ _ _ ?_
   clear hJ J
  refine oN_ ?_
  refine aS_ fun K13 hK13=>?_
  refine aC_ (t:=_) rfl (fun c14=>?_) (fun c14=>?_)
  ·
   simp [go_sem] at c14
   obtain ⟨y,post,rfl,hy⟩:=mL_ hl c14
   refine aK_ ?_
   refine hK13 _ ?_
   clear hK13
   refine aS_ fun K15 hK15=>?_
   refine aB_ ?_
   refine aQ_ ?_
   iterate 6
    refine oC_ fun J hJ=>?_
    simp [go_sem,hy]
    refine hJ _ _ _ ?_
    clear hJ J
   refine oN_ ?_
   refine aQ_ ?_
   iterate 5
    refine oC_ fun J hJ=>?_
    simp [go_sem,lessIdS_at]
    refine hJ _ _ _ ?_
    clear hJ J
   refine oN_ ?_
   refine aC_ (t:=_) rfl (fun c18=>?_) (fun c18=>?_)
   ·
    refine aR_ ?_
    iterate 3
     refine oC_ fun J hJ=>?_
     simp [go_sem,wN_ hpl]
     refine hJ _ _ _ ?_
     clear hJ J
    refine oN_ ?_
    refine hK15 _ ?_
    clear hK15
    refine aR_ ?_
    iterate 2
     refine oC_ fun J hJ=>?_
     simp [go_sem]
     refine hJ _ _ _ ?_
     clear hJ J
    refine oN_ ?_
    refine ⟨⟨(pre++[y],post,(if lessId y.id x.id=true then pre.length + 1 else k)),by simp [<-hl],by exact ⟨by simp; split <;> omega,by rw [<-hgo.2]; simp [atG]⟩⟩,?_,by simp⟩
    refine wO_ [((0,32),some (0,32)),((0,48),some (0,48)),((0,64),some (0,64))] (by simp [go_sem]) ?_ ?_ <;> simp [go_sem,wN_ hpl,c18]
   ·
    refine aK_ ?_
    refine hK15 _ ?_
    clear hK15
    refine aR_ ?_
    iterate 2
     refine oC_ fun J hJ=>?_
     simp [go_sem]
     refine hJ _ _ _ ?_
     clear hJ J
    refine oN_ ?_
    refine ⟨⟨(pre++[y],post,(if lessId y.id x.id=true then pre.length + 1 else k)),by simp [<-hl],by exact ⟨by simp; split <;> omega,by rw [<-hgo.2]; simp [atG]⟩⟩,?_,by simp⟩
    refine wO_ [((0,32),some (0,32)),((0,48),some (0,48)),((0,64),some (0,64))] (by simp [go_sem]) ?_ ?_ <;> simp [go_sem,wN_ hpl,c18]
  ·
   simp [go_sem] at c14
   obtain ⟨rfl,rfl⟩:=mN_ hl c14
   obtain ⟨hk,hgo⟩:=hgo
   simp only [atG] at hgo
   refine aX_ ?_
   simp only [go_sem]
   refine hK10 _ ?_
   clear hK10
   refine aU_ ?_
   iterate 14
    refine oC_ fun J hJ=>?_
    simp [go_sem,hk,Nat.min_eq_left hk,concatOrdS_at3 (os.take k) [x] (os.drop k) (by simp; omega)]
    refine hJ _ _ _ ?_
    clear hJ J
   refine oN_ ?_
   refine ⟨rfl,?_⟩
   refine aQ_ ?_
   iterate 2
    refine oC_ fun J hJ=>?_
    simp [go_sem]
    refine hJ _ _ _ ?_
    clear hJ J
   refine oN_ ?_
   refine aE_ ?_
   have hp:putL os x=os.take k++[x]++os.drop k:=by
    unfold putL
    rw [if_neg (by omega),hgo]
   refine fQ_ [] ?_
   simp [go_sem,Tryz.f127,hp,Nat.min_eq_left hk]
   rw [List.take_of_length_le (by simp; omega)]
def sameB (b:Bk) (os:List Ord) (d:Bk) (qs:List Ord):Bool:=decide (b=d/\os=qs)
theorem Bk.ext_all {b d:Bk} (h:b.st=d.st/\b.pr=d.pr/\b.pu=d.pu):b=d:=by
 cases b; cases d; simp only at h; obtain ⟨rfl,rfl,rfl⟩:=h; rfl
structure plBookX where
 b:Bk
 os:List Ord
 os':AV
 d:Bk
 qs:List Ord
 qs':AV
 h_os:SlA 7 cOrd os os'
 h_qs:SlA 7 cOrd qs qs'
 hL:os.length<=100000
noncomputable def plBookS:HSpec:=mkH (ι:=plBookX) (fun ⟨b,os,os',d,qs,qs',h_os,h_qs,hL⟩=>([.agg (cBk b os'),.agg (cBk d qs')],[])) fun ⟨b,os,os',d,qs,qs',h_os,h_qs,hL⟩=>⟨.bool (sameB b os d qs),[],[]⟩
theorem plBookS_atG (b:Bk) (os:List Ord) (os':AV) (d:Bk) (qs:List Ord) (qs':AV) (h_os:SlA 7 cOrd os os') (h_qs:SlA 7 cOrd qs qs') (hL:os.length<=100000):plBookS [.agg (cBk b os'),.agg (cBk d qs')] []=some (⟨.bool (sameB b os d qs),[],[]⟩):=
 mA_ (ι:=plBookX) (fun i j h=>by obtain ⟨b,os,os',d,qs,qs',h_os,h_qs,hL⟩:=i; obtain ⟨b2,os2,os'2,d2,qs2,qs'2,h_os2,h_qs2,hL2⟩:=j; simp [and_assoc,qB_,qI_,qO_,qC_,qE_,qK_,qR_,qV_,qP_,qOc_] at h; obtain ⟨rfl,rfl,rfl,rfl⟩:=h; obtain rfl:=SlA.inj (fun x y h=>cOrd_inj h) h_os h_os2; obtain rfl:=SlA.inj (fun x y h=>cOrd_inj h) h_qs h_qs2; rfl) ⟨b,os,os',d,qs,qs',h_os,h_qs,hL⟩
theorem plBookS_at (b:Bk) (os:List Ord) (d:Bk) (qs:List Ord) (hL:os.length<=100000):plBookS [.agg (cBk b (.sl 7 (rows cOrd os))),.agg (cBk d (.sl 7 (rows cOrd qs)))] []=some (⟨.bool (sameB b os d qs),[],[]⟩):=plBookS_atG b os _ d qs _ .sl .sl hL
def plBookI (b:Bk) (os:List Ord) (d:Bk) (qs pre _post _q:List Ord):St:=⟨ofL [(2,.ref (0,32) 0),(3,.ref (0,48) 0),(5,.int .i64 pre.length)],hOf [((0,32),.obj (cBk b (.sl 7 (rows cOrd os)))),((0,48),.obj (cBk d (.sl 7 (rows cOrd qs))))]⟩
theorem plBook_ok:HSound Tryz.prog 15 plBookS:=by
 refine sE_ (fn:=Tryz.f15) rfl rfl (by kernel_rfl) fun args bx hr hS=>?_
 obtain ⟨⟨b,os,os',d,qs,qs',h_os,h_qs,hL⟩,rfl,rfl,rfl⟩:=mO_ hS
 clear hS
 refine ⟨_,(eN_ _),by simp [Tryz.f15],by simp [go_sem],fun w Mx pin=>?_⟩
 simp only [hB_at,lab_nil,lab_cons,hOf_nil,hOf_cons]
 refine aW_ (s':=⟨ofL [(0,.agg (cBk b (.sl 7 (rows cOrd os)))),(1,.agg (cBk d (.sl 7 (rows cOrd qs))))],hOf []⟩) ?_ ?_
 · cases h_os <;> cases h_qs <;> exact wO_ [] (by simp [go_sem]) (by simp [go_sem]) (by simp [go_sem])
 clear h_os h_qs
 refine aQ_ ?_
 iterate 3
  refine oC_ fun J hJ=>?_
  simp [go_sem]
  refine hJ _ _ _ ?_
  clear hJ J
 refine oN_ ?_
 refine aS_ fun K2 hK2=>?_
 refine aS_ fun K3 hK3=>?_
 by_cases hbd:b=d
 ·
  subst hbd
  refine aR_ ?_
  iterate 28
   refine oC_ fun J hJ=>?_
   simp [go_sem]
   refine hJ _ _ _ ?_
   clear hJ J
  refine oN_ ?_
  refine hK3 _ ?_
  clear hK3
  refine aC_ (t:=_) rfl (fun c4=>?_) (fun c4=>?_)
  ·
   simp [go_sem] at c4
   have hne:os ≠ qs:=fun h=>c4 (by rw [h])
   refine aQ_ ?_
   iterate 1
    refine oC_ fun J hJ=>?_
    simp [go_sem]
    refine hJ _ _ _ ?_
    clear hJ J
   refine oN_ ?_
   refine aE_ ?_
   refine fQ_ [] ?_
   simp [go_sem,Tryz.f15,sameB,hne]
  ·
   simp [go_sem] at c4
   refine aK_ ?_
   refine hK2 _ ?_
   clear hK2
   refine aS_ fun K6 hK6=>?_
   refine aQ_ ?_
   iterate 1
    refine oC_ fun J hJ=>?_
    simp [go_sem]
    refine hJ _ _ _ ?_
    clear hJ J
   refine oN_ ?_
   refine aB_ ?_
   refine aL_ (ι:={ q:List Ord × List Ord × List Ord // q.1++q.2.1=os/\q.1++q.2.2=qs }) (fun q=>plBookI b os b qs q.1.1 q.1.2.1 q.1.2.2) (fun q=>q.1.2.1.length) ⟨([],os,qs),rfl,rfl⟩ ?_ ?_
   · refine wO_ [((0,32),some (0,32)),((0,48),some (0,48))] (by simp [go_sem]) ?_ ?_ <;> simp [go_sem]
   intro ⟨⟨pre,post,p2⟩,hl,hgo⟩
   simp only at hl hgo
   have hpl:=lS_ hl hL
   simp only [plBookI]
   refine aS_ fun K8 hK8=>?_
   refine aQ_ ?_
   iterate 5
    refine oC_ fun J hJ=>?_
    simp [go_sem]
    refine hJ _ _ _ ?_
    clear hJ J
   refine oN_ ?_
   refine aC_ (t:=_) rfl (fun c10=>?_) (fun c10=>?_)
   ·
    simp [go_sem] at c10
    obtain ⟨x,post,rfl,hx⟩:=mL_ hl c10
    obtain ⟨y,p2,rfl,hy⟩:=mL_ hgo (by omega)
    refine aK_ ?_
    refine hK8 _ ?_
    clear hK8
    refine aS_ fun K11 hK11=>?_
    refine aB_ ?_
    refine aU_ ?_
    iterate 11
     refine oC_ fun J hJ=>?_
     simp [go_sem,hx,hy]
     refine hJ _ _ _ ?_
     clear hJ J
    refine oN_ ?_
    refine ⟨rfl,?_⟩
    refine aC_ (t:=_) rfl (fun c13=>?_) (fun c13=>?_)
    ·
     refine aQ_ ?_
     iterate 1
      refine oC_ fun J hJ=>?_
      simp [go_sem]
      refine hJ _ _ _ ?_
      clear hJ J
     refine oN_ ?_
     refine aE_ ?_
     have hne:os ≠ qs:=by
      rintro rfl
      rw [hx] at hy
      cases hy
      simp at c13
     refine fQ_ [] ?_
     simp [go_sem,Tryz.f15,sameB,hne]
    ·
     refine aK_ ?_
     refine hK11 _ ?_
     clear hK11
     refine aR_ ?_
     iterate 3
      refine oC_ fun J hJ=>?_
      simp [go_sem]
      refine hJ _ _ _ ?_
      clear hJ J
     refine oN_ ?_
     obtain rfl:x=y:=by simpa using c13
     refine ⟨⟨(pre++[x],post,p2),by simp [<-hl],by rw [<-hgo]; simp⟩,?_,by simp⟩
     refine wO_ [((0,32),some (0,32)),((0,48),some (0,48))] (by simp [go_sem]) ?_ ?_ <;> simp [go_sem,wN_ hpl]
   ·
    simp [go_sem] at c10
    obtain ⟨rfl,rfl⟩:=mN_ hl c10
    obtain rfl:p2=[]:=by have:=congrArg List.length hgo; simp at this; exact List.eq_nil_of_length_eq_zero (by omega)
    simp at hgo
    refine aX_ ?_
    simp only [go_sem]
    refine hK6 _ ?_
    clear hK6
    refine aQ_ ?_
    iterate 1
     refine oC_ fun J hJ=>?_
     simp [go_sem]
     refine hJ _ _ _ ?_
     clear hJ J
    refine oN_ ?_
    refine aE_ ?_
    refine fQ_ [] ?_
    simp [go_sem,Tryz.f15,sameB,hgo]
 ·
  have hxx:¬ (b.st=d.st/\b.pr=d.pr/\b.pu=d.pu):=fun h=>hbd (Bk.ext_all h)
  cases h1:decide (b.st=d.st) <;> cases h2:decide (b.pr=d.pr) <;> cases h3:decide (b.pu=d.pu)
  all_goals first | (exfalso; simp at h1 h2 h3; exact hxx ⟨h1,h2,h3⟩) | clear hxx
  all_goals
   refine aR_ ?_
   iterate 28
    refine oC_ fun J hJ=>?_
    simp [go_sem,h1,h2,h3]
    refine hJ _ _ _ ?_
    clear hJ J
   refine oN_ ?_
   refine hK3 _ ?_
   clear hK3
   refine aT_ rfl ?_
   refine aQ_ ?_
   iterate 1
    refine oC_ fun J hJ=>?_
    simp [go_sem]
    refine hJ _ _ _ ?_
    clear hJ J
   refine oN_ ?_
   refine aE_ ?_
   refine fQ_ [] ?_
   simp [go_sem,Tryz.f15,sameB,hbd]
structure findRfX where
 b:Bk
 os:List Ord
 os':AV
 a:Id
 h_os:SlA 7 cOrd os os'
 hL:os.length<=100000
noncomputable def findRfS:HSpec:=mkH (ι:=findRfX) (fun ⟨b,os,os',a,h_os,hL⟩=>([.agg (cBk b os'),.agg (cId a)],[])) fun ⟨b,os,os',a,h_os,hL⟩=>⟨.int .i64 (placeL os a),[],[]⟩
theorem findRfS_atG (b:Bk) (os:List Ord) (os':AV) (a:Id) (h_os:SlA 7 cOrd os os') (hL:os.length<=100000):findRfS [.agg (cBk b os'),.agg (cId a)] []=some (⟨.int .i64 (placeL os a),[],[]⟩):=
 mA_ (ι:=findRfX) (fun i j h=>by obtain ⟨b,os,os',a,h_os,hL⟩:=i; obtain ⟨b2,os2,os'2,a2,h_os2,hL2⟩:=j; simp [and_assoc,qB_,qI_,qO_,qC_,qE_,qK_,qR_,qV_,qP_,qOc_] at h; obtain ⟨rfl,rfl,rfl⟩:=h; obtain rfl:=SlA.inj (fun x y h=>cOrd_inj h) h_os h_os2; rfl) ⟨b,os,os',a,h_os,hL⟩
theorem findRfS_at (b:Bk) (os:List Ord) (a:Id) (hL:os.length<=100000):findRfS [.agg (cBk b (.sl 7 (rows cOrd os))),.agg (cId a)] []=some (⟨.int .i64 (placeL os a),[],[]⟩):=findRfS_atG b os _ a .sl hL
def findRfI (b:Bk) (os:List Ord) (a:Id) (pre _post:List Ord):St:=⟨ofL [(2,.ref (0,32) 0),(3,.ref (0,48) 0),(5,.int .i64 pre.length)],hOf [((0,32),.obj (cBk b (.sl 7 (rows cOrd os)))),((0,48),.obj (cId a))]⟩
theorem findRf_ok:HSound Tryz.prog 81 findRfS:=by
 refine sE_ (fn:=Tryz.f81) rfl rfl (by kernel_rfl) fun args bx hr hS=>?_
 obtain ⟨⟨b,os,os',a,h_os,hL⟩,rfl,rfl,rfl⟩:=mO_ hS
 clear hS
 refine ⟨_,(eN_ _),by simp [Tryz.f81],by simp [go_sem],fun w Mx pin=>?_⟩
 simp only [hB_at,lab_nil,lab_cons,hOf_nil,hOf_cons]
 refine aW_ (s':=⟨ofL [(0,.agg (cBk b (.sl 7 (rows cOrd os)))),(1,.agg (cId a))],hOf []⟩) ?_ ?_
 · cases h_os <;> exact wO_ [] (by simp [go_sem]) (by simp [go_sem]) (by simp [go_sem])
 clear h_os
 refine aQ_ ?_
 iterate 3
  refine oC_ fun J hJ=>?_
  simp [go_sem]
  refine hJ _ _ _ ?_
  clear hJ J
 refine oN_ ?_
 refine aS_ fun K2 hK2=>?_
 refine aQ_ ?_
 iterate 1
  refine oC_ fun J hJ=>?_
  simp [go_sem]
  refine hJ _ _ _ ?_
  clear hJ J
 refine oN_ ?_
 refine aB_ ?_
 refine aL_ (ι:={ q:List Ord × List Ord // q.1++q.2=os/\idxL (isOrd a) q.2 q.1.length=placeL os a }) (fun q=>findRfI b os a q.1.1 q.1.2) (fun q=>q.1.2.length) ⟨([],os),rfl,rfl⟩ ?_ ?_
 · refine wO_ [((0,32),some (0,32)),((0,48),some (0,48))] (by simp [go_sem]) ?_ ?_ <;> simp [go_sem]
 intro ⟨⟨pre,post⟩,hl,hgo⟩
 simp only at hl hgo
 have hpl:=lS_ hl hL
 simp only [findRfI]
 refine aS_ fun K4 hK4=>?_
 refine aQ_ ?_
 iterate 5
  refine oC_ fun J hJ=>?_
  simp [go_sem]
  refine hJ _ _ _ ?_
  clear hJ J
 refine oN_ ?_
 refine aC_ (t:=_) rfl (fun c6=>?_) (fun c6=>?_)
 ·
  simp [go_sem] at c6
  obtain ⟨x,post,rfl,hx⟩:=mL_ hl c6
  refine aK_ ?_
  refine hK4 _ ?_
  clear hK4
  refine aS_ fun K7 hK7=>?_
  refine aB_ ?_
  refine aU_ ?_
  iterate 8
   refine oC_ fun J hJ=>?_
   simp [go_sem,hx]
   refine hJ _ _ _ ?_
   clear hJ J
  refine oN_ ?_
  refine ⟨rfl,?_⟩
  refine aC_ (t:=_) rfl (fun c9=>?_) (fun c9=>?_)
  ·
   simp [go_sem] at c9
   refine aQ_ ?_
   iterate 2
    refine oC_ fun J hJ=>?_
    simp [go_sem]
    refine hJ _ _ _ ?_
    clear hJ J
   refine oN_ ?_
   refine aE_ ?_
   refine fQ_ [] ?_
   simp [go_sem,Tryz.f81,<-hgo,idxL,isOrd,c9]
  ·
   simp [go_sem] at c9
   refine aK_ ?_
   refine hK7 _ ?_
   clear hK7
   refine aR_ ?_
   iterate 3
    refine oC_ fun J hJ=>?_
    simp [go_sem]
    refine hJ _ _ _ ?_
    clear hJ J
   refine oN_ ?_
   refine ⟨⟨(pre++[x],post),by simp [<-hl],by rw [<-hgo]; simp [idxL,isOrd,c9]⟩,?_,by simp⟩
   refine wO_ [((0,32),some (0,32)),((0,48),some (0,48))] (by simp [go_sem]) ?_ ?_ <;> simp [go_sem,wN_ hpl]
 ·
  simp [go_sem] at c6
  obtain ⟨rfl,rfl⟩:=mN_ hl c6
  refine aX_ ?_
  simp only [go_sem]
  refine hK2 _ ?_
  clear hK2
  refine aQ_ ?_
  iterate 1
   refine oC_ fun J hJ=>?_
   simp [go_sem]
   refine hJ _ _ _ ?_
   clear hJ J
  refine oN_ ?_
  refine aE_ ?_
  refine fQ_ [] ?_
  simp [go_sem,Tryz.f81,<-hgo,idxL]
structure putRfX where
 b:Bk
 os:List Ord
 os':AV
 x:Ord
 h_os:SlA 7 cOrd os os'
 hL:os.length<=50000
noncomputable def putRfS:HSpec:=mkH (ι:=putRfX) (fun ⟨b,os,os',x,h_os,hL⟩=>([.agg (cBk b os'),.agg (cOrd x)],[])) fun ⟨b,os,os',x,h_os,hL⟩=>⟨.agg (cBk b (.own (2,0) (putL os x).length)),[],[.row 61 7 (rows cOrd (putL os x)) false]⟩
theorem putRfS_atG (b:Bk) (os:List Ord) (os':AV) (x:Ord) (h_os:SlA 7 cOrd os os') (hL:os.length<=50000):putRfS [.agg (cBk b os'),.agg (cOrd x)] []=some (⟨.agg (cBk b (.own (2,0) (putL os x).length)),[],[.row 61 7 (rows cOrd (putL os x)) false]⟩):=
 mA_ (ι:=putRfX) (fun i j h=>by obtain ⟨b,os,os',x,h_os,hL⟩:=i; obtain ⟨b2,os2,os'2,x2,h_os2,hL2⟩:=j; simp [and_assoc,qB_,qI_,qO_,qC_,qE_,qK_,qR_,qV_,qP_,qOc_] at h; obtain ⟨rfl,rfl,rfl⟩:=h; obtain rfl:=SlA.inj (fun x y h=>cOrd_inj h) h_os h_os2; rfl) ⟨b,os,os',x,h_os,hL⟩
theorem putRfS_at (b:Bk) (os:List Ord) (x:Ord) (hL:os.length<=50000):putRfS [.agg (cBk b (.sl 7 (rows cOrd os))),.agg (cOrd x)] []=some (⟨.agg (cBk b (.own (2,0) (putL os x).length)),[],[.row 61 7 (rows cOrd (putL os x)) false]⟩):=putRfS_atG b os _ x .sl hL
def putRfI (b:Bk) (os:List Ord) (x:Ord) (pre _post:List Ord) (k:Nat):St:=⟨ofL [(2,.ref (0,32) 0),(3,.ref (0,48) 0),(4,.ref (0,64) 0),(5,.nils),(7,.int .i64 k),(8,.int .i64 pre.length)],hOf [((0,32),.obj (cBk b (.sl 7 (rows cOrd os)))),((0,48),.obj (cOrd x)),((0,64),.obj (cBk zBk .nils))]⟩
theorem putRf_ok:HSound Tryz.prog 86 putRfS:=by
 refine sE_ (fn:=Tryz.f86) rfl rfl (by kernel_rfl) fun args bx hr hS=>?_
 obtain ⟨⟨b,os,os',x,h_os,hL⟩,rfl,rfl,rfl⟩:=mO_ hS
 clear hS
 refine ⟨_,(eV_ (g:=81) (by kernel_rfl) findRf_ok (eV_ (g:=93) (by kernel_rfl) lessR_ok (eN_ _))),by simp [Tryz.f86],by simp [go_sem],fun w Mx pin=>?_⟩
 simp only [hB_at,lab_nil,lab_cons,hOf_nil,hOf_cons]
 refine aW_ (s':=⟨ofL [(0,.agg (cBk b (.sl 7 (rows cOrd os)))),(1,.agg (cOrd x))],hOf []⟩) ?_ ?_
 · cases h_os <;> exact wO_ [] (by simp [go_sem]) (by simp [go_sem]) (by simp [go_sem])
 clear h_os
 have hpc:=place_cases os x.id
 refine aQ_ ?_
 iterate 3
  refine oC_ fun J hJ=>?_
  simp [go_sem]
  refine hJ _ _ _ ?_
  clear hJ J
 refine oN_ ?_
 refine aQ_ ?_
 iterate 1
  refine oC_ fun J hJ=>?_
  simp [go_sem]
  refine hJ _ _ _ ?_
  clear hJ J
 refine oN_ ?_
 refine aQ_ ?_
 iterate 5
  refine oC_ fun J hJ=>?_
  simp [go_sem,findRfS_at b os x.id (by omega)]
  refine hJ _ _ _ ?_
  clear hJ J
 refine oN_ ?_
 refine aS_ fun K4 hK4=>?_
 refine aQ_ ?_
 iterate 2
  refine oC_ fun J hJ=>?_
  simp [go_sem]
  refine hJ _ _ _ ?_
  clear hJ J
 refine oN_ ?_
 refine aC_ (t:=_) rfl (fun c6=>?_) (fun c6=>?_)
 ·
  simp [go_sem] at c6
  obtain ⟨h1,_⟩ | ⟨k,z,hk0,hk,hz,_,hf⟩:=hpc
  · omega
  refine aQ_ ?_
  iterate 5
   refine oC_ fun J hJ=>?_
   simp [go_sem,show (os.length) * 56<=140737488355328 by omega,show os.length<=maxLen by simp only [maxLen]; omega]
   refine hJ _ _ _ ?_
   clear hJ J
  refine oN_ ?_
  refine aQ_ ?_
  iterate 5
   refine oC_ fun J hJ=>?_
   simp [go_sem,hk,hk0,hz]
   refine hJ _ _ _ ?_
   clear hJ J
  refine oN_ ?_
  refine aQ_ ?_
  iterate 3
   refine oC_ fun J hJ=>?_
   simp [go_sem]
   refine hJ _ _ _ ?_
   clear hJ J
  refine oN_ ?_
  refine aQ_ ?_
  iterate 2
   refine oC_ fun J hJ=>?_
   simp [go_sem]
   refine hJ _ _ _ ?_
   clear hJ J
  refine oN_ ?_
  refine aE_ ?_
  have hp:putL os x=os.set k x:=by
   unfold putL
   rw [if_pos (by omega),hk]
   simp
  refine fQ_ [((2,0),some (0,288))] ?_
  simp [go_sem,Tryz.f86,hp]
 ·
  simp [go_sem] at c6
  clear hpc
  refine aK_ ?_
  refine hK4 _ ?_
  clear hK4
  refine aQ_ ?_
  iterate 1
   refine oC_ fun J hJ=>?_
   simp [go_sem]
   refine hJ _ _ _ ?_
   clear hJ J
  refine oN_ ?_
  refine aS_ fun K12 hK12=>?_
  refine aQ_ ?_
  iterate 1
   refine oC_ fun J hJ=>?_
   simp [go_sem]
   refine hJ _ _ _ ?_
   clear hJ J
  refine oN_ ?_
  refine aB_ ?_
  refine aL_ (ι:={ q:List Ord × List Ord × Nat // q.1++q.2.1=os/\q.2.2<=q.1.length/\atG x.id q.2.1 q.1.length q.2.2=atG x.id os 0 0 }) (fun q=>putRfI b os x q.1.1 q.1.2.1 q.1.2.2) (fun q=>q.1.2.1.length) ⟨([],os,0),rfl,⟨Nat.le_refl _,rfl⟩⟩ ?_ ?_
  · refine wO_ [((0,32),some (0,32)),((0,48),some (0,48)),((0,64),some (0,64))] (by simp [go_sem]) ?_ ?_ <;> simp [go_sem]
  intro ⟨⟨pre,post,k⟩,hl,hgo⟩
  simp only at hl hgo
  have hpl:=lS_ hl (show os.length<=100000 by omega)
  simp only [putRfI]
  refine aS_ fun K14 hK14=>?_
  refine aQ_ ?_
  iterate 5
   refine oC_ fun J hJ=>?_
   simp [go_sem]
   refine hJ _ _ _ ?_
   clear hJ J
  refine oN_ ?_
  refine aC_ (t:=_) rfl (fun c16=>?_) (fun c16=>?_)
  ·
   simp [go_sem] at c16
   obtain ⟨y,post,rfl,hx⟩:=mL_ hl c16
   refine aK_ ?_
   refine hK14 _ ?_
   clear hK14
   refine aS_ fun K17 hK17=>?_
   refine aB_ ?_
   refine aU_ ?_
   iterate 9
    refine oC_ fun J hJ=>?_
    simp [go_sem,hx,lessRS_at,less_eq]
    refine hJ _ _ _ ?_
    clear hJ J
   refine oN_ ?_
   refine ⟨rfl,?_⟩
   refine aC_ (t:=_) rfl (fun c19=>?_) (fun c19=>?_)
   ·
    refine aR_ ?_
    iterate 3
     refine oC_ fun J hJ=>?_
     simp [go_sem,wN_ hpl]
     refine hJ _ _ _ ?_
     clear hJ J
    refine oN_ ?_
    refine hK17 _ ?_
    clear hK17
    refine aR_ ?_
    iterate 3
     refine oC_ fun J hJ=>?_
     simp [go_sem]
     refine hJ _ _ _ ?_
     clear hJ J
    refine oN_ ?_
    refine ⟨⟨(pre++[y],post,(if lessId y.id x.id=true then pre.length + 1 else k)),by simp [<-hl],by exact ⟨by simp; split <;> omega,by rw [<-hgo.2]; simp [atG]⟩⟩,?_,by simp⟩
    refine wO_ [((0,32),some (0,32)),((0,48),some (0,48)),((0,64),some (0,64))] (by simp [go_sem]) ?_ ?_ <;> simp [go_sem,wN_ hpl,c19]
   ·
    refine aK_ ?_
    refine hK17 _ ?_
    clear hK17
    refine aR_ ?_
    iterate 3
     refine oC_ fun J hJ=>?_
     simp [go_sem]
     refine hJ _ _ _ ?_
     clear hJ J
    refine oN_ ?_
    refine ⟨⟨(pre++[y],post,(if lessId y.id x.id=true then pre.length + 1 else k)),by simp [<-hl],by exact ⟨by simp; split <;> omega,by rw [<-hgo.2]; simp [atG]⟩⟩,?_,by simp⟩
    refine wO_ [((0,32),some (0,32)),((0,48),some (0,48)),((0,64),some (0,64))] (by simp [go_sem]) ?_ ?_ <;> simp [go_sem,wN_ hpl,c19]
  ·
   simp [go_sem] at c16
   obtain ⟨rfl,rfl⟩:=mN_ hl c16
   obtain ⟨hk,hgo⟩:=hgo
   simp only [atG] at hgo
   refine aX_ ?_
   simp only [go_sem]
   refine hK12 _ ?_
   clear hK12
   refine aQ_ ?_
   iterate 7
    refine oC_ fun J hJ=>?_
    simp [go_sem,hk,Nat.min_eq_left hk,show (k) * 56<=140737488355328 by omega,show k<=maxLen by simp only [maxLen]; omega]
    refine hJ _ _ _ ?_
    clear hJ J
   refine oN_ ?_
   refine aQ_ ?_
   iterate 5
    refine oC_ fun J hJ=>?_
    simp [go_sem,Nat.min_eq_left hk,show (k + 1) * 56<=140737488355328 by omega,show k + 1<=maxLen by simp only [maxLen]; omega]
    refine hJ _ _ _ ?_
    clear hJ J
   refine oN_ ?_
   refine aQ_ ?_
   iterate 7
    refine oC_ fun J hJ=>?_
    simp [go_sem,hk,Nat.min_eq_left hk,show (k + 1 + (os.length - k)) * 56<=140737488355328 by omega,show k + 1 + (os.length - k)<=maxLen by simp only [maxLen]; omega]
    refine hJ _ _ _ ?_
    clear hJ J
   refine oN_ ?_
   refine aQ_ ?_
   iterate 3
    refine oC_ fun J hJ=>?_
    simp [go_sem]
    refine hJ _ _ _ ?_
    clear hJ J
   refine oN_ ?_
   refine aQ_ ?_
   iterate 2
    refine oC_ fun J hJ=>?_
    simp [go_sem]
    refine hJ _ _ _ ?_
    clear hJ J
   refine oN_ ?_
   refine aE_ ?_
   have hp:putL os x=os.take k++[x]++os.drop k:=by
    unfold putL
    rw [if_neg (by omega),hgo]
   have ht:List.take (k + 1) (List.take k (List.take k os)++[x])=List.take k os++[x]:=by
    rw [List.take_take,Nat.min_self]
    exact List.take_of_length_le (by simp; omega)
   refine fQ_ [((2,0),some (0,944))] ?_
   simp [go_sem,Tryz.f86,hp,ht,Nat.min_eq_left hk]
   try omega
def newC (os:List Ord) (x:Ord):Int:=if 0<=placeL os x.id then 9 else if 32<=os.length then 3 else 0
def newR (b:Bk) (os:List Ord) (x:Ord):HR:=if newC os x=0 then ⟨.tup [.agg (cBk b (.sl 7 (rows cOrd (putL os x)))),.int .i64 0],[],[]⟩ else ⟨.tup [.agg (cBk zBk (.sl 7 [])),.int .i64 (newC os x)],[],[]⟩
theorem newR_goOn (b:Bk) (os:List Ord) (x:Ord):(newR b os x).up=[]:=by unfold newR; split <;> rfl
theorem newR_0 {b:Bk} {os:List Ord} {x:Ord} (h:newC os x=0):newR b os x=⟨.tup [.agg (cBk b (.sl 7 (rows cOrd (putL os x)))),.int .i64 0],[],[]⟩:=if_pos h
theorem newR_e {b:Bk} {os:List Ord} {x:Ord} {e:Int} (h:newC os x=e) (he:e ≠ 0):newR b os x=⟨.tup [.agg (cBk zBk (.sl 7 [])),.int .i64 e],[],[]⟩:=by subst h; exact if_neg he
structure newX where
 b:Bk
 os:List Ord
 os':AV
 x:Ord
 h_os:SlA 7 cOrd os os'
 hL:os.length<=50000
noncomputable def newS:HSpec:=mkH (ι:=newX) (fun ⟨b,os,os',x,h_os,hL⟩=>([.agg (cBk b os'),.agg (cOrd x)],[])) fun ⟨b,os,os',x,h_os,hL⟩=>newR b os x
theorem newS_atG (b:Bk) (os:List Ord) (os':AV) (x:Ord) (h_os:SlA 7 cOrd os os') (hL:os.length<=50000):newS [.agg (cBk b os'),.agg (cOrd x)] []=some (newR b os x):=
 mA_ (ι:=newX) (fun i j h=>by obtain ⟨b,os,os',x,h_os,hL⟩:=i; obtain ⟨b2,os2,os'2,x2,h_os2,hL2⟩:=j; simp [and_assoc,qB_,qI_,qO_,qC_,qE_,qK_,qR_,qV_,qP_,qOc_] at h; obtain ⟨rfl,rfl,rfl⟩:=h; obtain rfl:=SlA.inj (fun x y h=>cOrd_inj h) h_os h_os2; rfl) ⟨b,os,os',x,h_os,hL⟩
theorem newS_at (b:Bk) (os:List Ord) (x:Ord) (hL:os.length<=50000):newS [.agg (cBk b (.sl 7 (rows cOrd os))),.agg (cOrd x)] []=some (newR b os x):=newS_atG b os _ x .sl hL
theorem new_ok:HSound Tryz.prog 119 newS:=by
 refine sE_ (fn:=Tryz.f119) rfl rfl (by kernel_rfl) fun args bx hr hS=>?_
 obtain ⟨⟨b,os,os',x,h_os,hL⟩,rfl,rfl,rfl⟩:=mO_ hS
 clear hS
 refine ⟨_,(eV_ (g:=126) (by kernel_rfl) place_ok (eV_ (g:=127) (by kernel_rfl) put_ok (eN_ _))),by simp [Tryz.f119],by simp [newR_goOn,go_sem],fun w Mx pin=>?_⟩
 simp only [hB_at,lab_nil,lab_cons,hOf_nil,hOf_cons]
 refine aW_ (s':=⟨ofL [(0,.agg (cBk b (.sl 7 (rows cOrd os)))),(1,.agg (cOrd x))],hOf []⟩) ?_ ?_
 · cases h_os <;> exact wO_ [] (by simp [go_sem]) (by simp [go_sem]) (by simp [go_sem])
 clear h_os
 refine aQ_ ?_
 iterate 4
  refine oC_ fun J hJ=>?_
  simp [go_sem]
  refine hJ _ _ _ ?_
  clear hJ J
 refine oN_ ?_
 refine aS_ fun K2 hK2=>?_
 refine aB_ ?_
 refine aQ_ ?_
 iterate 6
  refine oC_ fun J hJ=>?_
  simp [go_sem,placeS_at b os x.id (by omega)]
  refine hJ _ _ _ ?_
  clear hJ J
 refine oN_ ?_
 refine aC_ (t:=_) rfl (fun c4=>?_) (fun c4=>?_)
 ·
  simp [go_sem] at c4
  have hn:newR b os x=_:=newR_e (e:=9) (by simp [newC,c4]) (by decide)
  refine aQ_ ?_
  iterate 3
   refine oC_ fun J hJ=>?_
   simp [go_sem]
   refine hJ _ _ _ ?_
   clear hJ J
  refine oN_ ?_
  refine aE_ ?_
  rw [hn]
  refine fQ_ [] ?_
  simp [go_sem,Tryz.f119]
 ·
  simp [go_sem] at c4
  refine aQ_ ?_
  iterate 5
   refine oC_ fun J hJ=>?_
   simp [go_sem]
   refine hJ _ _ _ ?_
   clear hJ J
  refine oN_ ?_
  refine aC_ (t:=_) rfl (fun c7=>?_) (fun c7=>?_)
  ·
   simp [go_sem] at c7
   have hn:newR b os x=_:=newR_e (e:=3) (by simp [newC,show ¬ 0<=placeL os x.id by omega,show 32<=os.length by omega]) (by decide)
   refine aQ_ ?_
   iterate 3
    refine oC_ fun J hJ=>?_
    simp [go_sem]
    refine hJ _ _ _ ?_
    clear hJ J
   refine oN_ ?_
   refine aE_ ?_
   rw [hn]
   refine fQ_ [] ?_
   simp [go_sem,Tryz.f119]
  ·
   simp [go_sem] at c7
   have hn:newR b os x=_:=newR_0 (by simp [newC,show ¬ 0<=placeL os x.id by omega,show ¬ 32<=os.length by omega])
   refine aK_ ?_
   refine hK2 _ ?_
   clear hK2
   refine aQ_ ?_
   iterate 5
    refine oC_ fun J hJ=>?_
    simp [go_sem,putS_at b os x hL]
    refine hJ _ _ _ ?_
    clear hJ J
   refine oN_ ?_
   refine aE_ ?_
   rw [hn]
   refine fQ_ [] ?_
   simp [go_sem,Tryz.f119]
end Go.Proofs.YtjoaigccapegpaaGreat.AE
