/-
 Lists of requests: contracts. Conditions: none; every contract names its own.
-/
import Derived.Test.YtjoaigccapegpaaORq1
set_option linter.constructorNameAsVariable false
namespace Go.Proofs.Ytjoaigccapegpaa.AE
open Go Go.Proofs Go.RowKit
set_option linter.unusedVariables false
set_option linter.unusedSimpArgs false
set_option maxRecDepth 100000
set_option maxHeartbeats 4000000
structure indexReqX where
 L:List Req
 hL:L.length<=100000
noncomputable def indexReqS (g:FuncId) (caps:List AV) (p:Req->Bool):HSpec:=mkH (ι:=indexReqX) (fun ⟨L,_⟩=>([.sl 9 (rows cReq L),.fn g caps],[])) fun ⟨L,_⟩=>⟨.int .i64 (idxL p L 0),[],[]⟩
theorem indexReqS_at (g:FuncId) (caps:List AV) (p:Req->Bool) (L:List Req) (hL:L.length<=100000):indexReqS g caps p [.sl 9 (rows cReq L),.fn g caps] []=some ⟨.int .i64 (idxL p L 0),[],[]⟩:=
 mA_ (ι:=indexReqX) (fun i j h=>by obtain ⟨L,hL⟩:=i; obtain ⟨M,hM⟩:=j; simp [rows_iff_Req] at h; simp [h]) ⟨L,hL⟩
def indexReqI (g:FuncId) (caps:List AV) (L pre _post:List Req):St:=⟨ofL [(0,.sl 9 (rows cReq L)),(1,.fn g caps),(7,.int .i64 L.length),(8,.int .i64 pre.length)],hOf []⟩
theorem indexReq_ok (g:FuncId) (caps:List AV) (p:Req->Bool) (Sg:HSpec) (he:entersB Try.prog g=true) (hG:HSound Try.prog g Sg) (hp:∀ x,Sg (.agg (cReq x) :: caps) []=some ⟨.bool (p x),[],[]⟩) (hv:∀ H,caps.map (view H 3)=caps) (hcl:∀ H0 H,le.leC H0 H [] caps caps=True):HSound Try.prog 79 (indexReqS g caps p):=by
 refine sE_ (fn:=Try.f79) rfl rfl (by kernel_rfl) fun args bx hr hS=>?_
 obtain ⟨⟨L,hL⟩,rfl,rfl,rfl⟩:=mO_ hS
 refine ⟨_,(eV_ (g:=g) he hG (eN_ _)),by simp [Try.f79],by simp [go_sem],fun w Mx pin=>?_⟩
 simp only [hB_at,lab_nil,lab_cons,hOf_nil,hOf_cons]
 refine aQ_ ?_
 iterate 1
  refine oC_ fun J hJ=>?_
  simp [go_sem]
  refine hJ _ _ _ ?_
 refine oN_ ?_
 refine aS_ fun K2 hK2=>?_
 refine aQ_ ?_
 iterate 3
  refine oC_ fun J hJ=>?_
  simp [go_sem]
  refine hJ _ _ _ ?_
 refine oN_ ?_
 refine aB_ ?_
 refine aL_ (ι:={ q:List Req × List Req // q.1++q.2=L/\idxL p q.2 q.1.length=idxL p L 0 }) (fun q=>indexReqI g caps L q.1.1 q.1.2) (fun q=>q.1.2.length) ⟨([],L),rfl,rfl⟩ ?_ ?_
 · refine wO_ [] (by simp [go_sem]) ?_ ?_ <;> simp [go_sem,hcl]
 intro ⟨⟨pre,post⟩,hl,hgo⟩
 simp only at hl hgo
 have hpl:=lS_ hl hL
 simp only [indexReqI]
 refine aQ_ ?_
 iterate 1
  refine oC_ fun J hJ=>?_
  simp [go_sem]
  refine hJ _ _ _ ?_
 refine oN_ ?_
 refine aS_ fun K5 hK5=>?_
 refine aC_ (t:=_) rfl (fun c6=>?_) (fun c6=>?_)
 ·
  simp [go_sem] at c6
  obtain ⟨x,post,rfl,hx⟩:=mL_ hl c6
  refine aK_ ?_
  refine hK5 _ ?_
  refine aS_ fun K7 hK7=>?_
  refine aB_ ?_
  refine aQ_ ?_
  iterate 2
   refine oC_ fun J hJ=>?_
   simp [go_sem]
   refine hJ _ _ _ ?_
  refine oN_ ?_
  refine aQ_ ?_
  iterate 6
   refine oC_ fun J hJ=>?_
   simp [go_sem,hp,hv,hx]
   refine hJ _ _ _ ?_
  refine oN_ ?_
  refine aC_ (t:=_) rfl (fun c10=>?_) (fun c10=>?_)
  ·
   refine aQ_ ?_
   iterate 2
    refine oC_ fun J hJ=>?_
    simp [go_sem]
    refine hJ _ _ _ ?_
   refine oN_ ?_
   refine aE_ ?_
   refine fQ_ [] ?_
   simp [go_sem,Try.f79,<-hgo,idxL,c10]
  ·
   refine aK_ ?_
   refine hK7 _ ?_
   refine aR_ ?_
   iterate 2
    refine oC_ fun J hJ=>?_
    simp [go_sem]
    refine hJ _ _ _ ?_
   refine oN_ ?_
   refine ⟨⟨(pre++[x],post),by simp [<-hl],by rw [<-hgo]; simp [idxL,c10]⟩,?_,by simp⟩
   refine wO_ [] (by simp [go_sem]) ?_ ?_ <;> simp [go_sem,wN_ hpl,hcl]
 ·
  simp [go_sem] at c6
  obtain ⟨rfl,rfl⟩:=mN_ hl c6
  refine aX_ ?_
  simp only [go_sem]
  refine hK2 _ ?_
  refine aQ_ ?_
  iterate 1
   refine oC_ fun J hJ=>?_
   simp [go_sem]
   refine hJ _ _ _ ?_
  refine oN_ ?_
  refine aE_ ?_
  refine fQ_ [] ?_
  simp [go_sem,Try.f79,<-hgo,idxL]
theorem any_ge0 {α:Type} (p:α->Bool) (l:List α) (i:Nat):(0<=idxL p l i) ↔ l.any p=true:=by
 induction l generalizing i with
 | nil=>simp [idxL]
 | cons x r ih=>
  by_cases hx:p x=true
  · simp [idxL,hx]
  · simp [idxL,hx,ih]
structure eqReqX where
 L:List Req
 L':AV
 M:List Req
 M':AV
 h_L:SlA 9 cReq L L'
 h_M:SlA 9 cReq M M'
 hL:L.length<=100000
noncomputable def eqReqS:HSpec:=mkH (ι:=eqReqX) (fun ⟨L,L',M,M',h_L,h_M,hL⟩=>([L',M'],[])) fun ⟨L,L',M,M',h_L,h_M,hL⟩=>⟨.bool (decide (L=M)),[],[]⟩
theorem eqReqS_atG (L:List Req) (L':AV) (M:List Req) (M':AV) (h_L:SlA 9 cReq L L') (h_M:SlA 9 cReq M M') (hL:L.length<=100000):eqReqS [L',M'] []=some (⟨.bool (decide (L=M)),[],[]⟩):=
 mA_ (ι:=eqReqX) (fun i j h=>by obtain ⟨L,L',M,M',h_L,h_M,hL⟩:=i; obtain ⟨L2,L'2,M2,M'2,h_L2,h_M2,hL2⟩:=j; simp [and_assoc,qB_,qI_,qO_,qC_,qE_,qK_,qR_,qV_,qP_,qOc_] at h; obtain ⟨rfl,rfl⟩:=h; obtain rfl:=SlA.inj (fun x y h=>cReq_inj h) h_L h_L2; obtain rfl:=SlA.inj (fun x y h=>cReq_inj h) h_M h_M2; rfl) ⟨L,L',M,M',h_L,h_M,hL⟩
theorem eqReqS_at (L:List Req) (M:List Req) (hL:L.length<=100000):eqReqS [(.sl 9 (rows cReq L)),(.sl 9 (rows cReq M))] []=some (⟨.bool (decide (L=M)),[],[]⟩):=eqReqS_atG L _ M _ .sl .sl hL
def eqReqI (L M pre _post _q:List Req):St:=⟨ofL [(0,.sl 9 (rows cReq L)),(1,.sl 9 (rows cReq M)),(12,.int .i64 L.length),(13,.int .i64 pre.length)],hOf []⟩
theorem eqReq_ok:HSound Try.prog 55 eqReqS:=by
 refine sE_ (fn:=Try.f55) rfl rfl (by kernel_rfl) fun args bx hr hS=>?_
 obtain ⟨⟨L,L',M,M',h_L,h_M,hL⟩,rfl,rfl,rfl⟩:=mO_ hS
 clear hS
 refine ⟨_,(eN_ _),by simp [Try.f55],by simp [go_sem],fun w Mx pin=>?_⟩
 simp only [hB_at,lab_nil,lab_cons,hOf_nil,hOf_cons]
 refine aW_ (s':=⟨ofL [(0,(.sl 9 (rows cReq L))),(1,(.sl 9 (rows cReq M)))],hOf []⟩) ?_ ?_
 · cases h_L <;> cases h_M <;> exact wO_ [] (by simp [go_sem]) (by simp [go_sem]) (by simp [go_sem])
 clear h_L h_M
 refine aQ_ ?_
 iterate 1
  refine oC_ fun J hJ=>?_
  simp [go_sem]
  refine hJ _ _ _ ?_
 refine oN_ ?_
 refine aS_ fun K2 hK2=>?_
 refine aQ_ ?_
 iterate 5
  refine oC_ fun J hJ=>?_
  simp [go_sem]
  refine hJ _ _ _ ?_
 refine oN_ ?_
 refine aC_ (t:=_) rfl (fun c4=>?_) (fun c4=>?_)
 ·
  simp [go_sem] at c4
  have hne:L ≠ M:=fun h=>c4 (by rw [h])
  refine aQ_ ?_
  iterate 1
   refine oC_ fun J hJ=>?_
   simp [go_sem]
   refine hJ _ _ _ ?_
  refine oN_ ?_
  refine aE_ ?_
  refine fQ_ [] ?_
  simp [go_sem,Try.f55,hne]
 ·
  simp [go_sem] at c4
  refine aK_ ?_
  refine hK2 _ ?_
  refine aS_ fun K6 hK6=>?_
  refine aQ_ ?_
  iterate 3
   refine oC_ fun J hJ=>?_
   simp [go_sem]
   refine hJ _ _ _ ?_
  refine oN_ ?_
  refine aB_ ?_
  refine aL_ (ι:={ q:List Req × List Req × List Req // q.1++q.2.1=L/\q.1++q.2.2=M }) (fun q=>eqReqI L M q.1.1 q.1.2.1 q.1.2.2) (fun q=>q.1.2.1.length) ⟨([],L,M),rfl,rfl⟩ ?_ ?_
  · refine wO_ [] (by simp [go_sem]) ?_ ?_ <;> simp [go_sem]
  intro ⟨⟨pre,post,p2⟩,hl,hgo⟩
  simp only at hl hgo
  have hpl:=lS_ hl hL
  simp only [eqReqI]
  refine aQ_ ?_
  iterate 1
   refine oC_ fun J hJ=>?_
   simp [go_sem]
   refine hJ _ _ _ ?_
  refine oN_ ?_
  refine aS_ fun K9 hK9=>?_
  refine aC_ (t:=_) rfl (fun c10=>?_) (fun c10=>?_)
  ·
   simp [go_sem] at c10
   obtain ⟨x,post,rfl,hx⟩:=mL_ hl c10
   obtain ⟨y,p2,rfl,hy⟩:=mL_ hgo (by omega)
   refine aK_ ?_
   refine hK9 _ ?_
   refine aS_ fun K11 hK11=>?_
   refine aB_ ?_
   refine aQ_ ?_
   iterate 2
    refine oC_ fun J hJ=>?_
    simp [go_sem]
    refine hJ _ _ _ ?_
   refine oN_ ?_
   refine aU_ ?_
   iterate 9
    refine oC_ fun J hJ=>?_
    simp [go_sem,hx,hy]
    refine hJ _ _ _ ?_
   refine oN_ ?_
   refine ⟨rfl,?_⟩
   refine aC_ (t:=_) rfl (fun c14=>?_) (fun c14=>?_)
   ·
    refine aQ_ ?_
    iterate 1
     refine oC_ fun J hJ=>?_
     simp [go_sem]
     refine hJ _ _ _ ?_
    refine oN_ ?_
    refine aE_ ?_
    have hne:L ≠ M:=by
     rintro rfl
     rw [hx] at hy
     cases hy
     simp at c14
    refine fQ_ [] ?_
    simp [go_sem,Try.f55,hne]
   ·
    refine aK_ ?_
    refine hK11 _ ?_
    refine aR_ ?_
    iterate 2
     refine oC_ fun J hJ=>?_
     simp [go_sem]
     refine hJ _ _ _ ?_
    refine oN_ ?_
    obtain rfl:x=y:=by simpa using c14
    refine ⟨⟨(pre++[x],post,p2),by simp [<-hl],by rw [<-hgo]; simp⟩,?_,by simp⟩
    refine wO_ [] (by simp [go_sem]) ?_ ?_ <;> simp [go_sem,wN_ hpl]
  ·
   simp [go_sem] at c10
   obtain ⟨rfl,rfl⟩:=mN_ hl c10
   obtain rfl:p2=[]:=by have:=congrArg List.length hgo; simp at this; exact List.eq_nil_of_length_eq_zero (by omega)
   simp at hgo
   refine aX_ ?_
   simp only [go_sem]
   refine hK6 _ ?_
   refine aQ_ ?_
   iterate 1
    refine oC_ fun J hJ=>?_
    simp [go_sem]
    refine hJ _ _ _ ?_
   refine oN_ ?_
   refine aE_ ?_
   refine fQ_ [] ?_
   simp [go_sem,Try.f55,hgo]
end Go.Proofs.Ytjoaigccapegpaa.AE
