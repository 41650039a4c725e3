/-
 Requests by keys: contracts. Conditions: none; every contract names its own.
-/
import Derived.Test.YtjoaigccapegpaaORq2
import Derived.Test.YtjoaigccapegpaaOSg3q
import Derived.Test.YtjoaigccapegpaaOFw
import Derived.Test.YtjoaigccapegpaaPj
set_option linter.constructorNameAsVariable false
namespace Go.Proofs.Ytjoaigccapegpaa.AE
open Go Go.Proofs Go.RowKit
set_option linter.unusedVariables false
set_option linter.unusedSimpArgs false
set_option maxRecDepth 100000
set_option maxHeartbeats 4000000
def rputG (y:Req):List Req->Nat->Nat->Nat
 | [],_,k=>k
 | x :: r,n,k=>rputG y r (n + 1) (if lessKey y.key x.key=true then k else n + 1)
def rputL (y:Req) (l:List Req):List Req:=l.take (rputG y l 0 0)++[y]++l.drop (rputG y l 0 0)
theorem rputG_spec (c:Req):∀ (l:List Req) (n k:Nat),(rputG c l n k=k/\∀ x ∈ l,lessKey c.key x.key=true)\/(∃ U x V,l=U++x :: V/\rputG c l n k=n + U.length + 1/\lessKey c.key x.key=false/\∀ y ∈ V,lessKey c.key y.key=true)
 | [],n,k=>.inl ⟨rfl,fun x h=>by simp at h⟩
 | y :: r,n,k=>by
  rcases rputG_spec c r (n + 1) (if lessKey c.key y.key=true then k else n + 1) with ⟨h1,h2⟩ | ⟨U,x,V,h1,h2,h3,h4⟩
  ·
   cases hy:lessKey c.key y.key with
   | true=>
    rw [hy] at h1
    refine .inl ⟨by simpa [rputG,hy] using h1,fun x hx=>?_⟩
    rcases List.mem_cons.1 hx with rfl | hx
    · exact hy
    · exact h2 x hx
   | false=>
    rw [hy] at h1
    exact .inr ⟨[],y,r,rfl,by simpa [rputG,hy] using h1,hy,h2⟩
  · exact .inr ⟨y :: U,x,V,by rw [h1]; rfl,by simp only [rputG,h2,List.length_cons]; omega,h3,h4⟩
theorem rless_iff (a b:Req):lessKey a.key b.key=true ↔ ordReq a b < 0:=by rw [ordReq_neg,lessKey_iff]
theorem rless_not (a b:Req):lessKey a.key b.key=false ↔ ¬ ordReq a b < 0:=by rw [<-rless_iff]; simp
theorem rputL_mrg (c:Req) {X:List Req} (hX:Srt ordReq X):rputL c X=mrg ordReq X [c]:=by
 unfold rputL
 rcases rputG_spec c X 0 0 with ⟨h1,h2⟩ | ⟨U,x,V,rfl,h2,h3,h4⟩
 ·
  rw [h1]
  have:=mrg_one (U:=[]) (V:=X) (y:=c) ordr_req hX (fun u hu=>by simp at hu) (fun v hv=>(rless_iff c v).1 (h2 v hv))
  simp only [List.nil_append] at this
  rw [this]
  simp
 ·
  rw [h2]
  have e:U++x :: V=(U++[x])++V:=by simp
  have hs:=hX
  rw [e] at hs
  have:=mrg_one (U:=U++[x]) (V:=V) (y:=c) ordr_req hs (fun u hu=>by
   rcases List.mem_append.1 hu with hu | hu
   ·
    have h5:=(List.pairwise_append.1 hX).2.2 u hu x (by simp)
    exact ordr_req.tr u x c h5 ((rless_not c x).1 h3)
   ·
    rw [List.mem_singleton.1 hu]
    exact (rless_not c x).1 h3) (fun v hv=>(rless_iff c v).1 (h4 v hv))
  rw [e,this,List.take_left' (by simp),List.drop_left' (by simp)]
  simp
theorem ordL_snocR (l:List Req) (c:Req):rputL c (ordL ordReq l)=ordL ordReq (l++[c]):=by
 rw [rputL_mrg c (ordL_srt ordr_req l),ordL_snoc ordr_req]
def reqW (a:Id):List Eff->Nat->List Req
 | [],_=>[]
 | e :: r,k=>⟨⟨a,(k:Int) + 1,false⟩,e⟩ :: reqW a r (k + 1)
def expA:List Chg->List Outc->List Req
 | c :: cs,x :: os=>reqW c.id (wantE x true) 0++expA cs os
 | _,_=>[]
def expL (L:List Chg):List Req:=expA L (ouL (zBk,[]) L)
theorem reqW_len (a:Id):∀ (w:List Eff) (k:Nat),(reqW a w k).length=w.length
 | [],k=>rfl
 | e :: r,k=>by simp [reqW,reqW_len a r]
theorem reqW_snoc (a:Id):∀ (w:List Eff) (k:Nat) (e:Eff),reqW a (w++[e]) k=reqW a w k++[⟨⟨a,((k + w.length:Nat):Int) + 1,false⟩,e⟩]
 | [],k,e=>rfl
 | x :: r,k,e=>by
  simp only [List.cons_append,reqW,reqW_snoc a r,List.length_cons]
  rw [show k + 1 + r.length=k + (r.length + 1) by omega]
theorem expA_snoc:∀ {cs:List Chg} {os:List Outc} (c:Chg) (x:Outc),cs.length=os.length->expA (cs++[c]) (os++[x])=expA cs os++reqW c.id (wantE x true) 0
 | [],[],c,x,_=>by simp [expA]
 | a :: cs,b :: os,c,x,h=>by simp only [List.cons_append,expA,expA_snoc c x (by simpa using h),List.append_assoc]
 | [],_ :: _,c,x,h=>by simp at h
 | _ :: _,[],c,x,h=>by simp at h
theorem wantsG_all (n:Int):∀ (os:List Outc) (i:Nat),((i + os.length:Nat):Int)<=n->wantsG n os i=os.map fun x=>wantE x true
 | [],i,h=>rfl
 | x :: r,i,h=>by
  simp only [List.length_cons] at h
  have:=wantsG_all n r (i + 1) (by push_cast at h ⊢; omega)
  simp only [wantsG,List.map_cons,this]
  rw [show decide ((i:Int) < n)=true by simp; omega]
theorem wantsL_all (L:List Chg):wantsL L (L.length:Int)=(ouL (zBk,[]) L).map fun x=>wantE x true:=by
 unfold wantsL
 exact wantsG_all _ _ 0 (by rw [ouL_len]; simp)
structure byKeysX where
 L:List Req
 hL:L.length<=100000
noncomputable def byKeysS:HSpec:=mkH (ι:=byKeysX) (fun ⟨L,hL⟩=>([.own (1,0) L.length],[.row 65 9 (rows cReq L) false])) fun ⟨L,hL⟩=>⟨.own (1,0) L.length,[.row 65 9 (rows cReq (ordL ordReq L)) false],[]⟩
theorem byKeysS_atG (L:List Req) (hL:L.length<=100000):byKeysS [.own (1,0) L.length] [.row 65 9 (rows cReq L) false]=some (⟨.own (1,0) L.length,[.row 65 9 (rows cReq (ordL ordReq L)) false],[]⟩):=
 mA_ (ι:=byKeysX) (fun i j h=>by obtain ⟨L,hL⟩:=i; obtain ⟨L2,hL2⟩:=j; simp [and_assoc,qB_,qI_,qO_,qC_,qE_,qK_,qR_,qV_,qP_,qOc_,rows_iff_Req] at h; obtain ⟨_,rfl⟩:=h; rfl) ⟨L,hL⟩
theorem byKeysS_at (L:List Req) (hL:L.length<=100000):byKeysS [.own (1,0) L.length] [.row 65 9 (rows cReq L) false]=some (⟨.own (1,0) L.length,[.row 65 9 (rows cReq (ordL ordReq L)) false],[]⟩):=byKeysS_atG L hL
theorem byKeys_ok:HSound Try.prog 48 byKeysS:=by
 refine sE_ (fn:=Try.f48) rfl rfl (by kernel_rfl) fun args bx hr hS=>?_
 obtain ⟨⟨L,hL⟩,rfl,rfl,rfl⟩:=mO_ hS
 clear hS
 refine ⟨_,(eH_ (g:=75) (by kernel_rfl) soSReq_ok (eN_ _)),by simp [Try.f48],by simp [go_sem,ordL_len],fun w Mx pin=>?_⟩
 simp only [hB_at,lab_nil,lab_cons,hOf_nil,hOf_cons]
 refine aQ_ ?_
 iterate 1
  refine oC_ fun J hJ=>?_
  simp [go_sem]
  refine hJ _ _ _ ?_
 refine oN_ ?_
 refine aQ_ ?_
 iterate 2
  refine oC_ fun J hJ=>?_
  simp [go_sem,soSReq_at L hL]
  refine hJ _ _ _ ?_
 refine oN_ ?_
 refine aQ_ ?_
 iterate 2
  refine oC_ fun J hJ=>?_
  simp [go_sem]
  refine hJ _ _ _ ?_
 refine oN_ ?_
 refine aE_ ?_
 refine fQ_ [((1,0),some (1,0))] ?_
 simp [go_sem,Try.f48,ordL_len]
structure rputX where
 l:List Req
 l':AV
 c:Req
 h_l:SlA 9 cReq l l'
 hL:l.length<=50000
noncomputable def rputS:HSpec:=mkH (ι:=rputX) (fun ⟨l,l',c,h_l,hL⟩=>([l',.agg (cReq c)],[])) fun ⟨l,l',c,h_l,hL⟩=>⟨.own (2,0) (rputL c l).length,[],[.row 65 9 (rows cReq (rputL c l)) false]⟩
theorem rputS_atG (l:List Req) (l':AV) (c:Req) (h_l:SlA 9 cReq l l') (hL:l.length<=50000):rputS [l',.agg (cReq c)] []=some (⟨.own (2,0) (rputL c l).length,[],[.row 65 9 (rows cReq (rputL c l)) false]⟩):=
 mA_ (ι:=rputX) (fun i j h=>by obtain ⟨l,l',c,h_l,hL⟩:=i; obtain ⟨l2,l'2,c2,h_l2,hL2⟩:=j; simp [and_assoc,qB_,qI_,qO_,qC_,qE_,qK_,qR_,qV_,qP_,qOc_] at h; obtain ⟨rfl,rfl⟩:=h; obtain rfl:=SlA.inj (fun x y h=>cReq_inj h) h_l h_l2; rfl) ⟨l,l',c,h_l,hL⟩
theorem rputS_at (l:List Req) (c:Req) (hL:l.length<=50000):rputS [(.sl 9 (rows cReq l)),.agg (cReq c)] []=some (⟨.own (2,0) (rputL c l).length,[],[.row 65 9 (rows cReq (rputL c l)) false]⟩):=rputS_atG l _ c .sl hL
def rputI (l:List Req) (c:Req) (pre _post:List Req) (k:Nat):St:=⟨ofL [(0,.sl 9 (rows cReq l)),(3,.ref (0,48) 0),(5,.int .i64 k),(6,.int .i64 pre.length)],hOf [((0,48),.obj (cReq c))]⟩
theorem rput_ok:HSound Try.prog 50 rputS:=by
 refine sE_ (fn:=Try.f50) rfl rfl (by kernel_rfl) fun args bx hr hS=>?_
 obtain ⟨⟨l,l',c,h_l,hL⟩,rfl,rfl,rfl⟩:=mO_ hS
 clear hS
 refine ⟨_,(eV_ (g:=78) (by kernel_rfl) lessKeyR_ok (eN_ _)),by simp [Try.f50],by simp [go_sem],fun w Mx pin=>?_⟩
 simp only [hB_at,lab_nil,lab_cons,hOf_nil,hOf_cons]
 refine aW_ (s':=⟨ofL [(0,(.sl 9 (rows cReq l))),(1,.agg (cReq c))],hOf []⟩) ?_ ?_
 · cases h_l <;> exact wO_ [] (by simp [go_sem]) (by simp [go_sem]) (by simp [go_sem])
 clear h_l
 have hL1:l.length<=100000:=by omega
 refine aQ_ ?_
 iterate 2
  refine oC_ fun J hJ=>?_
  simp [go_sem]
  refine hJ _ _ _ ?_
 refine oN_ ?_
 refine aQ_ ?_
 iterate 1
  refine oC_ fun J hJ=>?_
  simp [go_sem]
  refine hJ _ _ _ ?_
 refine oN_ ?_
 refine aS_ fun K3 hK3=>?_
 refine aQ_ ?_
 iterate 1
  refine oC_ fun J hJ=>?_
  simp [go_sem]
  refine hJ _ _ _ ?_
 refine oN_ ?_
 refine aB_ ?_
 refine aL_ (ι:={ q:List Req × List Req × Nat // q.1++q.2.1=l/\q.2.2<=q.1.length/\rputG c q.2.1 q.1.length q.2.2=rputG c l 0 0 }) (fun q=>rputI l c q.1.1 q.1.2.1 q.1.2.2) (fun q=>q.1.2.1.length) ⟨([],l,0),rfl,⟨Nat.le_refl _,rfl⟩⟩ ?_ ?_
 · refine wO_ [((0,48),some (0,48))] (by simp [go_sem]) ?_ ?_ <;> simp [go_sem]
 intro ⟨⟨pre,post,k⟩,hl,hgo⟩
 simp only at hl hgo
 have hpl:=lS_ hl hL1
 simp only [rputI]
 refine aS_ fun K5 hK5=>?_
 refine aQ_ ?_
 iterate 4
  refine oC_ fun J hJ=>?_
  simp [go_sem]
  refine hJ _ _ _ ?_
 refine oN_ ?_
 refine aC_ (t:=_) rfl (fun c7=>?_) (fun c7=>?_)
 ·
  simp [go_sem] at c7
  obtain ⟨x,post,rfl,hx⟩:=mL_ hl c7
  refine aK_ ?_
  refine hK5 _ ?_
  refine aS_ fun K8 hK8=>?_
  refine aB_ ?_
  refine aU_ ?_
  iterate 9
   refine oC_ fun J hJ=>?_
   simp [go_sem,hx,lessKeyRS_at,lessKeyR_eq]
   refine hJ _ _ _ ?_
  refine oN_ ?_
  refine ⟨rfl,?_⟩
  refine aC_ (t:=_) rfl (fun c10=>?_) (fun c10=>?_)
  ·
   simp [go_sem] at c10
   refine aR_ ?_
   iterate 3
    refine oC_ fun J hJ=>?_
    simp [go_sem,wN_ hpl]
    refine hJ _ _ _ ?_
   refine oN_ ?_
   refine hK8 _ ?_
   refine aR_ ?_
   iterate 3
    refine oC_ fun J hJ=>?_
    simp [go_sem]
    refine hJ _ _ _ ?_
   refine oN_ ?_
   refine ⟨⟨(pre++[x],post,(if lessKey c.key x.key=true then k else pre.length + 1)),by simp [<-hl],by exact ⟨by simp; split <;> omega,by rw [<-hgo.2]; simp [rputG]⟩⟩,?_,by simp⟩
   refine wO_ [((0,48),some (0,48))] (by simp [go_sem]) ?_ ?_ <;> simp [go_sem,wN_ hpl,c10]
  ·
   simp [go_sem] at c10
   refine aK_ ?_
   refine hK8 _ ?_
   refine aR_ ?_
   iterate 3
    refine oC_ fun J hJ=>?_
    simp [go_sem]
    refine hJ _ _ _ ?_
   refine oN_ ?_
   refine ⟨⟨(pre++[x],post,(if lessKey c.key x.key=true then k else pre.length + 1)),by simp [<-hl],by exact ⟨by simp; split <;> omega,by rw [<-hgo.2]; simp [rputG]⟩⟩,?_,by simp⟩
   refine wO_ [((0,48),some (0,48))] (by simp [go_sem]) ?_ ?_ <;> simp [go_sem,wN_ hpl,c10]
 ·
  simp [go_sem] at c7
  obtain ⟨rfl,rfl⟩:=mN_ hl c7
  obtain ⟨hk,hgo⟩:=hgo
  simp only [rputG] at hgo
  refine aX_ ?_
  simp only [go_sem]
  refine hK3 _ ?_
  refine aQ_ ?_
  iterate 1
   refine oC_ fun J hJ=>?_
   simp [go_sem]
   refine hJ _ _ _ ?_
  refine oN_ ?_
  refine aQ_ ?_
  iterate 6
   refine oC_ fun J hJ=>?_
   simp [go_sem,hk,Nat.min_eq_left hk,show (k) * 72<=140737488355328 by omega,show k<=maxLen by (simp only [maxLen]; omega)]
   refine hJ _ _ _ ?_
  refine oN_ ?_
  refine aQ_ ?_
  iterate 5
   refine oC_ fun J hJ=>?_
   simp [go_sem,Nat.min_eq_left hk,show (k + 1) * 72<=140737488355328 by omega,show k + 1<=maxLen by (simp only [maxLen]; omega)]
   refine hJ _ _ _ ?_
  refine oN_ ?_
  refine aQ_ ?_
  iterate 6
   refine oC_ fun J hJ=>?_
   simp [go_sem,hk,Nat.min_eq_left hk,show (k + 1 + (l.length - k)) * 72<=140737488355328 by omega,show k + 1 + (l.length - k)<=maxLen by (simp only [maxLen]; omega)]
   refine hJ _ _ _ ?_
  refine oN_ ?_
  refine aE_ ?_
  have hp:rputL c l=l.take k++[c]++l.drop k:=by
   unfold rputL
   rw [<-hgo]
  have ht:List.take (k + 1) (List.take k (List.take k l)++[c])=List.take k l++[c]:=by
   rw [List.take_take,Nat.min_self]
   exact List.take_of_length_le (by simp; omega)
  refine fQ_ [((2,0),some (0,608))] ?_
  simp [go_sem,Try.f50,hp,ht,Nat.min_eq_left hk]
  try omega
end Go.Proofs.Ytjoaigccapegpaa.AE
