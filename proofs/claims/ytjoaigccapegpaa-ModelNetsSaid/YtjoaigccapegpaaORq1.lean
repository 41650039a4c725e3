/-
 Keys of requests: contracts, first part. Conditions: none; every contract names its own.
-/
import Derived.Test.YtjoaigccapegpaaPe
import Derived.Test.YtjoaigccapegpaaOSm4
set_option linter.constructorNameAsVariable false
namespace Go.Proofs.Ytjoaigccapegpaa.AE
open Go Go.Proofs Go.RowKit
set_option linter.unusedVariables false
set_option linter.unusedSimpArgs false
set_option maxRecDepth 100000
set_option maxHeartbeats 4000000
@[go_sem high] theorem key_zero:[AV.int .i64 0,.int .i64 0,.int .i64 0,.bool false]=cKey zKey:=rfl
@[go_sem high] theorem req_zero:[AV.int .i64 0,.int .i64 0,.int .i64 0,.bool false,.int .i64 0,.int .i64 0,.int .i64 0,.int .i64 0,.int .i64 0]=cReq zReq:=rfl
def ordKey (a b:Key):Int:=orL [ordId a.id b.id,cmpI a.ord b.ord]
def lessKey (a b:Key):Bool:=if ordKey a b ≠ 0 then decide (ordKey a b < 0) else (!a.undo && b.undo)
def lexKey (a b:Key):Prop:=a.id.seq < b.id.seq\/(a.id.seq=b.id.seq/\(a.id.rep < b.id.rep\/(a.id.rep=b.id.rep/\(a.ord < b.ord\/(a.ord=b.ord/\a.undo=false/\b.undo=true)))))
theorem lessKey_iff (a b:Key):lessKey a b=true ↔ lexKey a b:=by
 obtain ⟨⟨r,s⟩,n,u⟩:=a
 obtain ⟨⟨r',s'⟩,n',u'⟩:=b
 simp only [lessKey,lexKey,ordKey,ordId,orL,cmpI]
 rcases Int.lt_trichotomy s s' with h1 | h1 | h1 <;> rcases Int.lt_trichotomy r r' with h2 | h2 | h2 <;> rcases Int.lt_trichotomy n n' with h3 | h3 | h3 <;> simp [h1,h2,h3,Int.lt_asymm,Int.lt_irrefl] <;> first | omega | skip
def lessIdR (a b:Id):Bool:=decide (a.seq < b.seq\/a.seq=b.seq/\a.rep < b.rep)
def lessKeyR (a b:Key):Bool:=if a.id ≠ b.id then lessIdR a.id b.id else decide (a.ord < b.ord\/(a.ord=b.ord/\a.undo=false/\b.undo=true))
theorem lessKeyR_eq (a b:Key):lessKeyR a b=lessKey a b:=by
 rw [Bool.eq_iff_iff,lessKey_iff]
 obtain ⟨⟨r,s⟩,n,u⟩:=a
 obtain ⟨⟨r',s'⟩,n',u'⟩:=b
 simp only [lessKeyR,lessIdR,lexKey]
 by_cases h:r=r'/\s=s'
 ·
  obtain ⟨rfl,rfl⟩:=h
  simp
 ·
  rw [if_pos (by simp; omega)]
  simp
  omega
def ordReq (a b:Req):Int:=if lessKey a.key b.key=true then -1 else if lessKey b.key a.key=true then 1 else 0
theorem ordReq_neg (a b:Req):ordReq a b < 0 ↔ lexKey a.key b.key:=by
 rw [<-lessKey_iff]
 unfold ordReq
 split
 · simp [*]
 · split <;> simp [*]
theorem ordr_req:Ordr ordReq:=by
 constructor
 ·
  intro x y z
  rw [ordReq_neg,ordReq_neg,ordReq_neg]
  obtain ⟨⟨⟨a,b⟩,c,d⟩,_⟩:=x
  obtain ⟨⟨⟨e,f⟩,g,h⟩,_⟩:=y
  obtain ⟨⟨⟨i,j⟩,k,l⟩,_⟩:=z
  simp only [lexKey]
  cases d <;> cases h <;> cases l <;> simp <;> omega
 ·
  intro x y
  rw [ordReq_neg,ordReq_neg]
  obtain ⟨⟨⟨a,b⟩,c,d⟩,_⟩:=x
  obtain ⟨⟨⟨e,f⟩,g,h⟩,_⟩:=y
  simp only [lexKey]
  cases d <;> cases h <;> simp <;> omega
def other (k:Key):Key:={ k with undo:=!k.undo }
structure lessKeyX where
 a:Key
 b:Key
noncomputable def lessKeyS:HSpec:=mkH (ι:=lessKeyX) (fun ⟨a,b⟩=>([.agg (cKey a),.agg (cKey b)],[])) fun ⟨a,b⟩=>⟨.bool (lessKey a b),[],[]⟩
theorem lessKeyS_atG (a:Key) (b:Key):lessKeyS [.agg (cKey a),.agg (cKey b)] []=some (⟨.bool (lessKey a b),[],[]⟩):=
 mA_ (ι:=lessKeyX) (fun i j h=>by obtain ⟨a,b⟩:=i; obtain ⟨a2,b2⟩:=j; simp [and_assoc,qB_,qI_,qO_,qC_,qE_,qK_,qR_,qV_,qP_,qOc_] at h; obtain ⟨rfl,rfl⟩:=h; rfl) ⟨a,b⟩
theorem lessKeyS_at (a:Key) (b:Key):lessKeyS [.agg (cKey a),.agg (cKey b)] []=some (⟨.bool (lessKey a b),[],[]⟩):=lessKeyS_atG a b
theorem lessKey_ok:HSound Try.prog 77 lessKeyS:=by
 refine sE_ (fn:=Try.f77) rfl rfl (by kernel_rfl) fun args bx hr hS=>?_
 obtain ⟨⟨a,b⟩,rfl,rfl,rfl⟩:=mO_ hS
 clear hS
 refine ⟨_,(eV_ (g:=97) (by kernel_rfl) ordId_ok (eV_ (g:=98) (by kernel_rfl) cmp_ok (eV_ (g:=96) (by kernel_rfl) or_ok (eN_ _)))),by simp [Try.f77],by simp [go_sem],fun w Mx pin=>?_⟩
 simp only [hB_at,lab_nil,lab_cons,hOf_nil,hOf_cons]
 obtain ⟨n,hn⟩:∃ n,n=ordKey a b:=⟨_,rfl⟩
 have hk:orL [ordId a.id b.id,cmpI a.ord b.ord]=n:=hn.symm
 refine aQ_ ?_
 iterate 3
  refine oC_ fun J hJ=>?_
  simp [go_sem]
  refine hJ _ _ _ ?_
 refine oN_ ?_
 refine aS_ fun K2 hK2=>?_
 refine aS_ fun K3 hK3=>?_
 by_cases h0:n=0
 ·
  have hl:lessKey a b=(!a.undo && b.undo):=by rw [lessKey,<-hn,if_neg (by simp [h0])]
  refine aD_ ?_
  iterate 13
   refine oC_ fun J hJ=>?_
   simp [go_sem,ordIdS_at,cmpS_at,orS_at [ordId a.id b.id,cmpI a.ord b.ord] (by simp)]
   refine hJ _ _ _ ?_
  refine oN_ ?_
  refine ⟨rfl,?_⟩
  refine hK3 _ ?_
  refine aQ_ ?_
  iterate 2
   refine oC_ fun J hJ=>?_
   simp [go_sem,hk,h0]
   refine hJ _ _ _ ?_
  refine oN_ ?_
  refine aF_ rfl ?_
  refine aK_ ?_
  refine hK2 _ ?_
  refine aS_ fun K7 hK7=>?_
  cases hu:a.undo
  ·
   refine aR_ ?_
   iterate 8
    refine oC_ fun J hJ=>?_
    simp [go_sem,hu]
    refine hJ _ _ _ ?_
   refine oN_ ?_
   refine hK7 _ ?_
   refine aE_ ?_
   refine fQ_ [] ?_
   simp [go_sem,Try.f77,hl,hu]
  ·
   refine aR_ ?_
   iterate 8
    refine oC_ fun J hJ=>?_
    simp [go_sem,hu]
    refine hJ _ _ _ ?_
   refine oN_ ?_
   refine hK7 _ ?_
   refine aE_ ?_
   refine fQ_ [] ?_
   simp [go_sem,Try.f77,hl,hu]
 ·
  have hl:lessKey a b=decide (n < 0):=by rw [lessKey,<-hn,if_pos h0]
  have h1:(n != 0)=true:=by simp [h0]
  refine aD_ ?_
  iterate 13
   refine oC_ fun J hJ=>?_
   simp [go_sem,ordIdS_at,cmpS_at,orS_at [ordId a.id b.id,cmpI a.ord b.ord] (by simp)]
   refine hJ _ _ _ ?_
  refine oN_ ?_
  refine ⟨rfl,?_⟩
  refine hK3 _ ?_
  refine aQ_ ?_
  iterate 2
   refine oC_ fun J hJ=>?_
   simp [go_sem,hk,h1]
   refine hJ _ _ _ ?_
  refine oN_ ?_
  refine aT_ rfl ?_
  refine aQ_ ?_
  iterate 3
   refine oC_ fun J hJ=>?_
   simp [go_sem,hk]
   refine hJ _ _ _ ?_
  refine oN_ ?_
  refine aE_ ?_
  refine fQ_ [] ?_
  simp [go_sem,Try.f77,hl]
structure lessIdRX where
 a:Id
 b:Id
noncomputable def lessIdRS:HSpec:=mkH (ι:=lessIdRX) (fun ⟨a,b⟩=>([.agg (cId a),.agg (cId b)],[])) fun ⟨a,b⟩=>⟨.bool (lessIdR a b),[],[]⟩
theorem lessIdRS_atG (a:Id) (b:Id):lessIdRS [.agg (cId a),.agg (cId b)] []=some (⟨.bool (lessIdR a b),[],[]⟩):=
 mA_ (ι:=lessIdRX) (fun i j h=>by obtain ⟨a,b⟩:=i; obtain ⟨a2,b2⟩:=j; simp [and_assoc,qB_,qI_,qO_,qC_,qE_,qK_,qR_,qV_,qP_,qOc_] at h; obtain ⟨rfl,rfl⟩:=h; rfl) ⟨a,b⟩
theorem lessIdRS_at (a:Id) (b:Id):lessIdRS [.agg (cId a),.agg (cId b)] []=some (⟨.bool (lessIdR a b),[],[]⟩):=lessIdRS_atG a b
theorem lessIdR_ok:HSound Try.prog 99 lessIdRS:=by
 refine sE_ (fn:=Try.f99) rfl rfl (by kernel_rfl) fun args bx hr hS=>?_
 obtain ⟨⟨a,b⟩,rfl,rfl,rfl⟩:=mO_ hS
 clear hS
 refine ⟨_,(eN_ _),by simp [Try.f99],by simp [go_sem],fun w Mx pin=>?_⟩
 simp only [hB_at,lab_nil,lab_cons,hOf_nil,hOf_cons]
 refine aQ_ ?_
 iterate 3
  refine oC_ fun J hJ=>?_
  simp [go_sem]
  refine hJ _ _ _ ?_
 refine oN_ ?_
 refine aS_ fun K2 hK2=>?_
 rcases (show a.seq < b.seq\/(¬ a.seq < b.seq/\(a.seq == b.seq)=true)\/(¬ a.seq < b.seq/\(a.seq == b.seq)=false) by simp; omega) with h1 | ⟨h1,h2⟩ | ⟨h1,h2⟩
 ·
  have hl:lessIdR a b=true:=by simp [lessIdR,h1]
  refine aR_ ?_
  iterate 20
   refine oC_ fun J hJ=>?_
   simp [go_sem,h1]
   refine hJ _ _ _ ?_
  refine oN_ ?_
  refine hK2 _ ?_
  refine aE_ ?_
  refine fQ_ [] ?_
  simp [go_sem,Try.f99,hl]
 ·
  have hl:lessIdR a b=decide (a.rep < b.rep):=by have h3:=h2; simp only [beq_iff_eq] at h3; simp [lessIdR,h3]
  refine aR_ ?_
  iterate 20
   refine oC_ fun J hJ=>?_
   simp [go_sem,h1,h2]
   refine hJ _ _ _ ?_
  refine oN_ ?_
  refine hK2 _ ?_
  refine aE_ ?_
  refine fQ_ [] ?_
  simp [go_sem,Try.f99,hl]
 ·
  have hl:lessIdR a b=false:=by have h3:=h2; simp only [beq_eq_false_iff_ne] at h3; simp [lessIdR]; omega
  refine aR_ ?_
  iterate 20
   refine oC_ fun J hJ=>?_
   simp [go_sem,h1,h2]
   refine hJ _ _ _ ?_
  refine oN_ ?_
  refine hK2 _ ?_
  refine aE_ ?_
  refine fQ_ [] ?_
  simp [go_sem,Try.f99,hl]
structure lessKeyRX where
 a:Key
 b:Key
noncomputable def lessKeyRS:HSpec:=mkH (ι:=lessKeyRX) (fun ⟨a,b⟩=>([.agg (cKey a),.agg (cKey b)],[])) fun ⟨a,b⟩=>⟨.bool (lessKeyR a b),[],[]⟩
theorem lessKeyRS_atG (a:Key) (b:Key):lessKeyRS [.agg (cKey a),.agg (cKey b)] []=some (⟨.bool (lessKeyR a b),[],[]⟩):=
 mA_ (ι:=lessKeyRX) (fun i j h=>by obtain ⟨a,b⟩:=i; obtain ⟨a2,b2⟩:=j; simp [and_assoc,qB_,qI_,qO_,qC_,qE_,qK_,qR_,qV_,qP_,qOc_] at h; obtain ⟨rfl,rfl⟩:=h; rfl) ⟨a,b⟩
theorem lessKeyRS_at (a:Key) (b:Key):lessKeyRS [.agg (cKey a),.agg (cKey b)] []=some (⟨.bool (lessKeyR a b),[],[]⟩):=lessKeyRS_atG a b
theorem lessKeyR_ok:HSound Try.prog 78 lessKeyRS:=by
 refine sE_ (fn:=Try.f78) rfl rfl (by kernel_rfl) fun args bx hr hS=>?_
 obtain ⟨⟨a,b⟩,rfl,rfl,rfl⟩:=mO_ hS
 clear hS
 refine ⟨_,(eV_ (g:=99) (by kernel_rfl) lessIdR_ok (eN_ _)),by simp [Try.f78],by simp [go_sem],fun w Mx pin=>?_⟩
 simp only [hB_at,lab_nil,lab_cons,hOf_nil,hOf_cons]
 refine aQ_ ?_
 iterate 3
  refine oC_ fun J hJ=>?_
  simp [go_sem]
  refine hJ _ _ _ ?_
 refine oN_ ?_
 refine aS_ fun K2 hK2=>?_
 refine aS_ fun K3 hK3=>?_
 by_cases h0:a.id=b.id
 ·
  refine aR_ ?_
  iterate 5
   refine oC_ fun J hJ=>?_
   simp [go_sem,h0]
   refine hJ _ _ _ ?_
  refine oN_ ?_
  refine hK3 _ ?_
  refine aF_ rfl ?_
  refine aK_ ?_
  refine hK2 _ ?_
  refine aS_ fun K6 hK6=>?_
  rcases (show a.ord < b.ord\/(¬ a.ord < b.ord/\(a.ord == b.ord)=true/\a.undo=false)\/(¬ a.ord < b.ord/\(a.ord == b.ord)=true/\a.undo=true)\/(¬ a.ord < b.ord/\(a.ord == b.ord)=false) by cases a.undo <;> simp <;> omega) with h1 | ⟨h1,h2,hu⟩ | ⟨h1,h2,hu⟩ | ⟨h1,h2⟩
  ·
   have hl:lessKeyR a b=true:=by simp [lessKeyR,h0,h1]
   refine aR_ ?_
   iterate 22
    refine oC_ fun J hJ=>?_
    simp [go_sem,h1]
    refine hJ _ _ _ ?_
   refine oN_ ?_
   refine hK6 _ ?_
   refine aE_ ?_
   refine fQ_ [] ?_
   simp [go_sem,Try.f78,hl]
  ·
   have hl:lessKeyR a b=b.undo:=by have h3:=h2; simp only [beq_iff_eq] at h3; simp [lessKeyR,h0,h3,hu]
   refine aR_ ?_
   iterate 22
    refine oC_ fun J hJ=>?_
    simp [go_sem,h1,h2,hu]
    refine hJ _ _ _ ?_
   refine oN_ ?_
   refine hK6 _ ?_
   refine aE_ ?_
   refine fQ_ [] ?_
   simp [go_sem,Try.f78,hl]
  ·
   have hl:lessKeyR a b=false:=by have h3:=h2; simp only [beq_iff_eq] at h3; simp [lessKeyR,h0,h3,hu]
   refine aR_ ?_
   iterate 22
    refine oC_ fun J hJ=>?_
    simp [go_sem,h1,h2,hu]
    refine hJ _ _ _ ?_
   refine oN_ ?_
   refine hK6 _ ?_
   refine aE_ ?_
   refine fQ_ [] ?_
   simp [go_sem,Try.f78,hl]
  ·
   have hl:lessKeyR a b=false:=by have h3:=h2; simp only [beq_eq_false_iff_ne] at h3; simp [lessKeyR,h0]; omega
   refine aR_ ?_
   iterate 22
    refine oC_ fun J hJ=>?_
    simp [go_sem,h1,h2]
    refine hJ _ _ _ ?_
   refine oN_ ?_
   refine hK6 _ ?_
   refine aE_ ?_
   refine fQ_ [] ?_
   simp [go_sem,Try.f78,hl]
 ·
  have hl:lessKeyR a b=lessIdR a.id b.id:=if_pos h0
  refine aR_ ?_
  iterate 5
   refine oC_ fun J hJ=>?_
   simp [go_sem,h0]
   refine hJ _ _ _ ?_
  refine oN_ ?_
  refine hK3 _ ?_
  refine aT_ rfl ?_
  refine aQ_ ?_
  iterate 6
   refine oC_ fun J hJ=>?_
   simp [go_sem,lessIdRS_at]
   refine hJ _ _ _ ?_
  refine oN_ ?_
  refine aE_ ?_
  refine fQ_ [] ?_
  simp [go_sem,Try.f78,hl]
structure otherFX where
 k:Key
noncomputable def otherFS:HSpec:=mkH (ι:=otherFX) (fun ⟨k⟩=>([.agg (cKey k)],[])) fun ⟨k⟩=>⟨.agg (cKey (other k)),[],[]⟩
theorem otherFS_atG (k:Key):otherFS [.agg (cKey k)] []=some (⟨.agg (cKey (other k)),[],[]⟩):=
 mA_ (ι:=otherFX) (fun i j h=>by obtain ⟨k⟩:=i; obtain ⟨k2⟩:=j; simp [and_assoc,qB_,qI_,qO_,qC_,qE_,qK_,qR_,qV_,qP_,qOc_] at h; obtain rfl:=h; rfl) ⟨k⟩
theorem otherFS_at (k:Key):otherFS [.agg (cKey k)] []=some (⟨.agg (cKey (other k)),[],[]⟩):=otherFS_atG k
theorem otherF_ok:HSound Try.prog 53 otherFS:=by
 refine sE_ (fn:=Try.f53) rfl rfl (by kernel_rfl) fun args bx hr hS=>?_
 obtain ⟨⟨k⟩,rfl,rfl,rfl⟩:=mO_ hS
 clear hS
 refine ⟨_,(eN_ _),by simp [Try.f53],by simp [go_sem],fun w Mx pin=>?_⟩
 simp only [hB_at,lab_nil,lab_cons,hOf_nil,hOf_cons]
 refine aQ_ ?_
 iterate 2
  refine oC_ fun J hJ=>?_
  simp [go_sem]
  refine hJ _ _ _ ?_
 refine oN_ ?_
 refine aQ_ ?_
 iterate 5
  refine oC_ fun J hJ=>?_
  simp [go_sem]
  refine hJ _ _ _ ?_
 refine oN_ ?_
 refine aQ_ ?_
 iterate 2
  refine oC_ fun J hJ=>?_
  simp [go_sem]
  refine hJ _ _ _ ?_
 refine oN_ ?_
 refine aE_ ?_
 refine fQ_ [] ?_
 simp [go_sem,Try.f53,other]
structure otherRX where
 k:Key
noncomputable def otherRS:HSpec:=mkH (ι:=otherRX) (fun ⟨k⟩=>([.agg (cKey k)],[])) fun ⟨k⟩=>⟨.agg (cKey (other k)),[],[]⟩
theorem otherRS_atG (k:Key):otherRS [.agg (cKey k)] []=some (⟨.agg (cKey (other k)),[],[]⟩):=
 mA_ (ι:=otherRX) (fun i j h=>by obtain ⟨k⟩:=i; obtain ⟨k2⟩:=j; simp [and_assoc,qB_,qI_,qO_,qC_,qE_,qK_,qR_,qV_,qP_,qOc_] at h; obtain rfl:=h; rfl) ⟨k⟩
theorem otherRS_at (k:Key):otherRS [.agg (cKey k)] []=some (⟨.agg (cKey (other k)),[],[]⟩):=otherRS_atG k
theorem otherR_ok:HSound Try.prog 28 otherRS:=by
 refine sE_ (fn:=Try.f28) rfl rfl (by kernel_rfl) fun args bx hr hS=>?_
 obtain ⟨⟨k⟩,rfl,rfl,rfl⟩:=mO_ hS
 clear hS
 refine ⟨_,(eN_ _),by simp [Try.f28],by simp [go_sem],fun w Mx pin=>?_⟩
 simp only [hB_at,lab_nil,lab_cons,hOf_nil,hOf_cons]
 refine aQ_ ?_
 iterate 2
  refine oC_ fun J hJ=>?_
  simp [go_sem]
  refine hJ _ _ _ ?_
 refine oN_ ?_
 refine aQ_ ?_
 iterate 9
  refine oC_ fun J hJ=>?_
  simp [go_sem]
  refine hJ _ _ _ ?_
 refine oN_ ?_
 refine aE_ ?_
 refine fQ_ [] ?_
 simp [go_sem,Try.f28,other]
structure ordReqX where
 a:Req
 b:Req
noncomputable def ordReqS:HSpec:=mkH (ι:=ordReqX) (fun ⟨a,b⟩=>([.agg (cReq a),.agg (cReq b)],[])) fun ⟨a,b⟩=>⟨.int .i64 (ordReq a b),[],[]⟩
theorem ordReqS_atG (a:Req) (b:Req):ordReqS [.agg (cReq a),.agg (cReq b)] []=some (⟨.int .i64 (ordReq a b),[],[]⟩):=
 mA_ (ι:=ordReqX) (fun i j h=>by obtain ⟨a,b⟩:=i; obtain ⟨a2,b2⟩:=j; simp [and_assoc,qB_,qI_,qO_,qC_,qE_,qK_,qR_,qV_,qP_,qOc_] at h; obtain ⟨rfl,rfl⟩:=h; rfl) ⟨a,b⟩
theorem ordReqS_at (a:Req) (b:Req):ordReqS [.agg (cReq a),.agg (cReq b)] []=some (⟨.int .i64 (ordReq a b),[],[]⟩):=ordReqS_atG a b
theorem ordReq_ok:HSound Try.prog 76 ordReqS:=by
 refine sE_ (fn:=Try.f76) rfl rfl (by kernel_rfl) fun args bx hr hS=>?_
 obtain ⟨⟨a,b⟩,rfl,rfl,rfl⟩:=mO_ hS
 clear hS
 refine ⟨_,(eV_ (g:=77) (by kernel_rfl) lessKey_ok (eN_ _)),by simp [Try.f76],by simp [go_sem],fun w Mx pin=>?_⟩
 simp only [hB_at,lab_nil,lab_cons,hOf_nil,hOf_cons]
 refine aQ_ ?_
 iterate 3
  refine oC_ fun J hJ=>?_
  simp [go_sem]
  refine hJ _ _ _ ?_
 refine oN_ ?_
 refine aS_ fun K2 hK2=>?_
 refine aB_ ?_
 refine aS_ fun K3 hK3=>?_
 cases h1:lessKey a.key b.key
 ·
  refine aR_ ?_
  iterate 6
   refine oC_ fun J hJ=>?_
   simp [go_sem,lessKeyS_at,h1]
   refine hJ _ _ _ ?_
  refine oN_ ?_
  refine hK3 _ ?_
  refine aF_ rfl ?_
  refine aS_ fun K6 hK6=>?_
  cases h2:lessKey b.key a.key
  ·
   refine aR_ ?_
   iterate 6
    refine oC_ fun J hJ=>?_
    simp [go_sem,lessKeyS_at,h2]
    refine hJ _ _ _ ?_
   refine oN_ ?_
   refine hK6 _ ?_
   refine aF_ rfl ?_
   refine aK_ ?_
   refine hK2 _ ?_
   refine aQ_ ?_
   iterate 1
    refine oC_ fun J hJ=>?_
    simp [go_sem]
    refine hJ _ _ _ ?_
   refine oN_ ?_
   refine aE_ ?_
   refine fQ_ [] ?_
   simp [go_sem,Try.f76,ordReq,h1,h2]
  ·
   refine aR_ ?_
   iterate 6
    refine oC_ fun J hJ=>?_
    simp [go_sem,lessKeyS_at,h2]
    refine hJ _ _ _ ?_
   refine oN_ ?_
   refine hK6 _ ?_
   refine aT_ rfl ?_
   refine aQ_ ?_
   iterate 1
    refine oC_ fun J hJ=>?_
    simp [go_sem]
    refine hJ _ _ _ ?_
   refine oN_ ?_
   refine aE_ ?_
   refine fQ_ [] ?_
   simp [go_sem,Try.f76,ordReq,h1,h2]
 ·
  refine aR_ ?_
  iterate 6
   refine oC_ fun J hJ=>?_
   simp [go_sem,lessKeyS_at,h1]
   refine hJ _ _ _ ?_
  refine oN_ ?_
  refine hK3 _ ?_
  refine aT_ rfl ?_
  refine aQ_ ?_
  iterate 1
   refine oC_ fun J hJ=>?_
   simp [go_sem]
   refine hJ _ _ _ ?_
  refine oN_ ?_
  refine aE_ ?_
  refine fQ_ [] ?_
  simp [go_sem,Try.f76,ordReq,h1]
end Go.Proofs.Ytjoaigccapegpaa.AE
