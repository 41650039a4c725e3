/-
 model.Net. Conditions: none; every contract names its own.
-/
import Derived.Test.YtjoaigccapegpaaORq5
import Derived.Test.YtjoaigccapegpaaOAEp
set_option linter.constructorNameAsVariable false
namespace Go.Proofs.Ytjoaigccapegpaa.AE
open Go Go.Proofs Go.RowKit
set_option linter.unusedVariables false
set_option linter.unusedSimpArgs false
set_option maxRecDepth 100000
set_option maxHeartbeats 4000000
theorem idM:IdMap Try.prog 99 28 3:=idMap_of (by kernel_rfl) Try.underlying28 rfl rfl (by kernel_rfl) (by kernel_rfl) (by kernel_rfl) (by kernel_rfl)
theorem flat_req (L:List Req):flatV (.sl 9 (rows cReq L))=true:=by simp [flatV,rows,cReq_light]
theorem flatB_req (n:Nat) (e:TypeId) (z:Bool) (L:List Req):flatB (.row e n (rows cReq L) z)=true:=by simp [flatB,rows,cReq_light]
theorem flatB_obj (x:Req):flatB (.obj (cReq x))=true:=cReq_light x
@[go_sem] theorem mkE_nil (i:Nat):(mkE [] i).toArray=#[]:=rfl
def cntOK (m:CM) (A:List Req):Prop:=∀ a:Id,getM m (a.rep,a.seq)=(cntId a A:Int)
theorem cntOK_nil:cntOK [] []:=fun a=>rfl
theorem cntOK_snoc {m:CM} {A:List Req} (h:cntOK m A) (a:Id) (n:Int) (e:Eff):cntOK (updM m (a.rep,a.seq) ((cntId a A:Int) + 1)) (A++[⟨⟨a,n,false⟩,e⟩]):=by
 intro b
 rw [getM_upd,cntId_snoc,h b]
 obtain ⟨r,s⟩:=a
 obtain ⟨r',s'⟩:=b
 by_cases hq:r'=r/\s'=s
 ·
  obtain ⟨rfl,rfl⟩:=hq
  simp
 ·
  rw [if_neg (by simpa using hq),if_neg (by simp; omega)]
  simp
def netMs (Am:List Req × CM) (q:Req) (r:List Req):List Req × CM:=(netS Am.1 q r,if lostQ q r=true then Am.2 else updM Am.2 (q.key.id.rep,q.key.id.seq) ((cntId q.key.id Am.1:Int) + 1))
theorem netMs_keep {Am:List Req × CM} (h:cntOK Am.2 Am.1) (q:Req) (r:List Req):cntOK (netMs Am q r).2 (netMs Am q r).1:=by
 unfold netMs netS
 split
 · exact h
 · exact cntOK_snoc h _ _ _
def netMI (l:List Req) (g:Nat) (pre _post:List Req) (Am:List Req × CM):St:=⟨ofL [(0,.sl 9 (rows cReq l)),(3,.mpv g (mkE Am.2 0).toArray Am.2.length),(4,.own (0,999) Am.1.length),(9,.sl 9 (rows cReq l)),(10,.int .i64 l.length),(11,.int .i64 pre.length)],hOf [((0,999),.row 65 9 (rows cReq Am.1) false)]⟩
theorem req_ord (x:Req) (n:Int) (h:x.key.undo=false):cReq { key:={ id:=x.key.id,ord:=n,undo:=x.key.undo },what:=x.what }=cReq ⟨⟨x.key.id,n,false⟩,x.what⟩:=by rw [h]
structure isUnX where
 x:Req
 y:Req
noncomputable def isUnS:HSpec:=mkH (ι:=isUnX) (fun ⟨x,y⟩=>([.agg (cReq x),.iref (cReq y) 0],[])) fun ⟨x,y⟩=>⟨.bool (isUn y x),[],[]⟩
theorem isUnS_atG (x:Req) (y:Req):isUnS [.agg (cReq x),.iref (cReq y) 0] []=some (⟨.bool (isUn y x),[],[]⟩):=
 mA_ (ι:=isUnX) (fun i j h=>by obtain ⟨x,y⟩:=i; obtain ⟨x2,y2⟩:=j; simp [and_assoc,qB_,qI_,qO_,qC_,qE_,qK_,qR_,qV_,qP_,qOc_] at h; obtain ⟨rfl,rfl⟩:=h; rfl) ⟨x,y⟩
theorem isUnS_at (x:Req) (y:Req):isUnS [.agg (cReq x),.iref (cReq y) 0] []=some (⟨.bool (isUn y x),[],[]⟩):=isUnS_atG x y
theorem isUn_ok:HSound Try.prog 52 isUnS:=by
 refine sE_ (fn:=Try.f52) rfl rfl (by kernel_rfl) fun args bx hr hS=>?_
 obtain ⟨⟨x,y⟩,rfl,rfl,rfl⟩:=mO_ hS
 clear hS
 refine ⟨_,(eV_ (g:=53) (by kernel_rfl) otherF_ok (eN_ _)),by simp [Try.f52],by simp [go_sem],fun w Mx pin=>?_⟩
 simp only [hB_at,lab_nil,lab_cons,hOf_nil,hOf_cons]
 refine aQ_ ?_
 iterate 2
  refine oC_ fun J hJ=>?_
  simp [go_sem]
  refine hJ _ _ _ ?_
 refine oN_ ?_
 refine aU_ ?_
 iterate 7
  refine oC_ fun J hJ=>?_
  simp [go_sem,otherFS_at]
  refine hJ _ _ _ ?_
 refine oN_ ?_
 refine ⟨rfl,?_⟩
 refine aE_ ?_
 refine fQ_ [] ?_
 simp [go_sem,Try.f52,isUn]
structure contUnX where
 l:List Req
 l':AV
 y:Req
 h_l:SlA 9 cReq l l'
 hL:l.length<=100000
noncomputable def contUnS:HSpec:=mkH (ι:=contUnX) (fun ⟨l,l',y,h_l,hL⟩=>([l',.fn 52 [.iref (cReq y) 0]],[])) fun ⟨l,l',y,h_l,hL⟩=>⟨.bool (l.any (isUn y)),[],[]⟩
theorem contUnS_atG (l:List Req) (l':AV) (y:Req) (h_l:SlA 9 cReq l l') (hL:l.length<=100000):contUnS [l',.fn 52 [.iref (cReq y) 0]] []=some (⟨.bool (l.any (isUn y)),[],[]⟩):=
 mA_ (ι:=contUnX) (fun i j h=>by obtain ⟨l,l',y,h_l,hL⟩:=i; obtain ⟨l2,l'2,y2,h_l2,hL2⟩:=j; simp [and_assoc,qB_,qI_,qO_,qC_,qE_,qK_,qR_,qV_,qP_,qOc_] at h; obtain ⟨rfl,rfl⟩:=h; obtain rfl:=SlA.inj (fun x y h=>cReq_inj h) h_l h_l2; rfl) ⟨l,l',y,h_l,hL⟩
theorem contUnS_at (l:List Req) (y:Req) (hL:l.length<=100000):contUnS [(.sl 9 (rows cReq l)),.fn 52 [.iref (cReq y) 0]] []=some (⟨.bool (l.any (isUn y)),[],[]⟩):=contUnS_atG l _ y .sl hL
theorem contUn_ok:HSound Try.prog 51 contUnS:=by
 refine sE_ (fn:=Try.f51) rfl rfl (by kernel_rfl) fun args bx hr hS=>?_
 obtain ⟨⟨l,l',y,h_l,hL⟩,rfl,rfl,rfl⟩:=mO_ hS
 clear hS
 refine ⟨_,(eV_ (g:=79) (by kernel_rfl) (indexReq_ok 52 [.iref (cReq y) 0] (isUn y) isUnS (by kernel_rfl) isUn_ok (fun x=>isUnS_at x y) (fun H=>by simp [go_sem]) (fun H0 H=>by simp [go_sem])) (eN_ _)),by simp [Try.f51],by simp [go_sem],fun w Mx pin=>?_⟩
 simp only [hB_at,lab_nil,lab_cons,hOf_nil,hOf_cons]
 refine aW_ (s':=⟨ofL [(0,(.sl 9 (rows cReq l))),(1,.fn 52 [.iref (cReq y) 0])],hOf []⟩) ?_ ?_
 · cases h_l <;> exact wO_ [] (by simp [go_sem]) (by simp [go_sem]) (by simp [go_sem])
 clear h_l
 refine aQ_ ?_
 iterate 1
  refine oC_ fun J hJ=>?_
  simp [go_sem]
  refine hJ _ _ _ ?_
 refine oN_ ?_
 refine aQ_ ?_
 iterate 5
  refine oC_ fun J hJ=>?_
  simp [go_sem,indexReqS_at _ _ (isUn y) l hL]
  refine hJ _ _ _ ?_
 refine oN_ ?_
 refine aE_ ?_
 refine fQ_ [] ?_
 have hq:=any_ge0 (isUn y) l 0
 simp [go_sem,Try.f51]
 exact Bool.eq_iff_iff.2 (by simpa using hq)
structure netMX where
 l:List Req
 l':AV
 h_l:SlA 9 cReq l l'
 hL:l.length<=40000
noncomputable def netMS:HSpec:=mkH (ι:=netMX) (fun ⟨l,l',h_l,hL⟩=>([l'],[])) fun ⟨l,l',h_l,hL⟩=>⟨.own (2,0) (netL l).length,[],[.row 65 9 (rows cReq (ordL ordReq (netL l))) false]⟩
theorem netMS_atG (l:List Req) (l':AV) (h_l:SlA 9 cReq l l') (hL:l.length<=40000):netMS [l'] []=some (⟨.own (2,0) (netL l).length,[],[.row 65 9 (rows cReq (ordL ordReq (netL l))) false]⟩):=
 mA_ (ι:=netMX) (fun i j h=>by obtain ⟨l,l',h_l,hL⟩:=i; obtain ⟨l2,l'2,h_l2,hL2⟩:=j; simp [and_assoc,qB_,qI_,qO_,qC_,qE_,qK_,qR_,qV_,qP_,qOc_] at h; obtain rfl:=h; obtain rfl:=SlA.inj (fun x y h=>cReq_inj h) h_l h_l2; rfl) ⟨l,l',h_l,hL⟩
theorem netMS_at (l:List Req) (hL:l.length<=40000):netMS [(.sl 9 (rows cReq l))] []=some (⟨.own (2,0) (netL l).length,[],[.row 65 9 (rows cReq (ordL ordReq (netL l))) false]⟩):=netMS_atG l _ .sl hL
theorem netM_ok:HSound Try.prog 22 netMS:=by
  refine sE_ (fn:=Try.f22) rfl rfl (by kernel_rfl) fun args bx hr hS=>?_
  obtain ⟨⟨l,l',h_l,hL⟩,rfl,rfl,rfl⟩:=mO_ hS
  clear hS
  refine ⟨_,(eV_ (g:=51) (by kernel_rfl) contUn_ok (eH_ (g:=48) (by kernel_rfl) byKeys_ok (eN_ _))),by simp [Try.f22],by simp [go_sem],fun w Mx pin=>?_⟩
  simp only [hB_at,lab_nil,lab_cons,hOf_nil,hOf_cons]
  refine aW_ (s':=⟨ofL [(0,(.sl 9 (rows cReq l)))],hOf []⟩) ?_ ?_
  · cases h_l <;> exact wO_ [] (by simp [go_sem]) (by simp [go_sem]) (by simp [go_sem])
  clear h_l
  have hL1:l.length<=100000:=by omega
  refine aQ_ ?_
  iterate 1
    refine oC_ fun J hJ=>?_
    simp [go_sem]
    refine hJ _ _ _ ?_
  refine oN_ ?_
  refine aS_ fun K2 hK2=>?_
  refine awp_regionW ?_
  refine opsW_mkmap rfl rfl fun g hg0=>?_
  refine opsW_cons fun J hJ=>?_
  simp [go_sem]
  refine hJ _ _ _ ?_
  refine opsW_nil ?_
  refine hK2 _ ?_
  refine aQ_ ?_
  iterate 1
    refine oC_ fun J hJ=>?_
    simp [go_sem]
    refine hJ _ _ _ ?_
  refine oN_ ?_
  refine aS_ fun K4 hK4=>?_
  refine aQ_ ?_
  iterate 3
    refine oC_ fun J hJ=>?_
    simp [go_sem]
    refine hJ _ _ _ ?_
  refine oN_ ?_
  refine aB_ ?_
  refine aL_ (ι:={ q:List Req × List Req × List Req × CM // q.1++q.2.1=l/\(netR q.2.2.1 q.2.1=netL l/\q.2.2.1.length<=q.1.length/\cntOK q.2.2.2 q.2.2.1) }) (fun q=>netMI l g q.1.1 q.1.2.1 q.1.2.2) (fun q=>q.1.2.1.length) ⟨([],l,([],[])),rfl,⟨rfl,by simp,cntOK_nil⟩⟩ ?_ ?_
  · refine wO_ [((0,999),none)] (by simp [go_sem]) ?_ ?_ <;> simp [go_sem]
  intro ⟨⟨pre,post,Am⟩,hl,hgo⟩
  simp only at hl hgo
  have hpl:=lS_ hl hL1
  simp only [netMI]
  refine aQ_ ?_
  iterate 1
    refine oC_ fun J hJ=>?_
    simp [go_sem]
    refine hJ _ _ _ ?_
  refine oN_ ?_
  refine aS_ fun K7 hK7=>?_
  refine aC_ (t:=_) rfl (fun c8=>?_) (fun c8=>?_)
  · simp [go_sem] at c8
    obtain ⟨x,post,rfl,hx⟩:=mL_ hl c8
    obtain ⟨hgo1,hAl,hcm⟩:=hgo
    have hlen:l.length=pre.length + 1 + post.length:=by rw [<-hl]; simp; omega
    have hdr:List.drop (pre.length + 1) l=post:=by rw [<-hl]; simp
    have hpt:((pre.length:Int) + 1).toNat=pre.length + 1:=by omega
    have hp0:(0:Int)<=(pre.length:Int) + 1:=by omega
    have hp1:pre.length + 1<=l.length:=by omega
    have hct:=contUnS_at post x (by omega)
    refine aK_ ?_
    refine hK7 _ ?_
    refine aS_ fun K9 hK9=>?_
    refine aB_ ?_
    refine aQ_ ?_
    iterate 6
      refine oC_ fun J hJ=>?_
      simp [go_sem,hx]
      refine hJ _ _ _ ?_
    refine oN_ ?_
    refine aQ_ ?_
    iterate 7
      refine oC_ fun J hJ=>?_
      simp [go_sem,wN_ hpl,hpt,hp0,hp1,hdr,↓hct]
      refine hJ _ _ _ ?_
    refine oN_ ?_
    refine aS_ fun K12 hK12=>?_
    refine aS_ fun K13 hK13=>?_
    rcases (show x.key.undo=true\/(x.key.undo=false/\post.any (isUn x)=true)\/(x.key.undo=false/\post.any (isUn x)=false) by cases x.key.undo <;> cases post.any (isUn x) <;> simp) with hu | ⟨hu,hv⟩ | ⟨hu,hv⟩
    · skip
      have hlo:lostQ x post=true:=by simp [lostQ,hu]
      have hns:netMs Am x post=Am:=by simp [netMs,netS,hlo]
      refine aR_ ?_
      iterate 6
        refine oC_ fun J hJ=>?_
        simp [go_sem,hu]
        refine hJ _ _ _ ?_
      refine oN_ ?_
      refine hK13 _ ?_
      refine aT_ rfl ?_
      refine aX_ ?_
      simp only [go_sem]
      refine hK9 _ ?_
      refine aR_ ?_
      iterate 2
        refine oC_ fun J hJ=>?_
        simp [go_sem]
        refine hJ _ _ _ ?_
      refine oN_ ?_
      first
        | (refine ⟨⟨(pre++[x],post,netMs Am x post),by simp [<-hl],by exact ⟨by rw [<-hgo1]; rfl,by have:=netS_len Am.1 x post; simp [netMs]; omega,netMs_keep hcm x post⟩⟩,?_,by simp⟩
           refine wO_ [((0,999),some (0,999))] (by simp [go_sem]) ?_ ?_ <;> (simp [go_sem,wN_ hpl,hns]; done))
        | (refine ⟨⟨(pre++[x],post,netMs Am x post),by simp [<-hl],by exact ⟨by rw [<-hgo1]; rfl,by have:=netS_len Am.1 x post; simp [netMs]; omega,netMs_keep hcm x post⟩⟩,?_,by simp⟩
           refine wO_ [((0,999),some (0,736))] (by simp [go_sem]) ?_ ?_ <;> (simp [go_sem,wN_ hpl,hns]; done))
    · skip
      have hlo:lostQ x post=true:=by simp [lostQ,hv]
      have hns:netMs Am x post=Am:=by simp [netMs,netS,hlo]
      refine aR_ ?_
      iterate 6
        refine oC_ fun J hJ=>?_
        simp [go_sem,hu,hv]
        refine hJ _ _ _ ?_
      refine oN_ ?_
      refine hK13 _ ?_
      refine aT_ rfl ?_
      refine aX_ ?_
      simp only [go_sem]
      refine hK9 _ ?_
      refine aR_ ?_
      iterate 2
        refine oC_ fun J hJ=>?_
        simp [go_sem]
        refine hJ _ _ _ ?_
      refine oN_ ?_
      first
        | (refine ⟨⟨(pre++[x],post,netMs Am x post),by simp [<-hl],by exact ⟨by rw [<-hgo1]; rfl,by have:=netS_len Am.1 x post; simp [netMs]; omega,netMs_keep hcm x post⟩⟩,?_,by simp⟩
           refine wO_ [((0,999),some (0,999))] (by simp [go_sem]) ?_ ?_ <;> (simp [go_sem,wN_ hpl,hns]; done))
        | (refine ⟨⟨(pre++[x],post,netMs Am x post),by simp [<-hl],by exact ⟨by rw [<-hgo1]; rfl,by have:=netS_len Am.1 x post; simp [netMs]; omega,netMs_keep hcm x post⟩⟩,?_,by simp⟩
           refine wO_ [((0,999),some (0,736))] (by simp [go_sem]) ?_ ?_ <;> (simp [go_sem,wN_ hpl,hns]; done))
    · skip
      have hlo:lostQ x post=false:=by simp [lostQ,hu,hv]
      have hcl:=cntId_le x.key.id Am.1
      have hgc:=hcm x.key.id
      have hwc:IntKind.i64.wrap (getM Am.2 (x.key.id.rep,x.key.id.seq) + 1)=(cntId x.key.id Am.1:Int) + 1:=by rw [hgc]; exact wA_ (by omega)
      have hns:netMs Am x post=(Am.1++[⟨⟨x.key.id,(cntId x.key.id Am.1:Int) + 1,false⟩,x.what⟩],updM Am.2 (x.key.id.rep,x.key.id.seq) ((cntId x.key.id Am.1:Int) + 1)):=by simp [netMs,netS,hlo]
      have htA:List.take Am.1.length Am.1=Am.1:=List.take_length
      refine aR_ ?_
      iterate 6
        refine oC_ fun J hJ=>?_
        simp [go_sem,hu,hv]
        refine hJ _ _ _ ?_
      refine oN_ ?_
      refine hK13 _ ?_
      refine aF_ rfl ?_
      refine aK_ ?_
      refine hK12 _ ?_
      refine aS_ fun K15 hK15=>?_
      refine aW_ (s':=⟨ofL [(3,.mpv g (mkE Am.2 0).toArray Am.2.length),(0,.sl 9 (rows cReq l)),(4,.own (0,999) Am.1.length),(6,.ref (0,96) 0),(9,.sl 9 (rows cReq l)),(10,.int .i64 l.length),(11,.int .i64 pre.length)],hOf [((0,999),.row 65 9 (rows cReq Am.1) false),((0,96),.obj (cReq x))]⟩) ?_ ?_
      · exact wO_ [((0,999),some (0,999)),((0,96),some (0,96))] (by simp [go_sem]) (by simp [go_sem]) (by simp [go_sem])
      refine awp_count (g:=g) idM ⟨rfl,rfl,rfl,rfl,rfl,rfl,⟨rfl,rfl,rfl⟩,⟨⟨_,_,rfl⟩,rfl,rfl⟩,⟨rfl,rfl,rfl⟩,⟨rfl,rfl,rfl⟩,⟨rfl,rfl,rfl⟩⟩ ⟨by kernel_rfl,by kernel_rfl,by kernel_rfl,by kernel_rfl,by kernel_rfl,by kernel_rfl,by kernel_rfl,by kernel_rfl,by kernel_rfl,by kernel_rfl⟩ ⟨rfl,rfl,rfl,rfl,⟨rfl,rfl,rfl⟩,⟨rfl,rfl,rfl⟩,by kernel_rfl,by kernel_rfl,by kernel_rfl,by kernel_rfl,by kernel_rfl,by kernel_rfl⟩ hg0 (show 35 < 50 from by decide) ?_
      simp only [go_sem]
      refine oC_ fun J hJ=>?_
      simp [go_sem]
      refine hJ _ _ _ ?_
      refine oC_ fun J hJ=>?_
      simp [go_sem]
      refine hJ _ _ _ ?_
      refine oC_ fun J hJ=>?_
      simp [go_sem]
      refine hJ _ _ _ ?_
      refine oN_ ?_
      refine ⟨Am.2,x.key.id.rep,x.key.id.seq,[(0,.sl 9 (rows cReq l)),(4,.own (0,999) Am.1.length),(6,.ref (0,96) 0),(9,.sl 9 (rows cReq l)),(10,.int .i64 l.length),(11,.int .i64 pre.length)],[((0,999),.row 65 9 (rows cReq Am.1) false),((0,96),.obj (cReq x))],rfl,by simp [hlOK,flatB_req,flatB_obj],by simp [go_sem],by simp [go_sem],by simp [go_sem]; rfl,by simp [flOK,go_sem,flat_req]; simp [flatV],by simp [flU],?_⟩
      rw [hwc]
      simp only [go_sem]
      refine hK15 _ ?_
      refine aS_ fun K16 hK16=>?_
      refine awp_regionW ?_
      refine opsW_cons fun J hJ=>?_
      simp [go_sem,getM_upd]
      refine hJ _ _ _ ?_
      refine opsW_cons fun J hJ=>?_
      simp [go_sem,getM_upd]
      refine hJ _ _ _ ?_
      refine opsW_cons fun J hJ=>?_
      simp [go_sem,getM_upd]
      refine hJ _ _ _ ?_
      refine opsW_cons fun J hJ=>?_
      simp [go_sem,getM_upd]
      refine hJ _ _ _ ?_
      refine opsW_lookup (g:=g) (m:=(updM Am.2 (x.key.id.rep,x.key.id.seq) ((cntId x.key.id Am.1:Int) + 1))) (c:=(updM Am.2 (x.key.id.rep,x.key.id.seq) ((cntId x.key.id Am.1:Int) + 1)).length) (r:=x.key.id.rep) (q:=x.key.id.seq) idM rfl rfl (by simp [go_sem]) (by simp [go_sem]; rfl) ?_
      refine opsW_cons fun J hJ=>?_
      simp [go_sem,getM_upd]
      refine hJ _ _ _ ?_
      refine opsW_cons fun J hJ=>?_
      simp [go_sem,getM_upd]
      refine hJ _ _ _ ?_
      refine opsW_cons fun J hJ=>?_
      simp [go_sem,getM_upd]
      refine hJ _ _ _ ?_
      refine opsW_nil ?_
      refine hK16 _ ?_
      refine aR_ ?_
      iterate 5
        refine oC_ fun J hJ=>?_
        simp [go_sem,hu,req_ord x _ hu,show (Am.1.length + 1) * 72<=140737488355328 by omega,show Am.1.length + 1<=maxLen by (simp only [maxLen]; omega)]
        refine hJ _ _ _ ?_
      refine oN_ ?_
      refine hK9 _ ?_
      refine aR_ ?_
      iterate 2
        refine oC_ fun J hJ=>?_
        simp [go_sem]
        refine hJ _ _ _ ?_
      refine oN_ ?_
      first
        | (refine ⟨⟨(pre++[x],post,netMs Am x post),by simp [<-hl],by exact ⟨by rw [<-hgo1]; rfl,by have:=netS_len Am.1 x post; simp [netMs]; omega,netMs_keep hcm x post⟩⟩,?_,by simp⟩
           refine wO_ [((0,999),some (0,999))] (by simp [go_sem]) ?_ ?_ <;> (simp [go_sem,wN_ hpl,hns]; done))
        | (refine ⟨⟨(pre++[x],post,netMs Am x post),by simp [<-hl],by exact ⟨by rw [<-hgo1]; rfl,by have:=netS_len Am.1 x post; simp [netMs]; omega,netMs_keep hcm x post⟩⟩,?_,by simp⟩
           refine wO_ [((0,999),some (0,736))] (by simp [go_sem]) ?_ ?_ <;> (simp [go_sem,wN_ hpl,hns]; done))
  · simp [go_sem] at c8
    obtain ⟨rfl,rfl⟩:=mN_ hl c8
    obtain ⟨hgo1,hAl,hcm⟩:=hgo
    simp only [netR] at hgo1
    rw [hgo1] at hAl
    simp only [hgo1]
    refine aX_ ?_
    simp only [go_sem]
    refine hK4 _ ?_
    refine aQ_ ?_
    iterate 3
      refine oC_ fun J hJ=>?_
      simp [go_sem,byKeysS_at (netL l) (by omega)]
      refine hJ _ _ _ ?_
    refine oN_ ?_
    refine aE_ ?_
    refine fQ_ [((2,0),some (0,999))] ?_
    simp [go_sem,Try.f22,ordL_len]
end Go.Proofs.Ytjoaigccapegpaa.AE
