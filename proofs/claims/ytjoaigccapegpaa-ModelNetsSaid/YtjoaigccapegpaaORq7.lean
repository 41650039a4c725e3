/-
 Matches, Allowed: contracts. Conditions: none; every contract names its own.
-/
import Derived.Test.YtjoaigccapegpaaORq6
set_option linter.constructorNameAsVariable false
namespace Go.Proofs.Ytjoaigccapegpaa.AE
open Go Go.Proofs Go.RowKit
set_option linter.unusedVariables false
set_option linter.unusedSimpArgs false
set_option maxRecDepth 100000
set_option maxHeartbeats 4000000
theorem expL_len (L:List Chg):(expL L).length<=8 * L.length:=by
 have:=expA_len L (ouL (zBk,[]) L) (ouL_effs fairZ L)
 rw [ouL_len] at this
 exact this
def c34:Chg:=⟨⟨0,1⟩,1,2,1,0,4,zId⟩
def q34:Req:=⟨⟨⟨0,1⟩,1,false⟩,⟨8,1,4,zId⟩⟩
theorem c34e:cChg { id:={ rep:=zId.rep,seq:=1 },time:=1,kind:=2,a:=1,b:=zChg.b,n:=4,ref:=zChg.ref }=cChg c34:=rfl
theorem x34:expL [c34]=[q34]:=rfl
theorem o34:ordL ordReq [q34]=[q34]:=rfl
theorem n34:netL [q34]=[q34]:=rfl
def sameW (q x:Req):Bool:=decide (x.key.id=q.key.id/\x.what=q.what)
def offR (W:List Req) (q:Req):Bool:=thenB q.what && !(W.any (sameW q))
structure sameWX where
 x:Req
 q:Req
noncomputable def sameWS:HSpec:=mkH (ι:=sameWX) (fun ⟨x,q⟩=>([.agg (cReq x),.iref (cReq q) 0],[])) fun ⟨x,q⟩=>⟨.bool (sameW q x),[],[]⟩
theorem sameWS_atG (x:Req) (q:Req):sameWS [.agg (cReq x),.iref (cReq q) 0] []=some (⟨.bool (sameW q x),[],[]⟩):=
 mA_ (ι:=sameWX) (fun i j h=>by obtain ⟨x,q⟩:=i; obtain ⟨x2,q2⟩:=j; simp [and_assoc,qB_,qI_,qO_,qC_,qE_,qK_,qR_,qV_,qP_,qOc_] at h; obtain ⟨rfl,rfl⟩:=h; rfl) ⟨x,q⟩
theorem sameWS_at (x:Req) (q:Req):sameWS [.agg (cReq x),.iref (cReq q) 0] []=some (⟨.bool (sameW q x),[],[]⟩):=sameWS_atG x q
theorem sameW_ok:HSound Try.prog 57 sameWS:=by
 refine sE_ (fn:=Try.f57) rfl rfl (by kernel_rfl) fun args bx hr hS=>?_
 obtain ⟨⟨x,q⟩,rfl,rfl,rfl⟩:=mO_ hS
 clear hS
 refine ⟨_,(eN_ _),by simp [Try.f57],by simp [go_sem],fun w Mx pin=>?_⟩
 simp only [hB_at,lab_nil,lab_cons,hOf_nil,hOf_cons]
 refine aQ_ ?_
 iterate 2
  refine oC_ fun J hJ=>?_
  simp [go_sem]
  refine hJ _ _ _ ?_
 refine oN_ ?_
 refine aS_ fun K2 hK2=>?_
 by_cases h1:x.key.id=q.key.id
 all_goals
  refine aR_ ?_
  iterate 15
   refine oC_ fun J hJ=>?_
   simp [go_sem,h1]
   refine hJ _ _ _ ?_
  refine oN_ ?_
  refine hK2 _ ?_
  refine aE_ ?_
  refine fQ_ [] ?_
  simp [go_sem,Try.f57,sameW,h1]
structure contSameX where
 l:List Req
 l':AV
 q:Req
 h_l:SlA 9 cReq l l'
 hL:l.length<=100000
noncomputable def contSameS:HSpec:=mkH (ι:=contSameX) (fun ⟨l,l',q,h_l,hL⟩=>([l',.fn 57 [.iref (cReq q) 0]],[])) fun ⟨l,l',q,h_l,hL⟩=>⟨.bool (l.any (sameW q)),[],[]⟩
theorem contSameS_atG (l:List Req) (l':AV) (q:Req) (h_l:SlA 9 cReq l l') (hL:l.length<=100000):contSameS [l',.fn 57 [.iref (cReq q) 0]] []=some (⟨.bool (l.any (sameW q)),[],[]⟩):=
 mA_ (ι:=contSameX) (fun i j h=>by obtain ⟨l,l',q,h_l,hL⟩:=i; obtain ⟨l2,l'2,q2,h_l2,hL2⟩:=j; simp [and_assoc,qB_,qI_,qO_,qC_,qE_,qK_,qR_,qV_,qP_,qOc_,rows_iff_Req] at h; obtain ⟨rfl,rfl⟩:=h; obtain rfl:=SlA.inj (fun x y h=>cReq_inj h) h_l h_l2; rfl) ⟨l,l',q,h_l,hL⟩
theorem contSameS_at (l:List Req) (q:Req) (hL:l.length<=100000):contSameS [(.sl 9 (rows cReq l)),.fn 57 [.iref (cReq q) 0]] []=some (⟨.bool (l.any (sameW q)),[],[]⟩):=contSameS_atG l _ q .sl hL
theorem contSame_ok:HSound Try.prog 51 contSameS:=by
 refine sE_ (fn:=Try.f51) rfl rfl (by kernel_rfl) fun args bx hr hS=>?_
 obtain ⟨⟨l,l',q,h_l,hL⟩,rfl,rfl,rfl⟩:=mO_ hS
 clear hS
 refine ⟨_,(eV_ (g:=79) (by kernel_rfl) (indexReq_ok 57 [.iref (cReq q) 0] (sameW q) sameWS (by kernel_rfl) sameW_ok (fun x=>sameWS_at x q) (fun H=>by simp [go_sem]) (fun H0 H=>by simp [go_sem])) (eN_ _)),by simp [Try.f51],by simp [go_sem],fun w Mx pin=>?_⟩
 simp only [hB_at,lab_nil,lab_cons,hOf_nil,hOf_cons]
 refine aW_ (s':=⟨ofL [(0,(.sl 9 (rows cReq l))),(1,.fn 57 [.iref (cReq q) 0])],hOf []⟩) ?_ ?_
 · cases h_l <;> exact wO_ [] (by simp [go_sem]) (by simp [go_sem]) (by simp [go_sem])
 clear h_l
 have hl1:l.length<=100000:=by omega
 refine aQ_ ?_
 iterate 1
  refine oC_ fun J hJ=>?_
  simp [go_sem]
  refine hJ _ _ _ ?_
 refine oN_ ?_
 refine aQ_ ?_
 iterate 5
  refine oC_ fun J hJ=>?_
  simp [go_sem,indexReqS_at _ _ (sameW q) l hl1]
  refine hJ _ _ _ ?_
 refine oN_ ?_
 refine aE_ ?_
 refine fQ_ [] ?_
 have hq:=any_ge0 (sameW q) l 0
 simp [go_sem,Try.f51]
 exact Bool.eq_iff_iff.2 (by simpa using hq)
structure offRX where
 q:Req
 W:List Req
 hL:W.length<=100000
noncomputable def offRS:HSpec:=mkH (ι:=offRX) (fun ⟨q,W,hL⟩=>([.agg (cReq q),.iref [.sl 9 (rows cReq W)] 0],[])) fun ⟨q,W,hL⟩=>⟨.bool (offR W q),[],[]⟩
theorem offRS_atG (q:Req) (W:List Req) (hL:W.length<=100000):offRS [.agg (cReq q),.iref [.sl 9 (rows cReq W)] 0] []=some (⟨.bool (offR W q),[],[]⟩):=
 mA_ (ι:=offRX) (fun i j h=>by obtain ⟨q,W,hL⟩:=i; obtain ⟨q2,W2,hL2⟩:=j; simp [and_assoc,qB_,qI_,qO_,qC_,qE_,qK_,qR_,qV_,qP_,qOc_,rows_iff_Req] at h; obtain ⟨rfl,rfl⟩:=h; rfl) ⟨q,W,hL⟩
theorem offRS_at (q:Req) (W:List Req) (hL:W.length<=100000):offRS [.agg (cReq q),.iref [.sl 9 (rows cReq W)] 0] []=some (⟨.bool (offR W q),[],[]⟩):=offRS_atG q W hL
theorem offR_ok:HSound Try.prog 56 offRS:=by
 refine sE_ (fn:=Try.f56) rfl rfl (by kernel_rfl) fun args bx hr hS=>?_
 obtain ⟨⟨q,W,hL⟩,rfl,rfl,rfl⟩:=mO_ hS
 clear hS
 refine ⟨_,(eV_ (g:=51) (by kernel_rfl) contSame_ok (eV_ (g:=58) (by kernel_rfl) laterE_ok (eN_ _))),by simp [Try.f56],by simp [go_sem],fun w Mx pin=>?_⟩
 simp only [hB_at,lab_nil,lab_cons,hOf_nil,hOf_cons]
 refine aQ_ ?_
 iterate 2
  refine oC_ fun J hJ=>?_
  simp [go_sem]
  refine hJ _ _ _ ?_
 refine oN_ ?_
 refine aQ_ ?_
 iterate 4
  refine oC_ fun J hJ=>?_
  simp [go_sem,contSameS_at W q hL]
  refine hJ _ _ _ ?_
 refine oN_ ?_
 refine aS_ fun K3 hK3=>?_
 cases h1:thenB q.what
 all_goals
  refine aR_ ?_
  iterate 8
   refine oC_ fun J hJ=>?_
   simp [go_sem,laterES_at,h1]
   refine hJ _ _ _ ?_
  refine oN_ ?_
  refine hK3 _ ?_
  refine aE_ ?_
  refine fQ_ [] ?_
  simp [go_sem,Try.f56,offR,h1]
structure contOffX where
 l:List Req
 l':AV
 W:List Req
 h_l:SlA 9 cReq l l'
 hL:l.length<=100000/\W.length<=100000
noncomputable def contOffS:HSpec:=mkH (ι:=contOffX) (fun ⟨l,l',W,h_l,hL⟩=>([l',.fn 56 [.iref [.sl 9 (rows cReq W)] 0]],[])) fun ⟨l,l',W,h_l,hL⟩=>⟨.bool (l.any (offR W)),[],[]⟩
theorem contOffS_atG (l:List Req) (l':AV) (W:List Req) (h_l:SlA 9 cReq l l') (hL:l.length<=100000/\W.length<=100000):contOffS [l',.fn 56 [.iref [.sl 9 (rows cReq W)] 0]] []=some (⟨.bool (l.any (offR W)),[],[]⟩):=
 mA_ (ι:=contOffX) (fun i j h=>by obtain ⟨l,l',W,h_l,hL⟩:=i; obtain ⟨l2,l'2,W2,h_l2,hL2⟩:=j; simp [and_assoc,qB_,qI_,qO_,qC_,qE_,qK_,qR_,qV_,qP_,qOc_,rows_iff_Req] at h; obtain ⟨rfl,rfl⟩:=h; obtain rfl:=SlA.inj (fun x y h=>cReq_inj h) h_l h_l2; rfl) ⟨l,l',W,h_l,hL⟩
theorem contOffS_at (l:List Req) (W:List Req) (hL:l.length<=100000/\W.length<=100000):contOffS [(.sl 9 (rows cReq l)),.fn 56 [.iref [.sl 9 (rows cReq W)] 0]] []=some (⟨.bool (l.any (offR W)),[],[]⟩):=contOffS_atG l _ W .sl hL
theorem contOff_ok:HSound Try.prog 51 contOffS:=by
 refine sE_ (fn:=Try.f51) rfl rfl (by kernel_rfl) fun args bx hr hS=>?_
 obtain ⟨⟨l,l',W,h_l,hL⟩,rfl,rfl,rfl⟩:=mO_ hS
 clear hS
 refine ⟨_,(eV_ (g:=79) (by kernel_rfl) (indexReq_ok 56 [.iref [.sl 9 (rows cReq W)] 0] (offR W) offRS (by kernel_rfl) offR_ok (fun x=>offRS_at x W (by omega)) (fun H=>by simp [go_sem]) (fun H0 H=>by simp [go_sem])) (eN_ _)),by simp [Try.f51],by simp [go_sem],fun w Mx pin=>?_⟩
 simp only [hB_at,lab_nil,lab_cons,hOf_nil,hOf_cons]
 refine aW_ (s':=⟨ofL [(0,(.sl 9 (rows cReq l))),(1,.fn 56 [.iref [.sl 9 (rows cReq W)] 0])],hOf []⟩) ?_ ?_
 · cases h_l <;> exact wO_ [] (by simp [go_sem]) (by simp [go_sem]) (by simp [go_sem])
 clear h_l
 have hl1:l.length<=100000:=by omega
 refine aQ_ ?_
 iterate 1
  refine oC_ fun J hJ=>?_
  simp [go_sem]
  refine hJ _ _ _ ?_
 refine oN_ ?_
 refine aQ_ ?_
 iterate 5
  refine oC_ fun J hJ=>?_
  simp [go_sem,indexReqS_at _ _ (offR W) l hl1]
  refine hJ _ _ _ ?_
 refine oN_ ?_
 refine aE_ ?_
 refine fQ_ [] ?_
 have hq:=any_ge0 (offR W) l 0
 simp [go_sem,Try.f51]
 exact Bool.eq_iff_iff.2 (by simpa using hq)
structure alwX where
 a:List Req
 a':AV
 L:List Chg
 L':AV
 h_a:SlA 9 cReq a a'
 h_L:SlA 9 cChg L L'
 hL:a.length<=100000/\L.length<=5000
noncomputable def alwS:HSpec:=mkH (ι:=alwX) (fun ⟨a,a',L,L',h_a,h_L,hL⟩=>([a',L'],[])) fun ⟨a,a',L,L',h_a,h_L,hL⟩=>⟨.bool (!(a.any (offR (ordL ordReq (expL L))))),[],[]⟩
theorem alwS_atG (a:List Req) (a':AV) (L:List Chg) (L':AV) (h_a:SlA 9 cReq a a') (h_L:SlA 9 cChg L L') (hL:a.length<=100000/\L.length<=5000):alwS [a',L'] []=some (⟨.bool (!(a.any (offR (ordL ordReq (expL L))))),[],[]⟩):=
 mA_ (ι:=alwX) (fun i j h=>by obtain ⟨a,a',L,L',h_a,h_L,hL⟩:=i; obtain ⟨a2,a'2,L2,L'2,h_a2,h_L2,hL2⟩:=j; simp [and_assoc,qB_,qI_,qO_,qC_,qE_,qK_,qR_,qV_,qP_,qOc_] at h; obtain ⟨rfl,rfl⟩:=h; obtain rfl:=SlA.inj (fun x y h=>cReq_inj h) h_a h_a2; obtain rfl:=SlA.inj (fun x y h=>cChg_inj h) h_L h_L2; rfl) ⟨a,a',L,L',h_a,h_L,hL⟩
theorem alwS_at (a:List Req) (L:List Chg) (hL:a.length<=100000/\L.length<=5000):alwS [(.sl 9 (rows cReq a)),(.sl 9 (rows cChg L))] []=some (⟨.bool (!(a.any (offR (ordL ordReq (expL L))))),[],[]⟩):=alwS_atG a _ L _ .sl .sl hL
theorem alw_ok:HSound Try.prog 27 alwS:=by
 refine sE_ (fn:=Try.f27) rfl rfl (by kernel_rfl) fun args bx hr hS=>?_
 obtain ⟨⟨a,a',L,L',h_a,h_L,hL⟩,rfl,rfl,rfl⟩:=mO_ hS
 clear hS
 refine ⟨_,(eV_ (g:=20) (by kernel_rfl) expM_ok (eV_ (g:=51) (by kernel_rfl) contOff_ok (eN_ _))),by simp [Try.f27],by simp [go_sem],fun w Mx pin=>?_⟩
 simp only [hB_at,lab_nil,lab_cons,hOf_nil,hOf_cons]
 refine aW_ (s':=⟨ofL [(0,(.sl 9 (rows cReq a))),(1,(.sl 9 (rows cChg L)))],hOf []⟩) ?_ ?_
 · cases h_a <;> cases h_L <;> exact wO_ [] (by simp [go_sem]) (by simp [go_sem]) (by simp [go_sem])
 clear h_a h_L
 have hW:=expL_len L
 obtain ⟨W,hWd⟩:∃ W,W=ordL ordReq (expL L):=⟨_,rfl⟩
 have hWl:W.length=(expL L).length:=by rw [hWd,ordL_len]
 have he:=expMS_at L hL.2
 rw [<-hWd,<-hWl] at he
 have hc:=contOffS_at a W ⟨hL.1,by omega⟩
 refine aQ_ ?_
 iterate 1
  refine oC_ fun J hJ=>?_
  simp [go_sem]
  refine hJ _ _ _ ?_
 refine oN_ ?_
 refine aQ_ ?_
 iterate 4
  refine oC_ fun J hJ=>?_
  simp [go_sem,↓he]
  refine hJ _ _ _ ?_
 refine oN_ ?_
 refine aQ_ ?_
 iterate 5
  refine oC_ fun J hJ=>?_
  simp [go_sem,↓hc]
  refine hJ _ _ _ ?_
 refine oN_ ?_
 refine aE_ ?_
 refine fQ_ [] ?_
 simp [go_sem,Try.f27,<-hWd]
structure matX where
 a:List Req
 a':AV
 L:List Chg
 L':AV
 h_a:SlA 9 cReq a a'
 h_L:SlA 9 cChg L L'
 hL:a.length<=40000/\L.length<=5000
noncomputable def matS:HSpec:=mkH (ι:=matX) (fun ⟨a,a',L,L',h_a,h_L,hL⟩=>([a',L'],[])) fun ⟨a,a',L,L',h_a,h_L,hL⟩=>⟨.bool (decide (ordL ordReq (netL a)=ordL ordReq (expL L))),[],[]⟩
theorem matS_atG (a:List Req) (a':AV) (L:List Chg) (L':AV) (h_a:SlA 9 cReq a a') (h_L:SlA 9 cChg L L') (hL:a.length<=40000/\L.length<=5000):matS [a',L'] []=some (⟨.bool (decide (ordL ordReq (netL a)=ordL ordReq (expL L))),[],[]⟩):=
 mA_ (ι:=matX) (fun i j h=>by obtain ⟨a,a',L,L',h_a,h_L,hL⟩:=i; obtain ⟨a2,a'2,L2,L'2,h_a2,h_L2,hL2⟩:=j; simp [and_assoc,qB_,qI_,qO_,qC_,qE_,qK_,qR_,qV_,qP_,qOc_] at h; obtain ⟨rfl,rfl⟩:=h; obtain rfl:=SlA.inj (fun x y h=>cReq_inj h) h_a h_a2; obtain rfl:=SlA.inj (fun x y h=>cChg_inj h) h_L h_L2; rfl) ⟨a,a',L,L',h_a,h_L,hL⟩
theorem matS_at (a:List Req) (L:List Chg) (hL:a.length<=40000/\L.length<=5000):matS [(.sl 9 (rows cReq a)),(.sl 9 (rows cChg L))] []=some (⟨.bool (decide (ordL ordReq (netL a)=ordL ordReq (expL L))),[],[]⟩):=matS_atG a _ L _ .sl .sl hL
theorem mat_ok:HSound Try.prog 26 matS:=by
 refine sE_ (fn:=Try.f26) rfl rfl (by kernel_rfl) fun args bx hr hS=>?_
 obtain ⟨⟨a,a',L,L',h_a,h_L,hL⟩,rfl,rfl,rfl⟩:=mO_ hS
 clear hS
 refine ⟨_,(eV_ (g:=22) (by kernel_rfl) netM_ok (eV_ (g:=20) (by kernel_rfl) expM_ok (eV_ (g:=55) (by kernel_rfl) eqReq_ok (eN_ _)))),by simp [Try.f26],by simp [go_sem],fun w Mx pin=>?_⟩
 simp only [hB_at,lab_nil,lab_cons,hOf_nil,hOf_cons]
 refine aW_ (s':=⟨ofL [(0,(.sl 9 (rows cReq a))),(1,(.sl 9 (rows cChg L)))],hOf []⟩) ?_ ?_
 · cases h_a <;> cases h_L <;> exact wO_ [] (by simp [go_sem]) (by simp [go_sem]) (by simp [go_sem])
 clear h_a h_L
 have hW:=expL_len L
 have hN:=netR_len a []
 have hN2:(netL a).length<=a.length:=by simpa [netL] using hN
 have hw1:=ordL_len (p:=ordReq) (expL L)
 have hw2:=ordL_len (p:=ordReq) (netL a)
 have ht1:List.take (expL L).length (ordL ordReq (expL L))=ordL ordReq (expL L):=List.take_of_length_le (by omega)
 have ht2:List.take (netL a).length (ordL ordReq (netL a))=ordL ordReq (netL a):=List.take_of_length_le (by omega)
 refine aQ_ ?_
 iterate 1
  refine oC_ fun J hJ=>?_
  simp [go_sem]
  refine hJ _ _ _ ?_
 refine oN_ ?_
 refine aQ_ ?_
 iterate 6
  refine oC_ fun J hJ=>?_
  simp [go_sem,netMS_at a hL.1,expMS_at L hL.2,ht1,ht2,eqReqS_at (ordL ordReq (netL a)) (ordL ordReq (expL L)) (by omega)]
  refine hJ _ _ _ ?_
 refine oN_ ?_
 refine aE_ ?_
 refine fQ_ [] ?_
 simp [go_sem,Try.f26]
end Go.Proofs.Ytjoaigccapegpaa.AE
