/-
 What fits: contracts. Conditions: none; every contract names its own.
-/
import Derived.Test.YtjoaigccapegpaaGreatOTe1
import Derived.Test.YtjoaigccapegpaaGreatPe
set_option linter.constructorNameAsVariable false
namespace Go.Proofs.YtjoaigccapegpaaGreat.AE
open Go Go.Proofs Go.RowKit
set_option linter.unusedVariables false
set_option linter.unusedSimpArgs false
set_option maxRecDepth 100000
set_option maxHeartbeats 4000000
@[go_sem] theorem cV_take4 (v:Vn 4):(cV v).take 4=cV v:=cV_take_all v
def mayI (a:Id):Bool:=decide (0<=a.rep/\a.rep < 4/\1<=a.seq/\a.seq<=65535)
theorem mayI_rng {a:Id} (h:mayI a=true):0<=a.rep/\a.rep < 4/\a.rep.toNat < 4/\1<=a.seq:=by
 simp only [mayI,decide_eq_true_eq] at h
 omega
def nextV (v:Vn 4) (r:Int):Id:=if 0<=r/\r < 4/\v.at r.toNat < 65535 then ⟨r,IntKind.i64.wrap (v.at r.toNat + 1)⟩ else zId
def fitsB (v u:Vn 4) (c:Chg):Bool:=mayI c.id && (decide (nextV v c.id.rep=c.id) && (decide (1<=c.time/\c.time<=1073741824) && decide (u.at c.id.rep.toNat < c.time)))
theorem fits_eq {v u:Vn 4} {c:Chg} (h:mayI c.id=true):fitsB v u c=(decide (v.at c.id.rep.toNat < 65535) && ((c.id.seq == IntKind.i64.wrap (v.at c.id.rep.toNat + 1)) && (decide (1<=c.time) && (decide (c.time<=1073741824) && decide (u.at c.id.rep.toNat < c.time))))):=by
 obtain ⟨h0,h4,h5,h6⟩:=mayI_rng h
 have hz:zId ≠ c.id:=by
  intro e
  rw [<-e] at h6
  simp [zId] at h6
 have hn:decide (nextV v c.id.rep=c.id)=(decide (v.at c.id.rep.toNat < 65535) && (c.id.seq == IntKind.i64.wrap (v.at c.id.rep.toNat + 1))):=by
  unfold nextV
  by_cases h7:v.at c.id.rep.toNat < 65535
  ·
   rw [if_pos ⟨h0,h4,h7⟩]
   have hh:(⟨c.id.rep,IntKind.i64.wrap (v.at c.id.rep.toNat + 1)⟩:Id)=c.id ↔ c.id.seq=IntKind.i64.wrap (v.at c.id.rep.toNat + 1):=⟨fun e=>(congrArg Id.seq e).symm,fun e=>by rw [<-e]⟩
   have hd:decide ((⟨c.id.rep,IntKind.i64.wrap (v.at c.id.rep.toNat + 1)⟩:Id)=c.id)=decide (c.id.seq=IntKind.i64.wrap (v.at c.id.rep.toNat + 1)):=decide_eq_decide.2 hh
   rw [hd,Bool.eq_iff_iff]
   simp [h7]
  ·
   rw [if_neg (by omega)]
   simp [h7,hz]
 have ht:decide (1<=c.time/\c.time<=1073741824)=(decide (1<=c.time) && decide (c.time<=1073741824)):=by rw [Bool.eq_iff_iff]; simp
 simp only [fitsB,h,hn,ht,Bool.true_and,Bool.and_assoc]
structure mayIX where
 a:Id
noncomputable def mayIS:HSpec:=mkH (ι:=mayIX) (fun ⟨a⟩=>([.agg (cId a)],[])) fun ⟨a⟩=>⟨.bool (mayI a),[],[]⟩
theorem mayIS_atG (a:Id):mayIS [.agg (cId a)] []=some (⟨.bool (mayI a),[],[]⟩):=
 mA_ (ι:=mayIX) (fun i j h=>by obtain ⟨a⟩:=i; obtain ⟨a2⟩:=j; simp [and_assoc,qB_,qI_,qO_,qC_,qE_,qK_,qR_,qV_,qP_,qOc_,rows_iff_Chg] at h; obtain rfl:=h; rfl) ⟨a⟩
theorem mayIS_at (a:Id):mayIS [.agg (cId a)] []=some (⟨.bool (mayI a),[],[]⟩):=mayIS_atG a
theorem mayI_ok:HSound Tryz.prog 68 mayIS:=by
 refine sE_ (fn:=Tryz.f68) rfl rfl (by kernel_rfl) fun args bx hr hS=>?_
 obtain ⟨⟨a⟩,rfl,rfl,rfl⟩:=mO_ hS
 clear hS
 refine ⟨_,(eV_ (g:=70) (by kernel_rfl) numIn_ok (eN_ _)),by simp [Tryz.f68],by simp [go_sem],fun w Mx pin=>?_⟩
 simp only [hB_at,lab_nil,lab_cons,hOf_nil,hOf_cons]
 refine aQ_ ?_
 iterate 2
  refine oC_ fun J hJ=>?_
  simp [go_sem]
  refine hJ _ _ _ ?_
 refine oN_ ?_
 refine aS_ fun K2 hK2=>?_
 by_cases h1:0<=a.rep
 all_goals by_cases h2:a.rep < 4
 all_goals
  refine aR_ ?_
  iterate 14
   refine oC_ fun J hJ=>?_
   simp [go_sem,numInS_at,h1,h2]
   refine hJ _ _ _ ?_
  refine oN_ ?_
  refine hK2 _ ?_
  refine aE_ ?_
  refine fQ_ [] ?_
  simp [go_sem,Tryz.f68,mayI,h1,h2]
structure mayRX where
 a:Id
noncomputable def mayRS:HSpec:=mkH (ι:=mayRX) (fun ⟨a⟩=>([.agg (cId a)],[])) fun ⟨a⟩=>⟨.bool (mayI a),[],[]⟩
theorem mayRS_atG (a:Id):mayRS [.agg (cId a)] []=some (⟨.bool (mayI a),[],[]⟩):=
 mA_ (ι:=mayRX) (fun i j h=>by obtain ⟨a⟩:=i; obtain ⟨a2⟩:=j; simp [and_assoc,qB_,qI_,qO_,qC_,qE_,qK_,qR_,qV_,qP_,qOc_,rows_iff_Chg] at h; obtain rfl:=h; rfl) ⟨a⟩
theorem mayRS_at (a:Id):mayRS [.agg (cId a)] []=some (⟨.bool (mayI a),[],[]⟩):=mayRS_atG a
theorem mayR_ok:HSound Tryz.prog 76 mayRS:=by
 refine sE_ (fn:=Tryz.f76) rfl rfl (by kernel_rfl) fun args bx hr hS=>?_
 obtain ⟨⟨a⟩,rfl,rfl,rfl⟩:=mO_ hS
 clear hS
 refine ⟨_,(eN_ _),by simp [Tryz.f76],by simp [go_sem],fun w Mx pin=>?_⟩
 simp only [hB_at,lab_nil,lab_cons,hOf_nil,hOf_cons]
 refine aQ_ ?_
 iterate 2
  refine oC_ fun J hJ=>?_
  simp [go_sem]
  refine hJ _ _ _ ?_
 refine oN_ ?_
 refine aS_ fun K2 hK2=>?_
 by_cases h1:0<=a.rep
 all_goals by_cases h2:a.rep<=3
 all_goals by_cases h3:1<=a.seq
 all_goals
  refine aR_ ?_
  iterate 19
   refine oC_ fun J hJ=>?_
   simp [go_sem,h1,h2,h3]
   refine hJ _ _ _ ?_
  refine oN_ ?_
  refine hK2 _ ?_
  refine aE_ ?_
  have e:(a.rep < 4)=(a.rep<=3):=propext ⟨fun h=>by omega,fun h=>by omega⟩
  refine fQ_ [] ?_
  simp [go_sem,Tryz.f76,mayI,e,h1,h2,h3]
structure thereX where
 r:Int
noncomputable def thereS:HSpec:=mkH (ι:=thereX) (fun ⟨r⟩=>([.int .i64 r],[])) fun ⟨r⟩=>⟨.bool (decide (0<=r/\r < 4)),[],[]⟩
theorem thereS_atG (r:Int):thereS [.int .i64 r] []=some (⟨.bool (decide (0<=r/\r < 4)),[],[]⟩):=
 mA_ (ι:=thereX) (fun i j h=>by obtain ⟨r⟩:=i; obtain ⟨r2⟩:=j; simp [and_assoc,qB_,qI_,qO_,qC_,qE_,qK_,qR_,qV_,qP_,qOc_,rows_iff_Chg] at h; obtain rfl:=h; rfl) ⟨r⟩
theorem thereS_at (r:Int):thereS [.int .i64 r] []=some (⟨.bool (decide (0<=r/\r < 4)),[],[]⟩):=thereS_atG r
theorem there_ok:HSound Tryz.prog 74 thereS:=by
 refine sE_ (fn:=Tryz.f74) rfl rfl (by kernel_rfl) fun args bx hr hS=>?_
 obtain ⟨⟨r⟩,rfl,rfl,rfl⟩:=mO_ hS
 clear hS
 refine ⟨_,(eN_ _),by simp [Tryz.f74],by simp [go_sem],fun w Mx pin=>?_⟩
 simp only [hB_at,lab_nil,lab_cons,hOf_nil,hOf_cons]
 refine aQ_ ?_
 iterate 1
  refine oC_ fun J hJ=>?_
  simp [go_sem]
  refine hJ _ _ _ ?_
 refine oN_ ?_
 refine aS_ fun K2 hK2=>?_
 by_cases h1:0<=r
 all_goals
  refine aR_ ?_
  iterate 7
   refine oC_ fun J hJ=>?_
   simp [go_sem,h1]
   refine hJ _ _ _ ?_
  refine oN_ ?_
  refine hK2 _ ?_
  refine aE_ ?_
  refine fQ_ [] ?_
  simp [go_sem,Tryz.f74,h1]
structure nextVX where
 v:Vn 4
 r:Int
noncomputable def nextVS:HSpec:=mkH (ι:=nextVX) (fun ⟨v,r⟩=>([.agg (cV v),.int .i64 r],[])) fun ⟨v,r⟩=>⟨.agg (cId (nextV v r)),[],[]⟩
theorem nextVS_atG (v:Vn 4) (r:Int):nextVS [.agg (cV v),.int .i64 r] []=some (⟨.agg (cId (nextV v r)),[],[]⟩):=
 mA_ (ι:=nextVX) (fun i j h=>by obtain ⟨v,r⟩:=i; obtain ⟨v2,r2⟩:=j; simp [and_assoc,qB_,qI_,qO_,qC_,qE_,qK_,qR_,qV_,qP_,qOc_,rows_iff_Chg] at h; obtain ⟨rfl,rfl⟩:=h; rfl) ⟨v,r⟩
theorem nextVS_at (v:Vn 4) (r:Int):nextVS [.agg (cV v),.int .i64 r] []=some (⟨.agg (cId (nextV v r)),[],[]⟩):=nextVS_atG v r
theorem nextV_ok:HSound Tryz.prog 69 nextVS:=by
 refine sE_ (fn:=Tryz.f69) rfl rfl (by kernel_rfl) fun args bx hr hS=>?_
 obtain ⟨⟨v,r⟩,rfl,rfl,rfl⟩:=mO_ hS
 clear hS
 refine ⟨_,(eV_ (g:=74) (by kernel_rfl) there_ok (eN_ _)),by simp [Tryz.f69],by simp [go_sem],fun w Mx pin=>?_⟩
 simp only [hB_at,lab_nil,lab_cons,hOf_nil,hOf_cons]
 refine aQ_ ?_
 iterate 2
  refine oC_ fun J hJ=>?_
  simp [go_sem]
  refine hJ _ _ _ ?_
 refine oN_ ?_
 refine aS_ fun K2 hK2=>?_
 refine aS_ fun K3 hK3=>?_
 rcases (show ¬ (0<=r/\r < 4)\/(0<=r/\r < 4)/\¬ v.at r.toNat < 65535\/(0<=r/\r < 4)/\v.at r.toNat < 65535 by omega) with ht | ⟨⟨h0,h4⟩,h7⟩ | ⟨⟨h0,h4⟩,h7⟩
 ·
  have hd:decide (0<=r/\r < 4)=false:=decide_eq_false ht
  have hn:nextV v r=zId:=if_neg (fun h=>ht ⟨h.1,h.2.1⟩)
  refine aR_ ?_
  iterate 9
   refine oC_ fun J hJ=>?_
   simp [go_sem,thereS_at r,hd]
   refine hJ _ _ _ ?_
  refine oN_ ?_
  refine hK3 _ ?_
  refine aT_ rfl ?_
  refine aQ_ ?_
  iterate 2
   refine oC_ fun J hJ=>?_
   simp [go_sem]
   refine hJ _ _ _ ?_
  refine oN_ ?_
  refine aE_ ?_
  rw [hn]
  refine fQ_ [] ?_
  simp [go_sem,Tryz.f69]
 ·
  have hd:decide (0<=r/\r < 4)=true:=decide_eq_true ⟨h0,h4⟩
  have h5:r.toNat < 4:=by omega
  have h8:65535<=v.at r.toNat:=by omega
  have hn:nextV v r=zId:=if_neg (fun h=>h7 h.2.2)
  refine aR_ ?_
  iterate 9
   refine oC_ fun J hJ=>?_
   simp [go_sem,thereS_at r,hd,h0,h4,h5,h8]
   refine hJ _ _ _ ?_
  refine oN_ ?_
  refine hK3 _ ?_
  refine aT_ rfl ?_
  refine aQ_ ?_
  iterate 2
   refine oC_ fun J hJ=>?_
   simp [go_sem]
   refine hJ _ _ _ ?_
  refine oN_ ?_
  refine aE_ ?_
  rw [hn]
  refine fQ_ [] ?_
  simp [go_sem,Tryz.f69]
 ·
  have hd:decide (0<=r/\r < 4)=true:=decide_eq_true ⟨h0,h4⟩
  have h5:r.toNat < 4:=by omega
  have h8:¬ 65535<=v.at r.toNat:=by omega
  have hn:nextV v r=_:=if_pos ⟨h0,h4,h7⟩
  refine aR_ ?_
  iterate 9
   refine oC_ fun J hJ=>?_
   simp [go_sem,thereS_at r,hd,h0,h4,h5,h8]
   refine hJ _ _ _ ?_
  refine oN_ ?_
  refine hK3 _ ?_
  refine aF_ rfl ?_
  refine aK_ ?_
  refine hK2 _ ?_
  refine aQ_ ?_
  iterate 7
   refine oC_ fun J hJ=>?_
   simp [go_sem,h0,h4,h5]
   refine hJ _ _ _ ?_
  refine oN_ ?_
  refine aE_ ?_
  rw [hn]
  refine fQ_ [] ?_
  simp [go_sem,Tryz.f69]
structure fitsX where
 v:Vn 4
 u:Vn 4
 c:Chg
noncomputable def fitsS:HSpec:=mkH (ι:=fitsX) (fun ⟨v,u,c⟩=>([.agg (cV v),.agg (cV u),.agg (cChg c)],[])) fun ⟨v,u,c⟩=>⟨.bool (fitsB v u c),[],[]⟩
theorem fitsS_atG (v:Vn 4) (u:Vn 4) (c:Chg):fitsS [.agg (cV v),.agg (cV u),.agg (cChg c)] []=some (⟨.bool (fitsB v u c),[],[]⟩):=
 mA_ (ι:=fitsX) (fun i j h=>by obtain ⟨v,u,c⟩:=i; obtain ⟨v2,u2,c2⟩:=j; simp [and_assoc,qB_,qI_,qO_,qC_,qE_,qK_,qR_,qV_,qP_,qOc_,rows_iff_Chg] at h; obtain ⟨rfl,rfl,rfl⟩:=h; rfl) ⟨v,u,c⟩
theorem fitsS_at (v:Vn 4) (u:Vn 4) (c:Chg):fitsS [.agg (cV v),.agg (cV u),.agg (cChg c)] []=some (⟨.bool (fitsB v u c),[],[]⟩):=fitsS_atG v u c
theorem fits_ok:HSound Tryz.prog 48 fitsS:=by
 refine sE_ (fn:=Tryz.f48) rfl rfl (by kernel_rfl) fun args bx hr hS=>?_
 obtain ⟨⟨v,u,c⟩,rfl,rfl,rfl⟩:=mO_ hS
 clear hS
 refine ⟨_,(eV_ (g:=68) (by kernel_rfl) mayI_ok (eV_ (g:=69) (by kernel_rfl) nextV_ok (eV_ (g:=70) (by kernel_rfl) numIn_ok (eN_ _)))),by simp [Tryz.f48],by simp [go_sem],fun w Mx pin=>?_⟩
 simp only [hB_at,lab_nil,lab_cons,hOf_nil,hOf_cons]
 refine aQ_ ?_
 iterate 4
  refine oC_ fun J hJ=>?_
  simp [go_sem]
  refine hJ _ _ _ ?_
 refine oN_ ?_
 refine aS_ fun K2 hK2=>?_
 cases hm:mayI c.id
 ·
  refine aD_ ?_
  iterate 29
   refine oC_ fun J hJ=>?_
   simp [go_sem,mayIS_at c.id,hm]
   refine hJ _ _ _ ?_
  refine oN_ ?_
  refine ⟨rfl,?_⟩
  refine hK2 _ ?_
  refine aE_ ?_
  refine fQ_ [] ?_
  simp [go_sem,Tryz.f48,fitsB,hm]
 ·
  obtain ⟨h0,h4,h5,_⟩:=mayI_rng hm
  cases hn:decide (nextV v c.id.rep=c.id) <;> cases ht:decide (1<=c.time/\c.time<=1073741824)
  all_goals
   refine aD_ ?_
   iterate 29
    refine oC_ fun J hJ=>?_
    simp [go_sem,mayIS_at c.id,hm,nextVS_at v c.id.rep,hn,numInS_at c.time 1 1073741824,ht,h0,h4,h5]
    refine hJ _ _ _ ?_
   refine oN_ ?_
   refine ⟨rfl,?_⟩
   refine hK2 _ ?_
   refine aE_ ?_
   refine fQ_ [] ?_
   simp [go_sem,Tryz.f48,fitsB,hm,hn,ht]
end Go.Proofs.YtjoaigccapegpaaGreat.AE
