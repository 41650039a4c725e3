/-
 Package logs: what is written. Conditions: none; every contract names its own.
-/
import Derived.Test.YtjoaigccapegpaaGreatOLg3
import Derived.Test.YtjoaigccapegpaaGreatOLgp
set_option linter.constructorNameAsVariable false
namespace Go.Proofs.YtjoaigccapegpaaGreat.AE
open Go Go.Proofs Go.RowKit
set_option linter.unusedVariables false
set_option linter.unusedSimpArgs false
set_option maxRecDepth 100000
set_option maxHeartbeats 4000000
theorem runF_bD (d:List Chg) (c:Chg) (h:d.length<=10000):runFS [.agg (cBk (bD d).1 (.sl 7 (rows cOrd (bD d).2))),.sl 9 (rows cChg [c])] []=some ⟨.tup [.agg (cBk (bD (d++[c])).1 (.sl 7 (rows cOrd (bD (d++[c])).2))),.own (2,0) 1],[],[.row 50 2 (rows cOc (ouL (bD d) [c])) false]⟩:=by
 obtain ⟨h1,h2,h3⟩:=bD_fair d
 rw [bD_snoc]
 exact runFS_at (bD d).1 (bD d).2 [c] ⟨h1,h2,by simp; omega⟩
structure lMoreX where
 d:List Chg
 r:List Chg
 v:Vn 4
 u:Vn 4
 c:Chg
 hL:d.length<=9000
noncomputable def lMoreS:HSpec:=mkH (ι:=lMoreX) (fun ⟨d,r,v,u,c,hL⟩=>([.ref (1,0) 0,.agg (cChg c)],[.obj (cLg (.own (1,1) (d).length) (.own (1,2) (d).length) (bD (d)).1 (.sl 7 (rows cOrd (bD (d)).2)) (.bool true) (.ref (1,3) 0) v u),.row 35 9 (rows cChg (d)) false,.row 50 2 (rows cOc (oD (d))) false,.obj [.sl 9 (rows cChg (r))]])) fun ⟨d,r,v,u,c,hL⟩=>⟨.tup [],[.obj (cLg (.own (2,0) (d++[c]).length) (.own (2,1) (d++[c]).length) (bD (d++[c])).1 (.sl 7 (rows cOrd (bD (d++[c])).2)) (.bool true) (.ref (1,3) 0) v u),.dead,.dead,.obj [.sl 9 (rows cChg (r))]],[.row 35 9 (rows cChg (d++[c])) false,.row 50 2 (rows cOc (oD (d++[c]))) false]⟩
theorem lMoreS_atG (d:List Chg) (r:List Chg) (v:Vn 4) (u:Vn 4) (c:Chg) (hL:d.length<=9000):lMoreS [.ref (1,0) 0,.agg (cChg c)] [.obj (cLg (.own (1,1) (d).length) (.own (1,2) (d).length) (bD (d)).1 (.sl 7 (rows cOrd (bD (d)).2)) (.bool true) (.ref (1,3) 0) v u),.row 35 9 (rows cChg (d)) false,.row 50 2 (rows cOc (oD (d))) false,.obj [.sl 9 (rows cChg (r))]]=some (⟨.tup [],[.obj (cLg (.own (2,0) (d++[c]).length) (.own (2,1) (d++[c]).length) (bD (d++[c])).1 (.sl 7 (rows cOrd (bD (d++[c])).2)) (.bool true) (.ref (1,3) 0) v u),.dead,.dead,.obj [.sl 9 (rows cChg (r))]],[.row 35 9 (rows cChg (d++[c])) false,.row 50 2 (rows cOc (oD (d++[c]))) false]⟩):=
 mA_ (ι:=lMoreX) (fun i j h=>by obtain ⟨d,r,v,u,c,hL⟩:=i; obtain ⟨d2,r2,v2,u2,c2,hL2⟩:=j; simp [and_assoc,qB_,qI_,qO_,qC_,qE_,qK_,qR_,qV_,qP_,qOc_,rows_iff_Chg,cLg_eq_iff] at h; obtain ⟨rfl,_,_,_,rfl,rfl,rfl,_,rfl⟩:=h; rfl) ⟨d,r,v,u,c,hL⟩
theorem lMoreS_at (d:List Chg) (r:List Chg) (v:Vn 4) (u:Vn 4) (c:Chg) (hL:d.length<=9000):lMoreS [.ref (1,0) 0,.agg (cChg c)] [.obj (cLg (.own (1,1) (d).length) (.own (1,2) (d).length) (bD (d)).1 (.sl 7 (rows cOrd (bD (d)).2)) (.bool true) (.ref (1,3) 0) v u),.row 35 9 (rows cChg (d)) false,.row 50 2 (rows cOc (oD (d))) false,.obj [.sl 9 (rows cChg (r))]]=some (⟨.tup [],[.obj (cLg (.own (2,0) (d++[c]).length) (.own (2,1) (d++[c]).length) (bD (d++[c])).1 (.sl 7 (rows cOrd (bD (d++[c])).2)) (.bool true) (.ref (1,3) 0) v u),.dead,.dead,.obj [.sl 9 (rows cChg (r))]],[.row 35 9 (rows cChg (d++[c])) false,.row 50 2 (rows cOc (oD (d++[c]))) false]⟩):=lMoreS_atG d r v u c hL
theorem lMore_ok:HSound Tryz.prog 52 lMoreS:=by
 refine sE_ (fn:=Tryz.f52) rfl rfl (by kernel_rfl) fun args bx hr hS=>?_
 obtain ⟨⟨d,r,v,u,c,hL⟩,rfl,rfl,rfl⟩:=mO_ hS
 clear hS
 refine ⟨_,(eV_ (g:=38) (by kernel_rfl) runF_ok (eN_ _)),by simp [Tryz.f52],by simp [go_sem],fun w Mx pin=>?_⟩
 simp only [hB_at,lab_nil,lab_cons,hOf_nil,hOf_cons]
 have ho:=oD_len d
 have m1:(d.length + 1) * 72<=140737488355328:=by omega
 have m2:d.length + 1<=maxLen:=by simp only [maxLen]; omega
 have m3:(d.length + 1) * 16<=140737488355328:=by omega
 have hr:=runF_bD d c (by omega)
 generalize hB:bD (d++[c])=B2
 have hO2:(ouL (bD d) [c]).length=1:=ouL_len _ _
 generalize hO:ouL (bD d) [c]=O2 at hr hO2
 have htO:List.take 1 O2=O2:=by rw [<-hO2]; exact List.take_length
 have htD:List.take d.length (oD d)=oD d:=by rw [<-ho]; exact List.take_length
 have m4:(d.length + 1) * 32<=140737488355328:=by omega
 rw [hB] at hr
 refine aQ_ ?_
 iterate 1
  refine oC_ fun J hJ=>?_
  simp [go_sem]
  refine hJ _ _ _ ?_
 refine oN_ ?_
 refine aS_ fun K2 hK2=>?_
 by_cases hz:B2.2=[]/\∀ (x:List AV),x ∈ rows cOc O2->∀ (y:AV),y ∈ x->light y=true
 ·
  refine aD_ ?_
  iterate 13
   refine oC_ fun J hJ=>?_
   simp [go_sem,↓hr,if_pos hz]
   refine hJ _ _ _ ?_
  refine oN_ ?_
  refine ⟨rfl,?_⟩
  refine hK2 _ ?_
  refine aD_ ?_
  iterate 26
   refine oC_ fun J hJ=>?_
   simp [go_sem,ho,m1,m2,m3,m4,hO2,htO,htD]
   refine hJ _ _ _ ?_
  refine oN_ ?_
  refine ⟨rfl,?_⟩
  refine fQ_ [((1,0),some (1,0)),((1,1),some (1,1)),((1,2),some (1,2)),((1,3),some (1,3)),((2,0),some (0,400)),((2,1),some (0,496))] ?_
  simp [go_sem,Tryz.f52,oD_snoc,hO]
 ·
  refine aD_ ?_
  iterate 13
   refine oC_ fun J hJ=>?_
   simp [go_sem,↓hr,if_neg hz]
   refine hJ _ _ _ ?_
  refine oN_ ?_
  refine ⟨rfl,?_⟩
  refine hK2 _ ?_
  refine aD_ ?_
  iterate 26
   refine oC_ fun J hJ=>?_
   simp [go_sem,ho,m1,m2,m3,m4,hO2,htO,htD]
   refine hJ _ _ _ ?_
  refine oN_ ?_
  refine ⟨rfl,?_⟩
  refine fQ_ [((1,0),some (1,0)),((1,1),some (1,1)),((1,2),some (1,2)),((1,3),some (1,3)),((2,0),some (0,400)),((2,1),some (0,496))] ?_
  simp [go_sem,Tryz.f52,oD_snoc,hO]
structure lAddX where
 d:List Chg
 r:List Chg
 v:Vn 4
 u:Vn 4
 c:Chg
 hL:d.length + r.length<=10000
noncomputable def lAddS:HSpec:=mkH (ι:=lAddX) (fun ⟨d,r,v,u,c,hL⟩=>([.ref (1,0) 0,.agg (cChg c)],[.obj (cLg (.own (1,1) (d).length) (.own (1,2) (d).length) (bD (d)).1 (.sl 7 (rows cOrd (bD (d)).2)) (.bool true) (.ref (1,3) 0) v u),.row 35 9 (rows cChg (d)) false,.row 50 2 (rows cOc (oD (d))) false,.obj [.sl 9 (rows cChg (r))]])) fun ⟨d,r,v,u,c,hL⟩=>⟨.int .i64 (adC d r v u c),[.obj (cLg (.own (1,1) (d).length) (.own (1,2) (d).length) (bD (d)).1 (.sl 7 (rows cOrd (bD (d)).2)) (.bool true) (.ref (1,3) 0) (adV d r v u c) (adU d r v u c)),.row 35 9 (rows cChg (d)) false,.row 50 2 (rows cOc (oD (d))) false,.obj [.sl 9 (rows cChg (adR d r v u c))]],[]⟩
theorem lAddS_atG (d:List Chg) (r:List Chg) (v:Vn 4) (u:Vn 4) (c:Chg) (hL:d.length + r.length<=10000):lAddS [.ref (1,0) 0,.agg (cChg c)] [.obj (cLg (.own (1,1) (d).length) (.own (1,2) (d).length) (bD (d)).1 (.sl 7 (rows cOrd (bD (d)).2)) (.bool true) (.ref (1,3) 0) v u),.row 35 9 (rows cChg (d)) false,.row 50 2 (rows cOc (oD (d))) false,.obj [.sl 9 (rows cChg (r))]]=some (⟨.int .i64 (adC d r v u c),[.obj (cLg (.own (1,1) (d).length) (.own (1,2) (d).length) (bD (d)).1 (.sl 7 (rows cOrd (bD (d)).2)) (.bool true) (.ref (1,3) 0) (adV d r v u c) (adU d r v u c)),.row 35 9 (rows cChg (d)) false,.row 50 2 (rows cOc (oD (d))) false,.obj [.sl 9 (rows cChg (adR d r v u c))]],[]⟩):=
 mA_ (ι:=lAddX) (fun i j h=>by obtain ⟨d,r,v,u,c,hL⟩:=i; obtain ⟨d2,r2,v2,u2,c2,hL2⟩:=j; simp [and_assoc,qB_,qI_,qO_,qC_,qE_,qK_,qR_,qV_,qP_,qOc_,rows_iff_Chg,cLg_eq_iff] at h; obtain ⟨rfl,_,_,_,rfl,rfl,rfl,_,rfl⟩:=h; rfl) ⟨d,r,v,u,c,hL⟩
theorem lAddS_at (d:List Chg) (r:List Chg) (v:Vn 4) (u:Vn 4) (c:Chg) (hL:d.length + r.length<=10000):lAddS [.ref (1,0) 0,.agg (cChg c)] [.obj (cLg (.own (1,1) (d).length) (.own (1,2) (d).length) (bD (d)).1 (.sl 7 (rows cOrd (bD (d)).2)) (.bool true) (.ref (1,3) 0) v u),.row 35 9 (rows cChg (d)) false,.row 50 2 (rows cOc (oD (d))) false,.obj [.sl 9 (rows cChg (r))]]=some (⟨.int .i64 (adC d r v u c),[.obj (cLg (.own (1,1) (d).length) (.own (1,2) (d).length) (bD (d)).1 (.sl 7 (rows cOrd (bD (d)).2)) (.bool true) (.ref (1,3) 0) (adV d r v u c) (adU d r v u c)),.row 35 9 (rows cChg (d)) false,.row 50 2 (rows cOc (oD (d))) false,.obj [.sl 9 (rows cChg (adR d r v u c))]],[]⟩):=lAddS_atG d r v u c hL
theorem lAdd_ok:HSound Tryz.prog 24 lAddS:=by
 refine sE_ (fn:=Tryz.f24) rfl rfl (by kernel_rfl) fun args bx hr hS=>?_
 obtain ⟨⟨d,r,v,u,c,hL⟩,rfl,rfl,rfl⟩:=mO_ hS
 clear hS
 refine ⟨_,(eV_ (g:=32) (by kernel_rfl) isL_ok (eV_ (g:=47) (by kernel_rfl) tLen_ok (eV_ (g:=48) (by kernel_rfl) fits_ok (eV_ (g:=49) (by kernel_rfl) check_ok (eH_ (g:=50) (by kernel_rfl) tPut_ok (eN_ _)))))),by simp [Tryz.f24],by simp [go_sem],fun w Mx pin=>?_⟩
 simp only [hB_at,lab_nil,lab_cons,hOf_nil,hOf_cons]
 have hw:IntKind.i64.wrap ((d.length:Int) + (r.length:Int))=(d.length:Int) + (r.length:Int):=wA_ (by omega)
 refine aQ_ ?_
 iterate 2
  refine oC_ fun J hJ=>?_
  simp [go_sem]
  refine hJ _ _ _ ?_
 refine oN_ ?_
 refine aS_ fun K2 hK2=>?_
 refine aB_ ?_
 refine aQ_ ?_
 iterate 4
  refine oC_ fun J hJ=>?_
  simp [go_sem,isLS_at]
  refine hJ _ _ _ ?_
 refine oN_ ?_
 refine aF_ rfl ?_
 refine aS_ fun K6 hK6=>?_
 by_cases g1:48<=d.length + r.length
 ·
  have hc:adC d r v u c=3:=if_pos g1
  have g2:(48:Int)<=(d.length:Int) + (r.length:Int):=by omega
  refine aD_ ?_
  iterate 14
   refine oC_ fun J hJ=>?_
   simp [go_sem,tLenS_at r,hw,g2]
   refine hJ _ _ _ ?_
  refine oN_ ?_
  refine ⟨rfl,?_⟩
  refine hK6 _ ?_
  refine aT_ rfl ?_
  refine aQ_ ?_
  iterate 1
   refine oC_ fun J hJ=>?_
   simp [go_sem]
   refine hJ _ _ _ ?_
  refine oN_ ?_
  refine aE_ ?_
  refine fQ_ [((1,0),some (1,0)),((1,1),some (1,1)),((1,2),some (1,2)),((1,3),some (1,3))] ?_
  simp [go_sem,Tryz.f24,hc,adR,adV,adU]
 ·
  have g2:¬ (48:Int)<=(d.length:Int) + (r.length:Int):=by omega
  refine aD_ ?_
  iterate 14
   refine oC_ fun J hJ=>?_
   simp [go_sem,tLenS_at r,hw,g2]
   refine hJ _ _ _ ?_
  refine oN_ ?_
  refine ⟨rfl,?_⟩
  refine hK6 _ ?_
  refine aF_ rfl ?_
  refine aS_ fun K9 hK9=>?_
  cases g3:fitsB v u c
  ·
   have hc:adC d r v u c=9:=by rw [adC,if_neg g1,if_pos g3]
   refine aD_ ?_
   iterate 12
    refine oC_ fun J hJ=>?_
    simp [go_sem,fitsS_at v u c,g3]
    refine hJ _ _ _ ?_
   refine oN_ ?_
   refine ⟨rfl,?_⟩
   refine hK9 _ ?_
   refine aT_ rfl ?_
   refine aQ_ ?_
   iterate 1
    refine oC_ fun J hJ=>?_
    simp [go_sem]
    refine hJ _ _ _ ?_
   refine oN_ ?_
   refine aE_ ?_
   refine fQ_ [((1,0),some (1,0)),((1,1),some (1,1)),((1,2),some (1,2)),((1,3),some (1,3))] ?_
   simp [go_sem,Tryz.f24,hc,adR,adV,adU]
  ·
   refine aD_ ?_
   iterate 12
    refine oC_ fun J hJ=>?_
    simp [go_sem,fitsS_at v u c,g3]
    refine hJ _ _ _ ?_
   refine oN_ ?_
   refine ⟨rfl,?_⟩
   refine hK9 _ ?_
   refine aF_ rfl ?_
   refine aS_ fun K12 hK12=>?_
   cases g4:checkB c
   ·
    have hc:adC d r v u c=4:=by rw [adC,if_neg g1,if_neg (by simp [g3]),if_pos g4]
    refine aR_ ?_
    iterate 4
     refine oC_ fun J hJ=>?_
     simp [go_sem,checkS_at c,g4]
     refine hJ _ _ _ ?_
    refine oN_ ?_
    refine hK12 _ ?_
    refine aT_ rfl ?_
    refine aQ_ ?_
    iterate 1
     refine oC_ fun J hJ=>?_
     simp [go_sem]
     refine hJ _ _ _ ?_
    refine oN_ ?_
    refine aE_ ?_
    refine fQ_ [((1,0),some (1,0)),((1,1),some (1,1)),((1,2),some (1,2)),((1,3),some (1,3))] ?_
    simp [go_sem,Tryz.f24,hc,adR,adV,adU]
   ·
    have hc:adC d r v u c=0:=by rw [adC,if_neg g1,if_neg (by simp [g3]),if_neg (by simp [g4])]
    have hm:mayI c.id=true:=by
     cases hm:mayI c.id
     · simp [fitsB,hm] at g3
     · rfl
    obtain ⟨h0,h4,h5,_⟩:=mayI_rng hm
    have h7:29 + c.id.rep.toNat<=36:=by omega
    have h8:33 + c.id.rep.toNat<=36:=by omega
    refine aR_ ?_
    iterate 4
     refine oC_ fun J hJ=>?_
     simp [go_sem,checkS_at c,g4]
     refine hJ _ _ _ ?_
    refine oN_ ?_
    refine hK12 _ ?_
    refine aF_ rfl ?_
    refine aK_ ?_
    refine hK2 _ ?_
    refine aU_ ?_
    iterate 6
     refine oC_ fun J hJ=>?_
     simp [go_sem,tPutS_at r c (by omega)]
     refine hJ _ _ _ ?_
    refine oN_ ?_
    refine ⟨rfl,?_⟩
    refine aU_ ?_
    iterate 21
     refine oC_ fun J hJ=>?_
     simp [go_sem,h0,h4,h5,h7,h8,cLg_over_v _ _ _ _ _ _ _ _ _ h5,cLg_over_u _ _ _ _ _ _ _ _ _ h5]
     refine hJ _ _ _ ?_
    refine oN_ ?_
    refine ⟨rfl,?_⟩
    refine aQ_ ?_
    iterate 1
     refine oC_ fun J hJ=>?_
     simp [go_sem]
     refine hJ _ _ _ ?_
    refine oN_ ?_
    refine aE_ ?_
    refine fQ_ [((1,0),some (1,0)),((1,1),some (1,1)),((1,2),some (1,2)),((1,3),some (1,3))] ?_
    simp [go_sem,Tryz.f24,hc,adR,adV,adU]
def comH (d r:List Chg) (v u:Vn 4) (a:Id):HR:=if freeC r a=true then ⟨.int .i64 0,[.obj (cLg (.own (2,0) (d++[takeC r a]).length) (.own (2,1) (d++[takeC r a]).length) (bD (d++[takeC r a])).1 (.sl 7 (rows cOrd (bD (d++[takeC r a])).2)) (.bool true) (.ref (1,3) 0) v u),.dead,.dead,.obj [.sl 9 (rows cChg (takeL r a))]],[.row 35 9 (rows cChg (d++[takeC r a])) false,.row 50 2 (rows cOc (oD (d++[takeC r a]))) false]⟩ else ⟨.int .i64 (comC r a),[.obj (cLg (.own (1,1) (d).length) (.own (1,2) (d).length) (bD (d)).1 (.sl 7 (rows cOrd (bD (d)).2)) (.bool true) (.ref (1,3) 0) v u),.row 35 9 (rows cChg (d)) false,.row 50 2 (rows cOc (oD (d))) false,.obj [.sl 9 (rows cChg (r))]],[]⟩
structure lComX where
 d:List Chg
 r:List Chg
 v:Vn 4
 u:Vn 4
 a:Id
 hL:d.length + r.length<=9000
noncomputable def lComS:HSpec:=mkH (ι:=lComX) (fun ⟨d,r,v,u,a,hL⟩=>([.ref (1,0) 0,.agg (cId a)],[.obj (cLg (.own (1,1) (d).length) (.own (1,2) (d).length) (bD (d)).1 (.sl 7 (rows cOrd (bD (d)).2)) (.bool true) (.ref (1,3) 0) v u),.row 35 9 (rows cChg (d)) false,.row 50 2 (rows cOc (oD (d))) false,.obj [.sl 9 (rows cChg (r))]])) fun ⟨d,r,v,u,a,hL⟩=>comH d r v u a
theorem lComS_atG (d:List Chg) (r:List Chg) (v:Vn 4) (u:Vn 4) (a:Id) (hL:d.length + r.length<=9000):lComS [.ref (1,0) 0,.agg (cId a)] [.obj (cLg (.own (1,1) (d).length) (.own (1,2) (d).length) (bD (d)).1 (.sl 7 (rows cOrd (bD (d)).2)) (.bool true) (.ref (1,3) 0) v u),.row 35 9 (rows cChg (d)) false,.row 50 2 (rows cOc (oD (d))) false,.obj [.sl 9 (rows cChg (r))]]=some (comH d r v u a):=
 mA_ (ι:=lComX) (fun i j h=>by obtain ⟨d,r,v,u,a,hL⟩:=i; obtain ⟨d2,r2,v2,u2,a2,hL2⟩:=j; simp [and_assoc,qB_,qI_,qO_,qC_,qE_,qK_,qR_,qV_,qP_,qOc_,rows_iff_Chg,cLg_eq_iff] at h; obtain ⟨rfl,_,_,_,rfl,rfl,rfl,_,rfl⟩:=h; rfl) ⟨d,r,v,u,a,hL⟩
theorem lComS_at (d:List Chg) (r:List Chg) (v:Vn 4) (u:Vn 4) (a:Id) (hL:d.length + r.length<=9000):lComS [.ref (1,0) 0,.agg (cId a)] [.obj (cLg (.own (1,1) (d).length) (.own (1,2) (d).length) (bD (d)).1 (.sl 7 (rows cOrd (bD (d)).2)) (.bool true) (.ref (1,3) 0) v u),.row 35 9 (rows cChg (d)) false,.row 50 2 (rows cOc (oD (d))) false,.obj [.sl 9 (rows cChg (r))]]=some (comH d r v u a):=lComS_atG d r v u a hL
theorem lCom_ok:HSound Tryz.prog 25 lComS:=by
 refine sE_ (fn:=Tryz.f25) rfl rfl (by kernel_rfl) fun args bx hr hS=>?_
 obtain ⟨⟨d,r,v,u,a,hL⟩,rfl,rfl,rfl⟩:=mO_ hS
 clear hS
 refine ⟨_,(eV_ (g:=32) (by kernel_rfl) isL_ok (eV_ (g:=37) (by kernel_rfl) tAll_ok (eV_ (g:=35) (by kernel_rfl) findC_ok (eH_ (g:=51) (by kernel_rfl) tTake_ok (eH_ (g:=52) (by kernel_rfl) lMore_ok (eN_ _)))))),by simp [Tryz.f25],by cases hf:freeC r a <;> simp [go_sem,comH,hf],fun w Mx pin=>?_⟩
 simp only [hB_at,lab_nil,lab_cons,hOf_nil,hOf_cons]
 refine aQ_ ?_
 iterate 2
  refine oC_ fun J hJ=>?_
  simp [go_sem]
  refine hJ _ _ _ ?_
 refine oN_ ?_
 refine aS_ fun K2 hK2=>?_
 refine aQ_ ?_
 iterate 3
  refine oC_ fun J hJ=>?_
  simp [go_sem,isLS_at]
  refine hJ _ _ _ ?_
 refine oN_ ?_
 refine aF_ rfl ?_
 refine aK_ ?_
 refine hK2 _ ?_
 refine aS_ fun K6 hK6=>?_
 refine aS_ fun K7 hK7=>?_
 by_cases g1:placeC r a < 0
 ·
  have hc:comC r a=14:=if_pos g1
  have hf:freeC r a=false:=by unfold freeC; simp; omega
  have ht:takeL r a=r:=if_neg (by simp [hf])
  refine aD_ ?_
  iterate 8
   refine oC_ fun J hJ=>?_
   simp [go_sem,tAllS_at r (by omega),findCS_at r a (by omega),g1]
   refine hJ _ _ _ ?_
  refine oN_ ?_
  refine ⟨rfl,?_⟩
  refine hK7 _ ?_
  refine aT_ rfl ?_
  refine aQ_ ?_
  iterate 1
   refine oC_ fun J hJ=>?_
   simp [go_sem]
   refine hJ _ _ _ ?_
  refine oN_ ?_
  refine aE_ ?_
  rw [show comH d r v u a=_ from if_neg (by simp [hf])]
  refine fQ_ [((1,0),some (1,0)),((1,1),some (1,1)),((1,2),some (1,2)),((1,3),some (1,3))] ?_
  simp [go_sem,Tryz.f25,hc,ht]
 ·
  refine aD_ ?_
  iterate 8
   refine oC_ fun J hJ=>?_
   simp [go_sem,tAllS_at r (by omega),findCS_at r a (by omega),g1]
   refine hJ _ _ _ ?_
  refine oN_ ?_
  refine ⟨rfl,?_⟩
  refine hK7 _ ?_
  refine aF_ rfl ?_
  refine aK_ ?_
  refine hK6 _ ?_
  refine aS_ fun K10 hK10=>?_
  cases hf:freeC r a
  ·
   have hc:comC r a=9:=by rw [comC,if_neg g1,if_pos hf]
   have ht:takeL r a=r:=if_neg (by simp [hf])
   refine aD_ ?_
   iterate 12
    refine oC_ fun J hJ=>?_
    simp [go_sem,tTakeS_at r a (by omega),hf,ht]
    refine hJ _ _ _ ?_
   refine oN_ ?_
   refine ⟨rfl,?_⟩
   refine hK10 _ ?_
   refine aS_ fun K11 hK11=>?_
   refine aQ_ ?_
   iterate 2
    refine oC_ fun J hJ=>?_
    simp [go_sem]
    refine hJ _ _ _ ?_
   refine oN_ ?_
   refine aT_ rfl ?_
   refine aQ_ ?_
   iterate 1
    refine oC_ fun J hJ=>?_
    simp [go_sem]
    refine hJ _ _ _ ?_
   refine oN_ ?_
   refine aE_ ?_
   rw [show comH d r v u a=_ from if_neg (by simp [hf])]
   refine fQ_ [((1,0),some (1,0)),((1,1),some (1,1)),((1,2),some (1,2)),((1,3),some (1,3))] ?_
   simp [go_sem,Tryz.f25,hc,ht]
  ·
   have hc:comC r a=0:=by rw [comC,if_neg g1,if_neg (by simp [hf])]
   refine aD_ ?_
   iterate 12
    refine oC_ fun J hJ=>?_
    simp [go_sem,tTakeS_at r a (by omega),hf]
    refine hJ _ _ _ ?_
   refine oN_ ?_
   refine ⟨rfl,?_⟩
   refine hK10 _ ?_
   refine aS_ fun K11 hK11=>?_
   refine aQ_ ?_
   iterate 2
    refine oC_ fun J hJ=>?_
    simp [go_sem]
    refine hJ _ _ _ ?_
   refine oN_ ?_
   refine aF_ rfl ?_
   refine aK_ ?_
   refine hK11 _ ?_
   refine aU_ ?_
   iterate 5
    refine oC_ fun J hJ=>?_
    simp [go_sem,lMoreS_at d (takeL r a) v u (takeC r a) (by omega)]
    refine hJ _ _ _ ?_
   refine oN_ ?_
   refine ⟨rfl,?_⟩
   refine aQ_ ?_
   iterate 1
    refine oC_ fun J hJ=>?_
    simp [go_sem]
    refine hJ _ _ _ ?_
   refine oN_ ?_
   refine aE_ ?_
   rw [show comH d r v u a=_ from if_pos hf]
   refine fQ_ [((1,0),some (1,0)),((1,1),some (1,1)),((1,2),some (1,2)),((1,3),some (1,3)),((2,0),some (0,528)),((2,1),some (0,529))] ?_
   simp [go_sem,Tryz.f25]
end Go.Proofs.YtjoaigccapegpaaGreat.AE
