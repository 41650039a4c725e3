/-
 A pen: fill: contracts. Conditions: none; every contract names its own.
-/
import Derived.Test.YtfbooejaabdkoaaOOc3
set_option linter.constructorNameAsVariable false
namespace Go.Proofs.Ytfbooejaabdkoaa.AE
open Go Go.Proofs Go.RowKit
set_option linter.unusedVariables false
set_option linter.unusedSimpArgs false
set_option maxRecDepth 100000
set_option maxHeartbeats 4000000
structure fillstX where
 p:Bool
 l:List U8
 n:Int
 k:Vn 4
 b:Bk
 hL:l.length<=140737488355328/\Oct l
noncomputable def fillstS:HSpec:=mkH (ι:=fillstX) (fun ⟨p,l,n,k,b,hL⟩=>([.agg [.ref (1,0) 0],.ref (1,1) 5],[.obj [.bool true,.bool p,.sl 1 (rows cU8 l)],.obj (cCut n k b .nils)])) fun ⟨p,l,n,k,b,hL⟩=>⟨.tup [],[.obj [.bool true,.bool (rdRs 8 (p,l) 8).1,.sl 1 (rows cU8 (rdRs 8 (p,l) 8).2)],.obj (cCut n k { b with st:=fillV b.st (p,l) 8 } .nils)],[]⟩
theorem fillstS_atG (p:Bool) (l:List U8) (n:Int) (k:Vn 4) (b:Bk) (hL:l.length<=140737488355328/\Oct l):fillstS [.agg [.ref (1,0) 0],.ref (1,1) 5] [.obj [.bool true,.bool p,.sl 1 (rows cU8 l)],.obj (cCut n k b .nils)]=some (⟨.tup [],[.obj [.bool true,.bool (rdRs 8 (p,l) 8).1,.sl 1 (rows cU8 (rdRs 8 (p,l) 8).2)],.obj (cCut n k { b with st:=fillV b.st (p,l) 8 } .nils)],[]⟩):=
 mA_ (ι:=fillstX) (fun i j h=>by obtain ⟨p,l,n,k,b,hL⟩:=i; obtain ⟨p2,l2,n2,k2,b2,hL2⟩:=j; simp [and_assoc,qB_,qI_,qO_,qC_,qE_,qK_,qR_,qV_,qP_,qOc_,rows_iff_U8,cCut_eq_iff,Int.natCast_inj] at h; obtain ⟨rfl,rfl,rfl,rfl,rfl⟩:=h; rfl) ⟨p,l,n,k,b,hL⟩
theorem fillstS_at (p:Bool) (l:List U8) (n:Int) (k:Vn 4) (b:Bk) (hL:l.length<=140737488355328/\Oct l):fillstS [.agg [.ref (1,0) 0],.ref (1,1) 5] [.obj [.bool true,.bool p,.sl 1 (rows cU8 l)],.obj (cCut n k b .nils)]=some (⟨.tup [],[.obj [.bool true,.bool (rdRs 8 (p,l) 8).1,.sl 1 (rows cU8 (rdRs 8 (p,l) 8).2)],.obj (cCut n k { b with st:=fillV b.st (p,l) 8 } .nils)],[]⟩):=fillstS_atG p l n k b hL
def fillstI (p:Bool) (l:List U8) (n:Int) (k:Vn 4) (b:Bk) (i:Nat):St:=⟨ofL [(1,.ref (1,1) 5),(2,.ref (0,32) 0),(5,.int .i64 i)],hOf [((1,0),.obj [.bool true,.bool (rdRs 8 (p,l) i).1,.sl 1 (rows cU8 (rdRs 8 (p,l) i).2)]),((1,1),.obj (cCut n k { b with st:=fillV b.st (p,l) i } .nils)),((0,32),.obj [.ref (1,0) 0])]⟩
theorem fillst_ok:HSound Try.prog 49 fillstS:=by
 refine sE_ (fn:=Try.f49) rfl rfl (by kernel_rfl) fun args bx hr hS=>?_
 obtain ⟨⟨p,l,n,k,b,hL⟩,rfl,rfl,rfl⟩:=mO_ hS
 clear hS
 refine ⟨_,(eH_ (g:=48) (by kernel_rfl) ptake_ok (eN_ _)),by simp [Try.f49],by simp [go_sem],fun w Mx pin=>?_⟩
 simp only [hB_at,lab_nil,lab_cons,hOf_nil,hOf_cons]
 refine aQ_ ?_
 iterate 1
  refine oC_ fun J hJ=>?_
  simp [go_sem]
  refine hJ _ _ _ ?_
 refine oN_ ?_
 refine aQ_ ?_
 iterate 1
  refine oC_ fun J hJ=>?_
  simp [go_sem]
  refine hJ _ _ _ ?_
 refine oN_ ?_
 refine aB_ ?_
 refine aL_ (ι:={ i:Nat // i<=8 }) (fun s=>fillstI p l n k b s.1) (fun s=>8 - s.1) ⟨0,by omega⟩ ?_ ?_
 · refine wO_ [((1,0),some (1,0)),((1,1),some (1,1)),((0,32),some (0,32))] (by simp [go_sem]) ?_ ?_ <;> simp [go_sem,rdRs_zero,fillV]
 intro ⟨i,hi⟩
 try simp only at hi
 obtain ⟨rr,hrr⟩:∃ rr,rr=rdRs 8 (p,l) i:=⟨_,rfl⟩
 obtain ⟨vv,hvv⟩:∃ vv,vv=fillV b.st (p,l) i:=⟨_,rfl⟩
 have hgd:rr.2.length<=140737488355328/\Oct rr.2:=by rw [hrr]; exact ⟨(rdRs_good hL.2 hL.1 i).2,(rdRs_good hL.2 hL.1 i).1⟩
 simp only [fillstI,<-hrr,<-hvv]
 refine aQ_ ?_
 iterate 1
  refine oC_ fun J hJ=>?_
  simp [go_sem]
  refine hJ _ _ _ ?_
 refine oN_ ?_
 refine aS_ fun K4 hK4=>?_
 refine aC_ (t:=_) rfl (fun c5=>?_) (fun c5=>?_)
 ·
  simp [go_sem] at c5
  have hi8:i + 1<=8:=by omega
  have hi7:i < 8:=by omega
  have hi7i:(i:Int) < 8:=by omega
  have hpt:=ptake_r rr 8 8 rfl ⟨hgd,by omega,by omega⟩
  refine aK_ ?_
  refine hK4 _ ?_
  refine aS_ fun K6 hK6=>?_
  refine aB_ ?_
  refine aQ_ ?_
  iterate 2
   refine oC_ fun J hJ=>?_
   simp [go_sem]
   refine hJ _ _ _ ?_
  refine oN_ ?_
  refine aD_ ?_
  iterate 7
   refine oC_ fun J hJ=>?_
   simp [go_sem,↓hpt,hi7,hi7i,show 5 + i<=29 by omega]
   refine hJ _ _ _ ?_
  refine oN_ ?_
  refine ⟨rfl,?_⟩
  refine hK6 _ ?_
  refine aR_ ?_
  iterate 2
   refine oC_ fun J hJ=>?_
   simp [go_sem]
   refine hJ _ _ _ ?_
  refine oN_ ?_
  refine ⟨⟨i + 1,hi8⟩,?_,by simp only; omega⟩
  refine wO_ [((1,0),some (1,0)),((1,1),some (1,1)),((0,32),some (0,32))] (by simp [go_sem]) ?_ ?_ <;> simp [go_sem,rdRs_succ,fillV_succ,<-hrr,<-hvv,wN_ (n:=i) (by omega)]
 ·
  simp [go_sem] at c5
  obtain rfl:i=8:=by omega
  refine aX_ ?_
  simp only [go_sem]
  refine fQ_ [((1,0),some (1,0)),((1,1),some (1,1))] ?_
  simp [go_sem,Try.f49,hrr,hvv]
structure fillprX where
 p:Bool
 l:List U8
 n:Int
 k:Vn 4
 b:Bk
 hL:l.length<=140737488355328/\Oct l
noncomputable def fillprS:HSpec:=mkH (ι:=fillprX) (fun ⟨p,l,n,k,b,hL⟩=>([.agg [.ref (1,0) 0],.ref (1,1) 13],[.obj [.bool true,.bool p,.sl 1 (rows cU8 l)],.obj (cCut n k b .nils)])) fun ⟨p,l,n,k,b,hL⟩=>⟨.tup [],[.obj [.bool true,.bool (rdRs 8 (p,l) 8).1,.sl 1 (rows cU8 (rdRs 8 (p,l) 8).2)],.obj (cCut n k { b with pr:=fillV b.pr (p,l) 8 } .nils)],[]⟩
theorem fillprS_atG (p:Bool) (l:List U8) (n:Int) (k:Vn 4) (b:Bk) (hL:l.length<=140737488355328/\Oct l):fillprS [.agg [.ref (1,0) 0],.ref (1,1) 13] [.obj [.bool true,.bool p,.sl 1 (rows cU8 l)],.obj (cCut n k b .nils)]=some (⟨.tup [],[.obj [.bool true,.bool (rdRs 8 (p,l) 8).1,.sl 1 (rows cU8 (rdRs 8 (p,l) 8).2)],.obj (cCut n k { b with pr:=fillV b.pr (p,l) 8 } .nils)],[]⟩):=
 mA_ (ι:=fillprX) (fun i j h=>by obtain ⟨p,l,n,k,b,hL⟩:=i; obtain ⟨p2,l2,n2,k2,b2,hL2⟩:=j; simp [and_assoc,qB_,qI_,qO_,qC_,qE_,qK_,qR_,qV_,qP_,qOc_,rows_iff_U8,cCut_eq_iff,Int.natCast_inj] at h; obtain ⟨rfl,rfl,rfl,rfl,rfl⟩:=h; rfl) ⟨p,l,n,k,b,hL⟩
theorem fillprS_at (p:Bool) (l:List U8) (n:Int) (k:Vn 4) (b:Bk) (hL:l.length<=140737488355328/\Oct l):fillprS [.agg [.ref (1,0) 0],.ref (1,1) 13] [.obj [.bool true,.bool p,.sl 1 (rows cU8 l)],.obj (cCut n k b .nils)]=some (⟨.tup [],[.obj [.bool true,.bool (rdRs 8 (p,l) 8).1,.sl 1 (rows cU8 (rdRs 8 (p,l) 8).2)],.obj (cCut n k { b with pr:=fillV b.pr (p,l) 8 } .nils)],[]⟩):=fillprS_atG p l n k b hL
def fillprI (p:Bool) (l:List U8) (n:Int) (k:Vn 4) (b:Bk) (i:Nat):St:=⟨ofL [(1,.ref (1,1) 13),(2,.ref (0,32) 0),(5,.int .i64 i)],hOf [((1,0),.obj [.bool true,.bool (rdRs 8 (p,l) i).1,.sl 1 (rows cU8 (rdRs 8 (p,l) i).2)]),((1,1),.obj (cCut n k { b with pr:=fillV b.pr (p,l) i } .nils)),((0,32),.obj [.ref (1,0) 0])]⟩
theorem fillpr_ok:HSound Try.prog 49 fillprS:=by
 refine sE_ (fn:=Try.f49) rfl rfl (by kernel_rfl) fun args bx hr hS=>?_
 obtain ⟨⟨p,l,n,k,b,hL⟩,rfl,rfl,rfl⟩:=mO_ hS
 clear hS
 refine ⟨_,(eH_ (g:=48) (by kernel_rfl) ptake_ok (eN_ _)),by simp [Try.f49],by simp [go_sem],fun w Mx pin=>?_⟩
 simp only [hB_at,lab_nil,lab_cons,hOf_nil,hOf_cons]
 refine aQ_ ?_
 iterate 1
  refine oC_ fun J hJ=>?_
  simp [go_sem]
  refine hJ _ _ _ ?_
 refine oN_ ?_
 refine aQ_ ?_
 iterate 1
  refine oC_ fun J hJ=>?_
  simp [go_sem]
  refine hJ _ _ _ ?_
 refine oN_ ?_
 refine aB_ ?_
 refine aL_ (ι:={ i:Nat // i<=8 }) (fun s=>fillprI p l n k b s.1) (fun s=>8 - s.1) ⟨0,by omega⟩ ?_ ?_
 · refine wO_ [((1,0),some (1,0)),((1,1),some (1,1)),((0,32),some (0,32))] (by simp [go_sem]) ?_ ?_ <;> simp [go_sem,rdRs_zero,fillV]
 intro ⟨i,hi⟩
 try simp only at hi
 obtain ⟨rr,hrr⟩:∃ rr,rr=rdRs 8 (p,l) i:=⟨_,rfl⟩
 obtain ⟨vv,hvv⟩:∃ vv,vv=fillV b.pr (p,l) i:=⟨_,rfl⟩
 have hgd:rr.2.length<=140737488355328/\Oct rr.2:=by rw [hrr]; exact ⟨(rdRs_good hL.2 hL.1 i).2,(rdRs_good hL.2 hL.1 i).1⟩
 simp only [fillprI,<-hrr,<-hvv]
 refine aQ_ ?_
 iterate 1
  refine oC_ fun J hJ=>?_
  simp [go_sem]
  refine hJ _ _ _ ?_
 refine oN_ ?_
 refine aS_ fun K4 hK4=>?_
 refine aC_ (t:=_) rfl (fun c5=>?_) (fun c5=>?_)
 ·
  simp [go_sem] at c5
  have hi8:i + 1<=8:=by omega
  have hi7:i < 8:=by omega
  have hi7i:(i:Int) < 8:=by omega
  have hpt:=ptake_r rr 8 8 rfl ⟨hgd,by omega,by omega⟩
  refine aK_ ?_
  refine hK4 _ ?_
  refine aS_ fun K6 hK6=>?_
  refine aB_ ?_
  refine aQ_ ?_
  iterate 2
   refine oC_ fun J hJ=>?_
   simp [go_sem]
   refine hJ _ _ _ ?_
  refine oN_ ?_
  refine aD_ ?_
  iterate 7
   refine oC_ fun J hJ=>?_
   simp [go_sem,↓hpt,hi7,hi7i,show 13 + i<=29 by omega]
   refine hJ _ _ _ ?_
  refine oN_ ?_
  refine ⟨rfl,?_⟩
  refine hK6 _ ?_
  refine aR_ ?_
  iterate 2
   refine oC_ fun J hJ=>?_
   simp [go_sem]
   refine hJ _ _ _ ?_
  refine oN_ ?_
  refine ⟨⟨i + 1,hi8⟩,?_,by simp only; omega⟩
  refine wO_ [((1,0),some (1,0)),((1,1),some (1,1)),((0,32),some (0,32))] (by simp [go_sem]) ?_ ?_ <;> simp [go_sem,rdRs_succ,fillV_succ,<-hrr,<-hvv,wN_ (n:=i) (by omega)]
 ·
  simp [go_sem] at c5
  obtain rfl:i=8:=by omega
  refine aX_ ?_
  simp only [go_sem]
  refine fQ_ [((1,0),some (1,0)),((1,1),some (1,1))] ?_
  simp [go_sem,Try.f49,hrr,hvv]
structure fillpuX where
 p:Bool
 l:List U8
 n:Int
 k:Vn 4
 b:Bk
 hL:l.length<=140737488355328/\Oct l
noncomputable def fillpuS:HSpec:=mkH (ι:=fillpuX) (fun ⟨p,l,n,k,b,hL⟩=>([.agg [.ref (1,0) 0],.ref (1,1) 21],[.obj [.bool true,.bool p,.sl 1 (rows cU8 l)],.obj (cCut n k b .nils)])) fun ⟨p,l,n,k,b,hL⟩=>⟨.tup [],[.obj [.bool true,.bool (rdRs 8 (p,l) 8).1,.sl 1 (rows cU8 (rdRs 8 (p,l) 8).2)],.obj (cCut n k { b with pu:=fillV b.pu (p,l) 8 } .nils)],[]⟩
theorem fillpuS_atG (p:Bool) (l:List U8) (n:Int) (k:Vn 4) (b:Bk) (hL:l.length<=140737488355328/\Oct l):fillpuS [.agg [.ref (1,0) 0],.ref (1,1) 21] [.obj [.bool true,.bool p,.sl 1 (rows cU8 l)],.obj (cCut n k b .nils)]=some (⟨.tup [],[.obj [.bool true,.bool (rdRs 8 (p,l) 8).1,.sl 1 (rows cU8 (rdRs 8 (p,l) 8).2)],.obj (cCut n k { b with pu:=fillV b.pu (p,l) 8 } .nils)],[]⟩):=
 mA_ (ι:=fillpuX) (fun i j h=>by obtain ⟨p,l,n,k,b,hL⟩:=i; obtain ⟨p2,l2,n2,k2,b2,hL2⟩:=j; simp [and_assoc,qB_,qI_,qO_,qC_,qE_,qK_,qR_,qV_,qP_,qOc_,rows_iff_U8,cCut_eq_iff,Int.natCast_inj] at h; obtain ⟨rfl,rfl,rfl,rfl,rfl⟩:=h; rfl) ⟨p,l,n,k,b,hL⟩
theorem fillpuS_at (p:Bool) (l:List U8) (n:Int) (k:Vn 4) (b:Bk) (hL:l.length<=140737488355328/\Oct l):fillpuS [.agg [.ref (1,0) 0],.ref (1,1) 21] [.obj [.bool true,.bool p,.sl 1 (rows cU8 l)],.obj (cCut n k b .nils)]=some (⟨.tup [],[.obj [.bool true,.bool (rdRs 8 (p,l) 8).1,.sl 1 (rows cU8 (rdRs 8 (p,l) 8).2)],.obj (cCut n k { b with pu:=fillV b.pu (p,l) 8 } .nils)],[]⟩):=fillpuS_atG p l n k b hL
def fillpuI (p:Bool) (l:List U8) (n:Int) (k:Vn 4) (b:Bk) (i:Nat):St:=⟨ofL [(1,.ref (1,1) 21),(2,.ref (0,32) 0),(5,.int .i64 i)],hOf [((1,0),.obj [.bool true,.bool (rdRs 8 (p,l) i).1,.sl 1 (rows cU8 (rdRs 8 (p,l) i).2)]),((1,1),.obj (cCut n k { b with pu:=fillV b.pu (p,l) i } .nils)),((0,32),.obj [.ref (1,0) 0])]⟩
theorem fillpu_ok:HSound Try.prog 49 fillpuS:=by
 refine sE_ (fn:=Try.f49) rfl rfl (by kernel_rfl) fun args bx hr hS=>?_
 obtain ⟨⟨p,l,n,k,b,hL⟩,rfl,rfl,rfl⟩:=mO_ hS
 clear hS
 refine ⟨_,(eH_ (g:=48) (by kernel_rfl) ptake_ok (eN_ _)),by simp [Try.f49],by simp [go_sem],fun w Mx pin=>?_⟩
 simp only [hB_at,lab_nil,lab_cons,hOf_nil,hOf_cons]
 refine aQ_ ?_
 iterate 1
  refine oC_ fun J hJ=>?_
  simp [go_sem]
  refine hJ _ _ _ ?_
 refine oN_ ?_
 refine aQ_ ?_
 iterate 1
  refine oC_ fun J hJ=>?_
  simp [go_sem]
  refine hJ _ _ _ ?_
 refine oN_ ?_
 refine aB_ ?_
 refine aL_ (ι:={ i:Nat // i<=8 }) (fun s=>fillpuI p l n k b s.1) (fun s=>8 - s.1) ⟨0,by omega⟩ ?_ ?_
 · refine wO_ [((1,0),some (1,0)),((1,1),some (1,1)),((0,32),some (0,32))] (by simp [go_sem]) ?_ ?_ <;> simp [go_sem,rdRs_zero,fillV]
 intro ⟨i,hi⟩
 try simp only at hi
 obtain ⟨rr,hrr⟩:∃ rr,rr=rdRs 8 (p,l) i:=⟨_,rfl⟩
 obtain ⟨vv,hvv⟩:∃ vv,vv=fillV b.pu (p,l) i:=⟨_,rfl⟩
 have hgd:rr.2.length<=140737488355328/\Oct rr.2:=by rw [hrr]; exact ⟨(rdRs_good hL.2 hL.1 i).2,(rdRs_good hL.2 hL.1 i).1⟩
 simp only [fillpuI,<-hrr,<-hvv]
 refine aQ_ ?_
 iterate 1
  refine oC_ fun J hJ=>?_
  simp [go_sem]
  refine hJ _ _ _ ?_
 refine oN_ ?_
 refine aS_ fun K4 hK4=>?_
 refine aC_ (t:=_) rfl (fun c5=>?_) (fun c5=>?_)
 ·
  simp [go_sem] at c5
  have hi8:i + 1<=8:=by omega
  have hi7:i < 8:=by omega
  have hi7i:(i:Int) < 8:=by omega
  have hpt:=ptake_r rr 8 8 rfl ⟨hgd,by omega,by omega⟩
  refine aK_ ?_
  refine hK4 _ ?_
  refine aS_ fun K6 hK6=>?_
  refine aB_ ?_
  refine aQ_ ?_
  iterate 2
   refine oC_ fun J hJ=>?_
   simp [go_sem]
   refine hJ _ _ _ ?_
  refine oN_ ?_
  refine aD_ ?_
  iterate 7
   refine oC_ fun J hJ=>?_
   simp [go_sem,↓hpt,hi7,hi7i,show 21 + i<=29 by omega]
   refine hJ _ _ _ ?_
  refine oN_ ?_
  refine ⟨rfl,?_⟩
  refine hK6 _ ?_
  refine aR_ ?_
  iterate 2
   refine oC_ fun J hJ=>?_
   simp [go_sem]
   refine hJ _ _ _ ?_
  refine oN_ ?_
  refine ⟨⟨i + 1,hi8⟩,?_,by simp only; omega⟩
  refine wO_ [((1,0),some (1,0)),((1,1),some (1,1)),((0,32),some (0,32))] (by simp [go_sem]) ?_ ?_ <;> simp [go_sem,rdRs_succ,fillV_succ,<-hrr,<-hvv,wN_ (n:=i) (by omega)]
 ·
  simp [go_sem] at c5
  obtain rfl:i=8:=by omega
  refine aX_ ?_
  simp only [go_sem]
  refine fQ_ [((1,0),some (1,0)),((1,1),some (1,1))] ?_
  simp [go_sem,Try.f49,hrr,hvv]
end Go.Proofs.Ytfbooejaabdkoaa.AE
