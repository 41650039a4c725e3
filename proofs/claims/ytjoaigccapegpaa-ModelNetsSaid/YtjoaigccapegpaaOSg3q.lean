/-
 Go's stable sort of requests, of any number. Conditions: none; every contract names its own.
-/
import Derived.Test.YtjoaigccapegpaaOSg2q
import Derived.Test.YtjoaigccapegpaaOSm4
set_option linter.constructorNameAsVariable false
namespace Go.Proofs.Ytjoaigccapegpaa.AE
open Go Go.Proofs Go.RowKit
set_option linter.unusedVariables false
set_option linter.unusedSimpArgs false
set_option maxRecDepth 100000
set_option maxHeartbeats 4000000
structure sbSReqX where
 L:List Req
 hL:L.length<=100000
noncomputable def sbSReq:HSpec:=mkH (ι:=sbSReqX) (fun ⟨L,_⟩=>([.own (1,0) L.length,.int .i64 (L.length:Int),.fn 76 []],[.row 65 9 (rows cReq L) false])) fun ⟨L,_⟩=>⟨.tup [],[.row 65 9 (rows cReq (ordL ordReq L)) false],[]⟩
theorem sbSReq_at (L:List Req) (hL:L.length<=100000):sbSReq [.own (1,0) L.length,.int .i64 (L.length:Int),.fn 76 []] [.row 65 9 (rows cReq L) false]=some ⟨.tup [],[.row 65 9 (rows cReq (ordL ordReq L)) false],[]⟩:=
 mA_ (ι:=sbSReqX) (fun i j h=>by obtain ⟨L,hL⟩:=i; obtain ⟨L2,hL2⟩:=j; simp [rows_iff_Req] at h; obtain rfl:L=L2:=(by first | exact h.2 | exact h); rfl) ⟨L,hL⟩
def sbIReq (L M:List Req) (a b:Nat):St:=⟨ofL [(0,.own (1,0) L.length),(1,.int .i64 (L.length:Int)),(2,.fn 76 []),(6,.int .i64 20),(7,.int .i64 (a:Int)),(8,.int .i64 (b:Int))],hOf [((1,0),.row 65 9 (rows cReq M) false)]⟩
def sbJReq (L:List Req) (k:Nat):St:=⟨ofL [(0,.own (1,0) L.length),(1,.int .i64 (L.length:Int)),(2,.fn 76 []),(6,.int .i64 (k:Int))],hOf [((1,0),.row 65 9 (rows cReq (blk ordReq k L.length L)) false)]⟩
def sbKReq (L:List Req) (k:Nat) (M:List Req) (a b:Nat):St:=⟨ofL [(0,.own (1,0) L.length),(1,.int .i64 (L.length:Int)),(2,.fn 76 []),(6,.int .i64 (k:Int)),(7,.int .i64 (a:Int)),(8,.int .i64 (b:Int))],hOf [((1,0),.row 65 9 (rows cReq M) false)]⟩
theorem bub_eq (p:Req->Req->Int) (a:Nat):∀ (j:Nat) (L:List Req),bubReq p a j L=bubG p a j L
 | 0,L=>rfl
 | j + 1,L=>by
  unfold bubReq bubG
  simp only [bub_eq p a j]
  cases L[j + 1]? <;> cases L[j]? <;> rfl
theorem ins_eq (p:Req->Req->Int) (a:Nat):∀ (n i:Nat) (L:List Req),insReq p a n i L=insG p a n i L
 | 0,i,L=>rfl
 | n + 1,i,L=>by
  unfold insReq insG
  rw [bub_eq,ins_eq p a n]
theorem sbSReq_ok:HSound Try.prog 95 sbSReq:=by
 refine sE_ (fn:=Try.f95) rfl rfl (by kernel_rfl) fun args bx hr hS=>?_
 obtain ⟨⟨L,hL⟩,rfl,rfl,rfl⟩:=mO_ hS
 refine ⟨_,(eH_ (g:=104) (by kernel_rfl) (insSReq_ok 76 ordReq ordReqS (by kernel_rfl) ordReq_ok ordReqS_at) (eH_ (g:=105) (by kernel_rfl) (sySReq_ok 100000) (eN_ _))),by simp [Try.f95],by simp [go_sem,ordL_len],fun w Mx pin=>?_⟩
 simp only [hB_at,lab_nil,lab_cons,hOf_nil,hOf_cons]
 have ho:Ordr ordReq:=ordr_req
 refine aQ_ ?_
 iterate 1
  refine oC_ fun J hJ=>?_
  simp [go_sem]
  refine hJ _ _ _ ?_
 refine oN_ ?_
 refine aQ_ ?_
 iterate 3
  refine oC_ fun J hJ=>?_
  simp [go_sem]
  refine hJ _ _ _ ?_
 refine oN_ ?_
 refine aS_ fun K3 hK3=>?_
 refine aB_ ?_
 refine aL_ (ι:={ q:List Req × Nat × Nat // Bk1 ordReq L q.1 q.2.1/\q.2.2=q.2.1 + 20 }) (fun q=>sbIReq L q.1.1 q.1.2.1 q.1.2.2) (fun q=>L.length - q.1.2.1) ⟨(L,0,20),Bk1.init _ L,rfl⟩ ?_ ?_
 · refine wO_ [((1,0),some (1,0))] (by simp [go_sem]) ?_ ?_ <;> simp [go_sem]
 intro ⟨⟨M,a,b⟩,hs,hb⟩
 try simp only at hs hb
 have hM:=hs.len
 have hal:=hs.le
 simp only [sbIReq]
 refine aS_ fun K4 hK4=>?_
 refine aQ_ ?_
 iterate 3
  refine oC_ fun J hJ=>?_
  simp [go_sem]
  refine hJ _ _ _ ?_
 refine oN_ ?_
 refine aC_ (t:=_) rfl (fun c6=>?_) (fun c6=>?_)
 ·
  simp [go_sem] at c6
  have wb:IntKind.i64.wrap ((b:Int) + 20)=(b:Int) + 20:=wA_ (by omega)
  have hi:=insSReq_at 76 ordReq M a b (by omega) (by omega) (by omega)
  rw [hM,ins_eq,show b - (a + 1)=19 by omega] at hi
  refine aK_ ?_
  refine hK4 _ ?_
  refine aB_ ?_
  refine aQ_ ?_
  iterate 5
   refine oC_ fun J hJ=>?_
   simp [go_sem,↓hi]
   refine hJ _ _ _ ?_
  refine oN_ ?_
  refine aQ_ ?_
  iterate 2
   refine oC_ fun J hJ=>?_
   simp [go_sem]
   refine hJ _ _ _ ?_
  refine oN_ ?_
  refine aR_ ?_
  iterate 4
   refine oC_ fun J hJ=>?_
   simp [go_sem,wb]
   refine hJ _ _ _ ?_
  refine oN_ ?_
  refine ⟨⟨(insG ordReq a 19 (a + 1) M,b,b + 20),by simp only; rw [hb]; exact hs.next ho (by omega),rfl⟩,?_,by simp only; omega⟩
  refine wO_ [((1,0),some (1,0))] (by simp [go_sem]) ?_ ?_ <;> simp [go_sem,wb]
 ·
  simp [go_sem] at c6
  have hi:=insSReq_at 76 ordReq M a L.length (by omega) (by omega) (by omega)
  rw [hM,ins_eq,hs.last ho (by omega)] at hi
  refine aX_ ?_
  simp only [go_sem]
  refine hK3 _ ?_
  refine aQ_ ?_
  iterate 5
   refine oC_ fun J hJ=>?_
   simp [go_sem,↓hi]
   refine hJ _ _ _ ?_
  refine oN_ ?_
  refine aB_ ?_
  refine aL_ (ι:={ k:Nat // 0 < k/\k<=200000 }) (fun q=>sbJReq L q.1) (fun q=>L.length - q.1) ⟨20,by omega,by omega⟩ ?_ ?_
  · refine wO_ [((1,0),some (1,0))] (by simp [go_sem]) ?_ ?_ <;> simp [go_sem]
  intro ⟨k,hk,hkm⟩
  try simp only at hk hkm
  have w2k:IntKind.i64.wrap (2 * (k:Int))=2 * (k:Int):=wA_ (by omega)
  have wk2:IntKind.i64.wrap ((k:Int) * 2)=(k:Int) * 2:=wA_ (by omega)
  simp only [sbJReq]
  refine aS_ fun K10 hK10=>?_
  refine aQ_ ?_
  iterate 3
   refine oC_ fun J hJ=>?_
   simp [go_sem]
   refine hJ _ _ _ ?_
  refine oN_ ?_
  refine aC_ (t:=_) rfl (fun c12=>?_) (fun c12=>?_)
  ·
   simp [go_sem] at c12
   have hkn:k < L.length:=by omega
   refine aK_ ?_
   refine hK10 _ ?_
   refine aB_ ?_
   refine aQ_ ?_
   iterate 4
    refine oC_ fun J hJ=>?_
    simp [go_sem,w2k]
    refine hJ _ _ _ ?_
   refine oN_ ?_
   refine aS_ fun K14 hK14=>?_
   refine aB_ ?_
   refine aL_ (ι:={ q:List Req × Nat × Nat // Mx2 ordReq L k q.1 q.2.1/\q.2.2=q.2.1 + 2 * k }) (fun q=>sbKReq L k q.1.1 q.1.2.1 q.1.2.2) (fun q=>L.length - q.1.2.1) ⟨(blk ordReq k L.length L,0,2 * k),Mx2.init L k,by simp⟩ ?_ ?_
   · refine wO_ [((1,0),some (1,0))] (by simp [go_sem]) ?_ ?_ <;> simp [go_sem,w2k]
   intro ⟨⟨M,a,b⟩,hs,hb⟩
   try simp only at hs hb
   have hM:=hs.len
   have hal:=hs.le
   obtain ⟨m,hm⟩:∃ m,m=a + k:=⟨_,rfl⟩
   have wm:IntKind.i64.wrap ((a:Int) + (k:Int))=(m:Int):=by rw [show (a:Int) + (k:Int)=(m:Int) by omega]; exact wA_ (by omega)
   simp only [sbKReq]
   refine aS_ fun K15 hK15=>?_
   refine aQ_ ?_
   iterate 3
    refine oC_ fun J hJ=>?_
    simp [go_sem]
    refine hJ _ _ _ ?_
   refine oN_ ?_
   refine aC_ (t:=_) rfl (fun c17=>?_) (fun c17=>?_)
   ·
    simp [go_sem] at c17
    obtain ⟨g1,g2,g3,g4⟩:=hs.step ho hk hm (by omega) (b:=b) (by omega)
    have hr:=sySReq_at 100000 M a m b (by omega) (by omega) (by omega) (by omega) g1 g2 (by omega)
    rw [hM] at hr
    have wb2:IntKind.i64.wrap ((b:Int) + 2 * (k:Int))=(b:Int) + 2 * (k:Int):=wA_ (by omega)
    refine aK_ ?_
    refine hK15 _ ?_
    refine aB_ ?_
    refine aQ_ ?_
    iterate 8
     refine oC_ fun J hJ=>?_
     simp [go_sem,wm,↓hr]
     refine hJ _ _ _ ?_
    refine oN_ ?_
    refine aQ_ ?_
    iterate 2
     refine oC_ fun J hJ=>?_
     simp [go_sem]
     refine hJ _ _ _ ?_
    refine oN_ ?_
    refine aR_ ?_
    iterate 5
     refine oC_ fun J hJ=>?_
     simp [go_sem,w2k,wb2]
     refine hJ _ _ _ ?_
    refine oN_ ?_
    refine ⟨⟨(symL ordReq a m b M,b,b + 2 * k),by simp only; rw [hb] at g3 ⊢; exact g3 (by omega),rfl⟩,?_,by simp only; omega⟩
    refine wO_ [((1,0),some (1,0))] (by simp [go_sem]) ?_ ?_ <;> simp [go_sem,wb2]
   ·
    simp [go_sem] at c17
    refine aX_ ?_
    simp only [go_sem]
    refine hK14 _ ?_
    refine aS_ fun K20 hK20=>?_
    refine aQ_ ?_
    iterate 4
     refine oC_ fun J hJ=>?_
     simp [go_sem,wm]
     refine hJ _ _ _ ?_
    refine oN_ ?_
    refine aQ_ ?_
    iterate 3
     refine oC_ fun J hJ=>?_
     simp [go_sem]
     refine hJ _ _ _ ?_
    refine oN_ ?_
    refine aC_ (t:=_) rfl (fun c23=>?_) (fun c23=>?_)
    ·
     simp [go_sem] at c23
     obtain ⟨g1,g2,g3,g4⟩:=hs.step ho hk hm (by omega) (b:=L.length) (by omega)
     have hr:=sySReq_at 100000 M a m L.length (by omega) (by omega) (by omega) (by omega) g1 g2 (by omega)
     rw [hM] at hr
     have hfin:=g4 (by omega)
     refine aR_ ?_
     iterate 6
      refine oC_ fun J hJ=>?_
      simp [go_sem,↓hr]
      refine hJ _ _ _ ?_
     refine oN_ ?_
     refine hK20 _ ?_
     refine aR_ ?_
     iterate 3
      refine oC_ fun J hJ=>?_
      simp [go_sem,wk2]
      refine hJ _ _ _ ?_
     refine oN_ ?_
     refine ⟨⟨k * 2,by omega,by omega⟩,?_,by simp only; omega⟩
     refine wO_ [((1,0),some (1,0))] (by simp [go_sem]) ?_ ?_ <;> simp [go_sem,wk2,<-hfin]
    ·
     simp [go_sem] at c23
     have hfin:M=blk ordReq (k * 2) L.length L:=hs.last ho hk (by omega)
     refine aK_ ?_
     refine hK20 _ ?_
     refine aR_ ?_
     iterate 3
      refine oC_ fun J hJ=>?_
      simp [go_sem,wk2]
      refine hJ _ _ _ ?_
     refine oN_ ?_
     refine ⟨⟨k * 2,by omega,by omega⟩,?_,by simp only; omega⟩
     refine wO_ [((1,0),some (1,0))] (by simp [go_sem]) ?_ ?_ <;> simp [go_sem,wk2,<-hfin]
  ·
   simp [go_sem] at c12
   have hd:blk ordReq k L.length L=ordL ordReq L:=blk_done k L hk (by omega)
   refine aX_ ?_
   simp only [go_sem]
   refine fQ_ [((1,0),some (1,0))] ?_
   simp [go_sem,Try.f95,hd,ordL_len]
structure soSReqX where
 L:List Req
 hL:L.length<=100000
noncomputable def soSReq:HSpec:=mkH (ι:=soSReqX) (fun ⟨L,_⟩=>([.own (1,0) L.length,.fn 76 []],[.row 65 9 (rows cReq L) false])) fun ⟨L,_⟩=>⟨.tup [],[.row 65 9 (rows cReq (ordL ordReq L)) false],[]⟩
theorem soSReq_at (L:List Req) (hL:L.length<=100000):soSReq [.own (1,0) L.length,.fn 76 []] [.row 65 9 (rows cReq L) false]=some ⟨.tup [],[.row 65 9 (rows cReq (ordL ordReq L)) false],[]⟩:=
 mA_ (ι:=soSReqX) (fun i j h=>by obtain ⟨L,hL⟩:=i; obtain ⟨L2,hL2⟩:=j; simp [rows_iff_Req] at h; obtain rfl:L=L2:=(by first | exact h.2 | exact h); rfl) ⟨L,hL⟩
theorem soSReq_ok:HSound Try.prog 75 soSReq:=by
 refine sE_ (fn:=Try.f75) rfl rfl (by kernel_rfl) fun args bx hr hS=>?_
 obtain ⟨⟨L,hL⟩,rfl,rfl,rfl⟩:=mO_ hS
 refine ⟨_,(eH_ (g:=95) (by kernel_rfl) sbSReq_ok (eN_ _)),by simp [Try.f75],by simp [go_sem,ordL_len],fun w Mx pin=>?_⟩
 simp only [hB_at,lab_nil,lab_cons,hOf_nil,hOf_cons]
 refine aR_ ?_
 iterate 5
  refine oC_ fun J hJ=>?_
  simp [go_sem,sbSReq_at L hL]
  refine hJ _ _ _ ?_
 refine oN_ ?_
 refine fQ_ [((1,0),some (1,0))] ?_
 simp [go_sem,Try.f75,ordL_len]
end Go.Proofs.Ytjoaigccapegpaa.AE
