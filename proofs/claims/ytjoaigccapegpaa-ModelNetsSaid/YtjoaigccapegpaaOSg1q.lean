/-
 Go's stable sort of requests, of any number: ranges swapped, rotated. Conditions: none; every contract names its own.
-/
import Derived.Test.YtjoaigccapegpaaOSm3
import Derived.Test.YtjoaigccapegpaaORq1
import Derived.Test.YtjoaigccapegpaaOSo1q
set_option linter.constructorNameAsVariable false
namespace Go.Proofs.Ytjoaigccapegpaa.AE
open Go Go.Proofs Go.RowKit
set_option linter.unusedVariables false
set_option linter.unusedSimpArgs false
set_option maxRecDepth 100000
set_option maxHeartbeats 4000000
structure swSReqX where
 L:List Req
 a:Nat
 b:Nat
 n:Nat
 h1:a + n<=L.length
 h2:b + n<=L.length
 hL:L.length<=100000
noncomputable def swSReq:HSpec:=mkH (ι:=swSReqX) (fun ⟨L,a,b,n,_,_,_⟩=>([.own (1,0) L.length,.int .i64 (a:Int),.int .i64 (b:Int),.int .i64 (n:Int),.fn 76 []],[.row 65 9 (rows cReq L) false])) fun ⟨L,a,b,n,_,_,_⟩=>⟨.tup [],[.row 65 9 (rows cReq (swL a b n L)) false],[]⟩
theorem swSReq_at (L:List Req) (a:Nat) (b:Nat) (n:Nat) (h1:a + n<=L.length) (h2:b + n<=L.length) (hL:L.length<=100000):swSReq [.own (1,0) L.length,.int .i64 (a:Int),.int .i64 (b:Int),.int .i64 (n:Int),.fn 76 []] [.row 65 9 (rows cReq L) false]=some ⟨.tup [],[.row 65 9 (rows cReq (swL a b n L)) false],[]⟩:=
 mA_ (ι:=swSReqX) (fun i j h=>by obtain ⟨L,a,b,n,h1,h2,hL⟩:=i; obtain ⟨L2,a2,b2,n2,h12,h22,hL2⟩:=j; simp [rows_iff_Req] at h; obtain ⟨⟨h0,h1,h2,h3⟩,rfl⟩:=h; obtain rfl:a=a2:=(by omega); obtain rfl:b=b2:=(by omega); obtain rfl:n=n2:=(by omega); rfl) ⟨L,a,b,n,h1,h2,hL⟩
def swIReq (L:List Req) (a b n i:Nat):St:=⟨ofL [(0,.own (1,0) L.length),(1,.int .i64 (a:Int)),(2,.int .i64 (b:Int)),(3,.int .i64 (n:Int)),(10,.int .i64 (i:Int))],hOf [((1,0),.row 65 9 (rows cReq (swL a b i L)) false)]⟩
theorem swSReq_ok:HSound Try.prog 123 swSReq:=by
 refine sE_ (fn:=Try.f123) rfl rfl (by kernel_rfl) fun args bx hr hS=>?_
 obtain ⟨⟨L,a,b,n,h1,h2,hL⟩,rfl,rfl,rfl⟩:=mO_ hS
 refine ⟨_,(eN_ _),by simp [Try.f123],by simp [go_sem,swL_len],fun w Mx pin=>?_⟩
 simp only [hB_at,lab_nil,lab_cons,hOf_nil,hOf_cons]
 refine aQ_ ?_
 iterate 1
  refine oC_ fun J hJ=>?_
  simp [go_sem]
  refine hJ _ _ _ ?_
 refine oN_ ?_
 refine aB_ ?_
 refine aL_ (ι:={ i:Nat // i<=n }) (fun q=>swIReq L a b n q.1) (fun q=>n - q.1) ⟨0,Nat.zero_le _⟩ ?_ ?_
 · refine wO_ [((1,0),some (1,0))] (by simp [go_sem]) ?_ ?_ <;> simp [go_sem,swL]
 intro ⟨i,hi⟩
 try simp only at hi
 simp only [swIReq]
 refine aS_ fun K2 hK2=>?_
 refine aQ_ ?_
 iterate 3
  refine oC_ fun J hJ=>?_
  simp [go_sem]
  refine hJ _ _ _ ?_
 refine oN_ ?_
 refine aC_ (t:=_) rfl (fun c4=>?_) (fun c4=>?_)
 ·
  simp [go_sem] at c4
  have hin:i < n:=by omega
  have hsl:=swL_len a b i L
  obtain ⟨x,hx⟩:∃ x,(swL a b i L)[a + i]?=some x:=⟨_,List.getElem?_eq_getElem (by omega)⟩
  obtain ⟨y,hy⟩:∃ y,(swL a b i L)[b + i]?=some y:=⟨_,List.getElem?_eq_getElem (by omega)⟩
  have wa:IntKind.i64.wrap ((a:Int) + (i:Int))=(a:Int) + (i:Int):=wA_ (by omega)
  have wb:IntKind.i64.wrap ((b:Int) + (i:Int))=(b:Int) + (i:Int):=wA_ (by omega)
  have ta:((a:Int) + (i:Int)).toNat=a + i:=by omega
  have tb:((b:Int) + (i:Int)).toNat=b + i:=by omega
  have pa:(0:Int)<=(a:Int) + (i:Int):=by omega
  have pb:(0:Int)<=(b:Int) + (i:Int):=by omega
  have la:(a:Int) + (i:Int) < (L.length:Int):=by omega
  have lb:(b:Int) + (i:Int) < (L.length:Int):=by omega
  have na:a + i < L.length:=by omega
  have nb:b + i < L.length:=by omega
  have wi:=wN_ (n:=i) (by omega)
  refine aK_ ?_
  refine hK2 _ ?_
  refine aS_ fun K5 hK5=>?_
  refine aB_ ?_
  refine aD_ ?_
  iterate 24
   refine oC_ fun J hJ=>?_
   simp [go_sem,wa,wb,ta,tb,pa,pb,la,lb,na,nb,↓hx,↓hy,hx,hy,swL_len]
   refine hJ _ _ _ ?_
  refine oN_ ?_
  refine ⟨rfl,?_⟩
  refine hK5 _ ?_
  refine aR_ ?_
  iterate 3
   refine oC_ fun J hJ=>?_
   simp [go_sem,wi]
   refine hJ _ _ _ ?_
  refine oN_ ?_
  refine ⟨⟨i + 1,hin⟩,?_,by simp; omega⟩
  refine wO_ [((1,0),some (1,0))] (by simp [go_sem]) ?_ ?_ <;> simp [go_sem,wi,swL_succ hx hy]
 ·
  simp [go_sem] at c4
  have hin:i=n:=by omega
  subst hin
  refine aX_ ?_
  simp only [go_sem]
  refine fQ_ [((1,0),some (1,0))] ?_
  simp [go_sem,Try.f123,swL_len]
structure rtSReqX where
 L:List Req
 a:Nat
 m:Nat
 b:Nat
 h1:a < m
 h2:m < b
 h3:b<=L.length
 hL:L.length<=100000
noncomputable def rtSReq:HSpec:=mkH (ι:=rtSReqX) (fun ⟨L,a,m,b,_,_,_,_⟩=>([.own (1,0) L.length,.int .i64 (a:Int),.int .i64 (m:Int),.int .i64 (b:Int),.fn 76 []],[.row 65 9 (rows cReq L) false])) fun ⟨L,a,m,b,_,_,_,_⟩=>⟨.tup [],[.row 65 9 (rows cReq (rotS m (m - a) (b - m) L)) false],[]⟩
theorem rtSReq_at (L:List Req) (a:Nat) (m:Nat) (b:Nat) (h1:a < m) (h2:m < b) (h3:b<=L.length) (hL:L.length<=100000):rtSReq [.own (1,0) L.length,.int .i64 (a:Int),.int .i64 (m:Int),.int .i64 (b:Int),.fn 76 []] [.row 65 9 (rows cReq L) false]=some ⟨.tup [],[.row 65 9 (rows cReq (rotS m (m - a) (b - m) L)) false],[]⟩:=
 mA_ (ι:=rtSReqX) (fun i j h=>by obtain ⟨L,a,m,b,h1,h2,h3,hL⟩:=i; obtain ⟨L2,a2,m2,b2,h12,h22,h32,hL2⟩:=j; simp [rows_iff_Req] at h; obtain ⟨⟨h0,h1,h2,h3⟩,rfl⟩:=h; obtain rfl:a=a2:=(by omega); obtain rfl:m=m2:=(by omega); obtain rfl:b=b2:=(by omega); rfl) ⟨L,a,m,b,h1,h2,h3,hL⟩
def rtIReq (n a m b:Nat) (M:List Req) (i j:Nat):St:=⟨ofL [(0,.own (1,0) n),(1,.int .i64 (a:Int)),(2,.int .i64 (m:Int)),(3,.int .i64 (b:Int)),(4,.fn 76 []),(10,.int .i64 (i:Int)),(11,.int .i64 (j:Int))],hOf [((1,0),.row 65 9 (rows cReq M) false)]⟩
theorem rtSReq_ok:HSound Try.prog 110 rtSReq:=by
  refine sE_ (fn:=Try.f110) rfl rfl (by kernel_rfl) fun args bx hr hS=>?_
  obtain ⟨⟨L,a,m,b,h1,h2,h3,hL⟩,rfl,rfl,rfl⟩:=mO_ hS
  refine ⟨_,(eH_ (g:=123) (by kernel_rfl) swSReq_ok (eN_ _)),by simp [Try.f110],by simp [go_sem,rotS_len (m:=m) (i:=m - a) (j:=b - m) (L:=L) (by omega) (by omega)],fun w Mx pin=>?_⟩
  simp only [hB_at,lab_nil,lab_cons,hOf_nil,hOf_cons]
  have w1:IntKind.i64.wrap ((m:Int) - (a:Int))=((m - a:Nat):Int):=by rw [show (m:Int) - (a:Int)=((m - a:Nat):Int) by omega]; exact wA_ (by omega)
  have w2:IntKind.i64.wrap ((b:Int) - (m:Int))=((b - m:Nat):Int):=by rw [show (b:Int) - (m:Int)=((b - m:Nat):Int) by omega]; exact wA_ (by omega)
  refine aQ_ ?_
  iterate 4
    refine oC_ fun J hJ=>?_
    simp [go_sem,w1]
    refine hJ _ _ _ ?_
  refine oN_ ?_
  refine aQ_ ?_
  iterate 4
    refine oC_ fun J hJ=>?_
    simp [go_sem,w2]
    refine hJ _ _ _ ?_
  refine oN_ ?_
  refine aS_ fun K3 hK3=>?_
  refine aB_ ?_
  refine aL_ (ι:={ q:List Req × Nat × Nat // q.1.length=L.length/\0 < q.2.1/\0 < q.2.2/\q.2.1<=m/\m + q.2.2<=L.length/\rotS m q.2.1 q.2.2 q.1=rotS m (m - a) (b - m) L }) (fun q=>rtIReq L.length a m b q.1.1 q.1.2.1 q.1.2.2) (fun q=>q.1.2.1 + q.1.2.2) ⟨(L,m - a,b - m),rfl,by simp only; omega,by simp only; omega,by simp only; omega,by simp only; omega,rfl⟩ ?_ ?_
  · refine wO_ [((1,0),some (1,0))] (by simp [go_sem]) ?_ ?_ <;> simp [go_sem,w1,w2]
  intro ⟨⟨M,i,j⟩,hM,hi0,hj0,him,hjm,hgo⟩
  try simp only at hM hi0 hj0 him hjm hgo
  have wmi:IntKind.i64.wrap ((m:Int) - (i:Int))=((m - i:Nat):Int):=by rw [show (m:Int) - (i:Int)=((m - i:Nat):Int) by omega]; exact wA_ (by omega)
  simp only [rtIReq]
  refine aS_ fun K4 hK4=>?_
  refine aQ_ ?_
  iterate 3
    refine oC_ fun J hJ=>?_
    simp [go_sem]
    refine hJ _ _ _ ?_
  refine oN_ ?_
  refine aC_ (t:=_) rfl (fun c6=>?_) (fun c6=>?_)
  · skip
    have hij:i ≠ j:=by
      intro h
      subst h
      simp at c6
    refine aK_ ?_
    refine hK4 _ ?_
    refine aB_ ?_
    refine aQ_ ?_
    iterate 3
      refine oC_ fun J hJ=>?_
      simp [go_sem]
      refine hJ _ _ _ ?_
    refine oN_ ?_
    refine aC_ (t:=_) rfl (fun c8=>?_) (fun c8=>?_)
    · simp [go_sem] at c8
      have hgt:j < i:=by omega
      have hs:=swSReq_at M (m - i) m j (by omega) (by omega) (by omega)
      rw [hM] at hs
      have wij:IntKind.i64.wrap ((i:Int) - (j:Int))=((i - j:Nat):Int):=by rw [show (i:Int) - (j:Int)=((i - j:Nat):Int) by omega]; exact wA_ (by omega)
      refine aQ_ ?_
      iterate 8
        refine oC_ fun J hJ=>?_
        simp [go_sem,wmi,↓hs]
        refine hJ _ _ _ ?_
      refine oN_ ?_
      refine aR_ ?_
      iterate 4
        refine oC_ fun J hJ=>?_
        simp [go_sem,wij]
        refine hJ _ _ _ ?_
      refine oN_ ?_
      first
        | (refine ⟨⟨(swL (m - i) m j M,i - j,j),by rw [swL_len]; exact hM,by simp only; omega,hj0,by simp only; omega,hjm,(rot_gt him (by omega) hgt).trans hgo⟩,?_,by simp only; omega⟩
           refine wO_ [((1,0),some (1,0))] (by simp [go_sem]) ?_ ?_ <;> (simp [go_sem,wij]; done))
        | (refine ⟨⟨(swL (m - i) (m + j - i) i M,i,j - i),by rw [swL_len]; exact hM,hi0,by simp only; omega,him,by simp only; omega,(rot_lt him (by omega) hlt).trans hgo⟩,?_,by simp only; omega⟩
           refine wO_ [((1,0),some (1,0))] (by simp [go_sem]) ?_ ?_ <;> (simp [go_sem,wij]; done))
    · simp [go_sem] at c8
      have hlt:i < j:=by omega
      have wmj:IntKind.i64.wrap ((m:Int) + (j:Int))=(m:Int) + (j:Int):=wA_ (by omega)
      have wmji:IntKind.i64.wrap ((m:Int) + (j:Int) - (i:Int))=((m + j - i:Nat):Int):=by rw [show (m:Int) + (j:Int) - (i:Int)=((m + j - i:Nat):Int) by omega]; exact wA_ (by omega)
      have hs:=swSReq_at M (m - i) (m + j - i) i (by omega) (by omega) (by omega)
      rw [hM] at hs
      have wij:IntKind.i64.wrap ((j:Int) - (i:Int))=((j - i:Nat):Int):=by rw [show (j:Int) - (i:Int)=((j - i:Nat):Int) by omega]; exact wA_ (by omega)
      refine aQ_ ?_
      iterate 12
        refine oC_ fun J hJ=>?_
        simp [go_sem,wmi,wmj,wmji,↓hs]
        refine hJ _ _ _ ?_
      refine oN_ ?_
      refine aR_ ?_
      iterate 4
        refine oC_ fun J hJ=>?_
        simp [go_sem,wij]
        refine hJ _ _ _ ?_
      refine oN_ ?_
      first
        | (refine ⟨⟨(swL (m - i) m j M,i - j,j),by rw [swL_len]; exact hM,by simp only; omega,hj0,by simp only; omega,hjm,(rot_gt him (by omega) hgt).trans hgo⟩,?_,by simp only; omega⟩
           refine wO_ [((1,0),some (1,0))] (by simp [go_sem]) ?_ ?_ <;> (simp [go_sem,wij]; done))
        | (refine ⟨⟨(swL (m - i) (m + j - i) i M,i,j - i),by rw [swL_len]; exact hM,hi0,by simp only; omega,him,by simp only; omega,(rot_lt him (by omega) hlt).trans hgo⟩,?_,by simp only; omega⟩
           refine wO_ [((1,0),some (1,0))] (by simp [go_sem]) ?_ ?_ <;> (simp [go_sem,wij]; done))
  · skip
    have hij:i=j:=by
      have h6:=c6
      simp at h6
      omega
    subst hij
    have hr:swL (m - i) m i M=rotS m (m - a) (b - m) L:=(rot_eq (L:=M) him (by omega)).trans hgo
    have hs:=swSReq_at M (m - i) m i (by omega) (by omega) (by omega)
    rw [hM] at hs
    refine aX_ ?_
    simp only [go_sem]
    refine hK3 _ ?_
    refine aR_ ?_
    iterate 8
      refine oC_ fun J hJ=>?_
      simp [go_sem,wmi,↓hs]
      refine hJ _ _ _ ?_
    refine oN_ ?_
    refine fQ_ [((1,0),some (1,0))] ?_
    simp [go_sem,Try.f110,hr]
end Go.Proofs.Ytjoaigccapegpaa.AE
