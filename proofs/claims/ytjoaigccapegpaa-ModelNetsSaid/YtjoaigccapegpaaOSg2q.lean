/-
 Go's stable sort of requests, of any number: the symmetric merge. Conditions: none; every contract names its own.
-/
import Derived.Test.YtjoaigccapegpaaOSg1q
set_option linter.constructorNameAsVariable false
namespace Go.Proofs.Ytjoaigccapegpaa.AE
open Go Go.Proofs Go.RowKit
set_option linter.unusedVariables false
set_option linter.unusedSimpArgs false
set_option maxRecDepth 100000
set_option maxHeartbeats 4000000
theorem wrap_u {n:Int} (h0:0<=n) (h1:n<=4611686018427387904):IntKind.u64.wrap n=n:=by
 unfold IntKind.wrap
 simp [IntKind.bits,IntKind.signed]
 omega
theorem half_div (i j:Nat):((i:Int) + (j:Int)).fdiv 2=(((i + j) / 2:Nat):Int):=by
 rw [Int.fdiv_eq_ediv_of_nonneg _ (by omega)]
 omega
structure sySReqX (w:Nat) where
 L:List Req
 a:Nat
 m:Nat
 b:Nat
 ha:a < m
 hb:m < b
 hl:b<=L.length
 hw:b - a<=w
 hX:Srt ordReq (seg a m L)
 hY:Srt ordReq (seg m b L)
 hL:L.length<=100000
noncomputable def sySReq (w:Nat):HSpec:=mkH (ι:=sySReqX w) (fun ⟨L,a,m,b,_,_,_,_,_,_,_⟩=>([.own (1,0) L.length,.int .i64 (a:Int),.int .i64 (m:Int),.int .i64 (b:Int),.fn 76 []],[.row 65 9 (rows cReq L) false])) fun ⟨L,a,m,b,_,_,_,_,_,_,_⟩=>⟨.tup [],[.row 65 9 (rows cReq (symL ordReq a m b L)) false],[]⟩
theorem sySReq_at (w:Nat) (L:List Req) (a:Nat) (m:Nat) (b:Nat) (ha:a < m) (hb:m < b) (hl:b<=L.length) (hw:b - a<=w) (hX:Srt ordReq (seg a m L)) (hY:Srt ordReq (seg m b L)) (hL:L.length<=100000):sySReq w [.own (1,0) L.length,.int .i64 (a:Int),.int .i64 (m:Int),.int .i64 (b:Int),.fn 76 []] [.row 65 9 (rows cReq L) false]=some ⟨.tup [],[.row 65 9 (rows cReq (symL ordReq a m b L)) false],[]⟩:=
 mA_ (ι:=sySReqX w) (A:=fun ⟨L,a,m,b,_,_,_,_,_,_,_⟩=>([.own (1,0) L.length,.int .i64 (a:Int),.int .i64 (m:Int),.int .i64 (b:Int),.fn 76 []],[.row 65 9 (rows cReq L) false])) (R:=fun ⟨L,a,m,b,_,_,_,_,_,_,_⟩=>⟨.tup [],[.row 65 9 (rows cReq (symL ordReq a m b L)) false],[]⟩) (fun i j h=>by obtain ⟨L,a,m,b,ha,hb,hl,hw,hX,hY,hL⟩:=i; obtain ⟨L2,a2,m2,b2,ha2,hb2,hl2,hw2,hX2,hY2,hL2⟩:=j; simp [rows_iff_Req] at h; obtain ⟨⟨h0,h1,h2,h3⟩,rfl⟩:=h; obtain rfl:a=a2:=(by omega); obtain rfl:m=m2:=(by omega); obtain rfl:b=b2:=(by omega); rfl) ⟨L,a,m,b,ha,hb,hl,hw,hX,hY,hL⟩
def syAReq (n a m b:Nat) (M:List Req) (i j:Nat):St:=⟨ofL [(0,.own (1,0) n),(1,.int .i64 (a:Int)),(2,.int .i64 (m:Int)),(3,.int .i64 (b:Int)),(4,.fn 76 []),(10,.int .i64 (i:Int)),(11,.int .i64 (j:Int))],hOf [((1,0),.row 65 9 (rows cReq M) false)]⟩
def syBReq (n a m b:Nat) (M:List Req) (i k:Nat):St:=⟨ofL [(0,.own (1,0) n),(1,.int .i64 (a:Int)),(2,.int .i64 (m:Int)),(3,.int .i64 (b:Int)),(4,.fn 76 []),(10,.int .i64 (i:Int)),(13,.int .i64 ((a + k:Nat):Int))],hOf [((1,0),.row 65 9 (rows cReq M) false)]⟩
def syCReq (n a m b:Nat) (M:List Req) (i j:Nat):St:=⟨ofL [(0,.own (1,0) n),(1,.int .i64 (a:Int)),(2,.int .i64 (m:Int)),(3,.int .i64 (b:Int)),(4,.fn 76 []),(14,.int .i64 (i:Int)),(15,.int .i64 (j:Int))],hOf [((1,0),.row 65 9 (rows cReq M) false)]⟩
def syDReq (n a m b:Nat) (M:List Req) (i k:Nat):St:=⟨ofL [(0,.own (1,0) n),(1,.int .i64 (a:Int)),(2,.int .i64 (m:Int)),(3,.int .i64 (b:Int)),(4,.fn 76 []),(14,.int .i64 (i:Int)),(17,.int .i64 (k:Int))],hOf [((1,0),.row 65 9 (rows cReq M) false)]⟩
def syEReq (n a m b:Nat) (M:List Req) (mid lo hi:Nat):St:=⟨ofL [(0,.own (1,0) n),(1,.int .i64 (a:Int)),(2,.int .i64 (m:Int)),(3,.int .i64 (b:Int)),(4,.fn 76 []),(18,.int .i64 (mid:Int)),(19,.int .i64 ((mid + m:Nat):Int)),(20,.int .i64 (lo:Int)),(21,.int .i64 (hi:Int))],hOf [((1,0),.row 65 9 (rows cReq M) false)]⟩
def syFReq (n a m b:Nat) (M:List Req) (mid i j q:Nat):St:=⟨ofL [(0,.own (1,0) n),(1,.int .i64 (a:Int)),(2,.int .i64 (m:Int)),(3,.int .i64 (b:Int)),(4,.fn 76 []),(18,.int .i64 (mid:Int)),(19,.int .i64 ((mid + m:Nat):Int)),(20,.int .i64 (i:Int)),(21,.int .i64 (j:Int)),(22,.int .i64 (q:Int))],hOf [((1,0),.row 65 9 (rows cReq M) false)]⟩
def syGReq (n a m b:Nat) (M:List Req) (mid s e:Nat):St:=⟨ofL [(0,.own (1,0) n),(1,.int .i64 (a:Int)),(2,.int .i64 (m:Int)),(3,.int .i64 (b:Int)),(4,.fn 76 []),(18,.int .i64 (mid:Int)),(20,.int .i64 (s:Int)),(24,.int .i64 (e:Int))],hOf [((1,0),.row 65 9 (rows cReq M) false)]⟩
theorem sySReq_step (w0:Nat) (ih:HSound Try.prog 105 (sySReq w0)):HSound Try.prog 105 (sySReq (w0 + 1)):=by
  refine sE_ (fn:=Try.f105) rfl rfl (by kernel_rfl) fun args bx hr hS=>?_
  obtain ⟨⟨L,a,m,b,ha,hb,hl,hw,hX,hY,hL⟩,rfl,rfl,rfl⟩:=mO_ hS
  refine ⟨_,(eH_ (g:=110) (by kernel_rfl) rtSReq_ok (eH_ (g:=105) (by kernel_rfl) ih (eV_ (g:=76) (by kernel_rfl) ordReq_ok (eN_ _)))),by simp [Try.f105],by simp [go_sem,symL_len (p:=ordReq) (a:=a) (m:=m) (b:=b) (L:=L) (by omega) (by omega) hl],fun w Mx pin=>?_⟩
  simp only [hB_at,lab_nil,lab_cons,hOf_nil,hOf_cons]
  have ho:Ordr ordReq:=ordr_req
  obtain ⟨mid,hmid⟩:∃ mid,mid=(a + b) / 2:=⟨_,rfl⟩
  have wma:IntKind.i64.wrap ((m:Int) - (a:Int))=(m:Int) - (a:Int):=wA_ (by omega)
  have wbm:IntKind.i64.wrap ((b:Int) - (m:Int))=(b:Int) - (m:Int):=wA_ (by omega)
  have wab:IntKind.i64.wrap ((a:Int) + (b:Int))=(a:Int) + (b:Int):=wA_ (by omega)
  have uab:IntKind.u64.wrap ((a:Int) + (b:Int))=(a:Int) + (b:Int):=wrap_u (by omega) (by omega)
  have dab:((a:Int) + (b:Int)).fdiv 2=(mid:Int):=by rw [half_div,hmid]
  have wmid:IntKind.i64.wrap (mid:Int)=(mid:Int):=wA_ (by omega)
  have wmm:IntKind.i64.wrap ((mid:Int) + (m:Int))=(mid:Int) + (m:Int):=wA_ (by omega)
  have wq:IntKind.i64.wrap ((mid:Int) + (m:Int) - 1)=((mid + m - 1:Nat):Int):=by rw [show (mid:Int) + (m:Int) - 1=((mid + m - 1:Nat):Int) by omega]; exact wA_ (by omega)
  have hsl:(symL ordReq a m b L).length=L.length:=symL_len (by omega) (by omega) hl
  refine aS_ fun K1 hK1=>?_
  refine aQ_ ?_
  iterate 4
    refine oC_ fun J hJ=>?_
    simp [go_sem,wma]
    refine hJ _ _ _ ?_
  refine oN_ ?_
  refine aC_ (t:=_) rfl (fun c3=>?_) (fun c3=>?_)
  · simp [go_sem] at c3
    have hm1:m=a + 1:=by omega
    obtain ⟨x,hx⟩:∃ x,L[a]?=some x:=⟨_,List.getElem?_eq_getElem (by omega)⟩
    have hmono:=one_mono ho hl hY x
    have hal:a < L.length:=by omega
    refine aQ_ ?_
    iterate 2
      refine oC_ fun J hJ=>?_
      simp [go_sem]
      refine hJ _ _ _ ?_
    refine oN_ ?_
    refine aQ_ ?_
    iterate 2
      refine oC_ fun J hJ=>?_
      simp [go_sem]
      refine hJ _ _ _ ?_
    refine oN_ ?_
    refine aS_ fun K6 hK6=>?_
    refine aB_ ?_
    refine aL_ (ι:={ q:Nat × Nat // Sch (oneF ordReq L x) (m) (b) q.1 q.2 }) (fun q=>syAReq L.length a m b L q.1.1 q.1.2) (fun q=>q.1.2 - q.1.1) ⟨(m,b),Sch.init _ (by omega)⟩ ?_ ?_
    · refine wO_ [((1,0),some (1,0))] (by simp [go_sem]) ?_ ?_ <;> simp [go_sem]
    intro ⟨⟨i,j⟩,hs⟩
    try simp only at hs
    have hs1:=hs.le
    have hs2:=hs.mid
    have hs3:=hs.ge
    simp only [syAReq]
    refine aS_ fun K7 hK7=>?_
    refine aQ_ ?_
    iterate 3
      refine oC_ fun J hJ=>?_
      simp [go_sem]
      refine hJ _ _ _ ?_
    refine oN_ ?_
    refine aC_ (t:=_) rfl (fun c9=>?_) (fun c9=>?_)
    · simp [go_sem] at c9
      have hij:i < j:=by omega
      have w1:IntKind.i64.wrap ((i:Int) + (j:Int))=(i:Int) + (j:Int):=wA_ (by omega)
      have w2:IntKind.u64.wrap ((i:Int) + (j:Int))=(i:Int) + (j:Int):=wrap_u (by omega) (by omega)
      have w3:((i:Int) + (j:Int)).fdiv 2=(((i + j) / 2:Nat):Int):=half_div i j
      obtain ⟨h,hh⟩:∃ h,h=(i + j) / 2:=⟨_,rfl⟩
      rw [<-hh] at w3
      have w4:IntKind.i64.wrap (h:Int)=(h:Int):=wA_ (by omega)
      obtain ⟨hih,hhj⟩:i<=h/\h < j:=by omega
      have hhl:h < L.length:=by omega
      obtain ⟨y,hy⟩:∃ y,L[h]?=some y:=⟨_,List.getElem?_eq_getElem hhl⟩
      have wh:=wN_ (n:=h) (by omega)
      refine aK_ ?_
      refine hK7 _ ?_
      refine aB_ ?_
      refine aQ_ ?_
      iterate 7
        refine oC_ fun J hJ=>?_
        simp [go_sem,w1,w2,w3,w4]
        refine hJ _ _ _ ?_
      refine oN_ ?_
      refine aU_ ?_
      iterate 11
        refine oC_ fun J hJ=>?_
        simp [go_sem,hhl,hal,↓hx,↓hy,hx,hy,ordReqS_at]
        refine hJ _ _ _ ?_
      refine oN_ ?_
      refine ⟨rfl,?_⟩
      refine aC_ (t:=_) rfl (fun c12=>?_) (fun c12=>?_)
      · simp [go_sem] at c12
        have hno:¬ oneF ordReq L x h:=fun hf=>(one_iff hy).1 hf c12
        refine aR_ ?_
        iterate 3
          refine oC_ fun J hJ=>?_
          simp [go_sem,wh]
          refine hJ _ _ _ ?_
        refine oN_ ?_
        first
          | (refine ⟨⟨(h + 1,j),hs.up hmono hih hhj hno⟩,?_,by simp only; omega⟩
             refine wO_ [((1,0),some (1,0))] (by simp [go_sem]) ?_ ?_ <;> (simp [go_sem,wh]; done))
          | (refine ⟨⟨(i,h),hs.down hmono hih hhj hyes⟩,?_,by simp only; omega⟩
             refine wO_ [((1,0),some (1,0))] (by simp [go_sem]) ?_ ?_ <;> (simp [go_sem]; done))
      · simp [go_sem] at c12
        have hyes:oneF ordReq L x h:=(one_iff hy).2 (by omega)
        refine aR_ ?_
        iterate 2
          refine oC_ fun J hJ=>?_
          simp [go_sem]
          refine hJ _ _ _ ?_
        refine oN_ ?_
        first
          | (refine ⟨⟨(h + 1,j),hs.up hmono hih hhj hno⟩,?_,by simp only; omega⟩
             refine wO_ [((1,0),some (1,0))] (by simp [go_sem]) ?_ ?_ <;> (simp [go_sem,wh]; done))
          | (refine ⟨⟨(i,h),hs.down hmono hih hhj hyes⟩,?_,by simp only; omega⟩
             refine wO_ [((1,0),some (1,0))] (by simp [go_sem]) ?_ ?_ <;> (simp [go_sem]; done))
    · simp [go_sem] at c9
      have hcut:=hs.cut (by omega)
      have hsym:upL a (i - 1 - a) L=symL ordReq a m b L:=by rw [hm1]; exact sym_one ho hl hx (hm1 ▸ hcut)
      have wi1:IntKind.i64.wrap ((i:Int) - 1)=(i:Int) - 1:=wA_ (by omega)
      refine aX_ ?_
      simp only [go_sem]
      refine hK6 _ ?_
      refine aS_ fun K13 hK13=>?_
      refine aQ_ ?_
      iterate 2
        refine oC_ fun J hJ=>?_
        simp [go_sem]
        refine hJ _ _ _ ?_
      refine oN_ ?_
      refine aB_ ?_
      refine aL_ (ι:={ k:Nat // k<=i - 1 - a }) (fun q=>syBReq L.length a m b (upL a q.1 L) i q.1) (fun q=>i - 1 - a - q.1) ⟨0,Nat.zero_le _⟩ ?_ ?_
      · refine wO_ [((1,0),some (1,0))] (by simp [go_sem]) ?_ ?_ <;> simp [go_sem,upL]
      intro ⟨k,hk⟩
      try simp only at hk
      have hul:=upL_len a k L
      simp only [syBReq]
      generalize hq:a + k=q at *
      refine aS_ fun K15 hK15=>?_
      refine aQ_ ?_
      iterate 4
        refine oC_ fun J hJ=>?_
        simp [go_sem,wi1]
        refine hJ _ _ _ ?_
      refine oN_ ?_
      refine aC_ (t:=_) rfl (fun c17=>?_) (fun c17=>?_)
      · simp [go_sem] at c17
        have hkk:k < i - 1 - a:=by omega
        obtain ⟨u,hu⟩:∃ u,(upL a k L)[a + k]?=some u:=⟨_,List.getElem?_eq_getElem (by omega)⟩
        obtain ⟨v,hv⟩:∃ v,(upL a k L)[a + k + 1]?=some v:=⟨_,List.getElem?_eq_getElem (by omega)⟩
        have hup:=upL_succ hu hv
        rw [hq] at hu hv hup
        have wk:=wN_ (n:=q) (by omega)
        have tk:((q:Int) + 1).toNat=q + 1:=by omega
        have pk:(0:Int)<=(q:Int) + 1:=by omega
        have lk:(q:Int) + 1 < (L.length:Int):=by omega
        have nk:q + 1 < L.length:=by omega
        have nk0:q < L.length:=by omega
        refine aK_ ?_
        refine hK15 _ ?_
        refine aS_ fun K18 hK18=>?_
        refine aB_ ?_
        refine aD_ ?_
        iterate 18
          refine oC_ fun J hJ=>?_
          simp [go_sem,wk,tk,pk,lk,nk,nk0,↓hu,↓hv,hu,hv,hul]
          refine hJ _ _ _ ?_
        refine oN_ ?_
        refine ⟨rfl,?_⟩
        refine hK18 _ ?_
        refine aR_ ?_
        iterate 3
          refine oC_ fun J hJ=>?_
          simp [go_sem,wk]
          refine hJ _ _ _ ?_
        refine oN_ ?_
        refine ⟨⟨k + 1,by omega⟩,?_,by simp only; omega⟩
        refine wO_ [((1,0),some (1,0))] (by simp [go_sem]) ?_ ?_ <;> simp [go_sem,wk,hup] <;> omega
      · simp [go_sem] at c17
        have hke:k=i - 1 - a:=by omega
        rw [<-hke] at hsym
        refine aX_ ?_
        simp only [go_sem]
        refine hK13 _ ?_
        refine aE_ ?_
        refine fQ_ [((1,0),some (1,0))] ?_
        first | (simp [go_sem,Try.f105,hsym]; done) | (simp [go_sem,Try.f105,e3]; done) | (simp [go_sem,Try.f105]; done)
  · simp [go_sem] at c3
    refine aK_ ?_
    refine hK1 _ ?_
    refine aS_ fun K19 hK19=>?_
    refine aQ_ ?_
    iterate 4
      refine oC_ fun J hJ=>?_
      simp [go_sem,wbm]
      refine hJ _ _ _ ?_
    refine oN_ ?_
    refine aC_ (t:=_) rfl (fun c21=>?_) (fun c21=>?_)
    · simp [go_sem] at c21
      have hb1:b=m + 1:=by omega
      obtain ⟨y,hy⟩:∃ y,L[m]?=some y:=⟨_,List.getElem?_eq_getElem (by omega)⟩
      have hmono:=last_mono ho (by omega) hX y
      have hml:m < L.length:=by omega
      refine aQ_ ?_
      iterate 2
        refine oC_ fun J hJ=>?_
        simp [go_sem]
        refine hJ _ _ _ ?_
      refine oN_ ?_
      refine aQ_ ?_
      iterate 2
        refine oC_ fun J hJ=>?_
        simp [go_sem]
        refine hJ _ _ _ ?_
      refine oN_ ?_
      refine aS_ fun K24 hK24=>?_
      refine aB_ ?_
      refine aL_ (ι:={ q:Nat × Nat // Sch (lastF2 ordReq L y) (a) (m) q.1 q.2 }) (fun q=>syCReq L.length a m b L q.1.1 q.1.2) (fun q=>q.1.2 - q.1.1) ⟨(a,m),Sch.init _ (by omega)⟩ ?_ ?_
      · refine wO_ [((1,0),some (1,0))] (by simp [go_sem]) ?_ ?_ <;> simp [go_sem]
      intro ⟨⟨i,j⟩,hs⟩
      try simp only at hs
      have hs1:=hs.le
      have hs2:=hs.mid
      have hs3:=hs.ge
      simp only [syCReq]
      refine aS_ fun K25 hK25=>?_
      refine aQ_ ?_
      iterate 3
        refine oC_ fun J hJ=>?_
        simp [go_sem]
        refine hJ _ _ _ ?_
      refine oN_ ?_
      refine aC_ (t:=_) rfl (fun c27=>?_) (fun c27=>?_)
      · simp [go_sem] at c27
        have hij:i < j:=by omega
        have w1:IntKind.i64.wrap ((i:Int) + (j:Int))=(i:Int) + (j:Int):=wA_ (by omega)
        have w2:IntKind.u64.wrap ((i:Int) + (j:Int))=(i:Int) + (j:Int):=wrap_u (by omega) (by omega)
        have w3:((i:Int) + (j:Int)).fdiv 2=(((i + j) / 2:Nat):Int):=half_div i j
        obtain ⟨h,hh⟩:∃ h,h=(i + j) / 2:=⟨_,rfl⟩
        rw [<-hh] at w3
        have w4:IntKind.i64.wrap (h:Int)=(h:Int):=wA_ (by omega)
        obtain ⟨hih,hhj⟩:i<=h/\h < j:=by omega
        have hhl:h < L.length:=by omega
        obtain ⟨x,hx⟩:∃ x,L[h]?=some x:=⟨_,List.getElem?_eq_getElem hhl⟩
        have wh:=wN_ (n:=h) (by omega)
        refine aK_ ?_
        refine hK25 _ ?_
        refine aB_ ?_
        refine aQ_ ?_
        iterate 7
          refine oC_ fun J hJ=>?_
          simp [go_sem,w1,w2,w3,w4]
          refine hJ _ _ _ ?_
        refine oN_ ?_
        refine aU_ ?_
        iterate 12
          refine oC_ fun J hJ=>?_
          simp [go_sem,hhl,hml,↓hx,↓hy,hx,hy,ordReqS_at]
          refine hJ _ _ _ ?_
        refine oN_ ?_
        refine ⟨rfl,?_⟩
        refine aC_ (t:=_) rfl (fun c30=>?_) (fun c30=>?_)
        · simp [go_sem] at c30
          have hno:¬ lastF2 ordReq L y h:=fun hf=>by have:=(last_iff hx).1 hf; omega
          refine aR_ ?_
          iterate 3
            refine oC_ fun J hJ=>?_
            simp [go_sem,wh]
            refine hJ _ _ _ ?_
          refine oN_ ?_
          first
            | (refine ⟨⟨(h + 1,j),hs.up hmono hih hhj hno⟩,?_,by simp only; omega⟩
               refine wO_ [((1,0),some (1,0))] (by simp [go_sem]) ?_ ?_ <;> (simp [go_sem,wh]; done))
            | (refine ⟨⟨(i,h),hs.down hmono hih hhj hyes⟩,?_,by simp only; omega⟩
               refine wO_ [((1,0),some (1,0))] (by simp [go_sem]) ?_ ?_ <;> (simp [go_sem]; done))
        · simp [go_sem] at c30
          have hyes:lastF2 ordReq L y h:=(last_iff hx).2 (by omega)
          refine aR_ ?_
          iterate 2
            refine oC_ fun J hJ=>?_
            simp [go_sem]
            refine hJ _ _ _ ?_
          refine oN_ ?_
          first
            | (refine ⟨⟨(h + 1,j),hs.up hmono hih hhj hno⟩,?_,by simp only; omega⟩
               refine wO_ [((1,0),some (1,0))] (by simp [go_sem]) ?_ ?_ <;> (simp [go_sem,wh]; done))
            | (refine ⟨⟨(i,h),hs.down hmono hih hhj hyes⟩,?_,by simp only; omega⟩
               refine wO_ [((1,0),some (1,0))] (by simp [go_sem]) ?_ ?_ <;> (simp [go_sem]; done))
      · simp [go_sem] at c27
        have hcut:=hs.cut (by omega)
        have hsym:downL m (m - i) L=symL ordReq a m b L:=by rw [hb1]; exact sym_last ho hX hy hcut
        refine aX_ ?_
        simp only [go_sem]
        refine hK24 _ ?_
        refine aS_ fun K31 hK31=>?_
        refine aQ_ ?_
        iterate 2
          refine oC_ fun J hJ=>?_
          simp [go_sem]
          refine hJ _ _ _ ?_
        refine oN_ ?_
        refine aB_ ?_
        refine aL_ (ι:={ k:Nat // i<=k/\k<=m }) (fun q=>syDReq L.length a m b (downL m (m - q.1) L) i q.1) (fun q=>q.1 - i) ⟨m,by omega,Nat.le_refl _⟩ ?_ ?_
        · refine wO_ [((1,0),some (1,0))] (by simp [go_sem]) ?_ ?_ <;> simp [go_sem,downL]
        intro ⟨k,hik,hkm⟩
        try simp only at hik hkm
        have hdl:=downL_len m (m - k) L
        simp only [syDReq]
        refine aS_ fun K33 hK33=>?_
        refine aQ_ ?_
        iterate 3
          refine oC_ fun J hJ=>?_
          simp [go_sem]
          refine hJ _ _ _ ?_
        refine oN_ ?_
        refine aC_ (t:=_) rfl (fun c35=>?_) (fun c35=>?_)
        · simp [go_sem] at c35
          have hki:i < k:=by omega
          obtain ⟨u,hu⟩:∃ u,(downL m (m - k) L)[k]?=some u:=⟨_,List.getElem?_eq_getElem (by omega)⟩
          obtain ⟨v,hv⟩:∃ v,(downL m (m - k) L)[k - 1]?=some v:=⟨_,List.getElem?_eq_getElem (by omega)⟩
          have hdn:downL m (m - (k - 1)) L=((downL m (m - k) L).set k v).set (k - 1) u:=by
            have h1:=downL_succ (m:=m) (n:=m - k) (x:=u) (y:=v) (by rw [show m - (m - k)=k by omega]; exact hu) (by rw [show m - (m - k) - 1=k - 1 by omega]; exact hv)
            rw [show m - (m - k)=k by omega] at h1
            rw [show m - (k - 1)=m - k + 1 by omega]
            exact h1
          have wk:IntKind.i64.wrap ((k:Int) - 1)=((k - 1:Nat):Int):=by rw [show (k:Int) - 1=((k - 1:Nat):Int) by omega]; exact wA_ (by omega)
          have nk:k < L.length:=by omega
          have nk1:k - 1 < L.length:=by omega
          refine aK_ ?_
          refine hK33 _ ?_
          refine aS_ fun K36 hK36=>?_
          refine aB_ ?_
          refine aD_ ?_
          iterate 18
            refine oC_ fun J hJ=>?_
            simp [go_sem,wk,nk,nk1,↓hu,↓hv,hu,hv,hdl]
            refine hJ _ _ _ ?_
          refine oN_ ?_
          refine ⟨rfl,?_⟩
          refine hK36 _ ?_
          refine aR_ ?_
          iterate 3
            refine oC_ fun J hJ=>?_
            simp [go_sem,wk]
            refine hJ _ _ _ ?_
          refine oN_ ?_
          refine ⟨⟨k - 1,by omega,by omega⟩,?_,by simp only; omega⟩
          refine wO_ [((1,0),some (1,0))] (by simp [go_sem]) ?_ ?_ <;> simp [go_sem,wk,hdn]
        · simp [go_sem] at c35
          have hke:k=i:=by omega
          subst hke
          refine aX_ ?_
          simp only [go_sem]
          refine hK31 _ ?_
          refine aE_ ?_
          refine fQ_ [((1,0),some (1,0))] ?_
          first | (simp [go_sem,Try.f105,hsym]; done) | (simp [go_sem,Try.f105,e3]; done) | (simp [go_sem,Try.f105]; done)
    · simp [go_sem] at c21
      refine aK_ ?_
      refine hK19 _ ?_
      refine aQ_ ?_
      iterate 7
        refine oC_ fun J hJ=>?_
        simp [go_sem,wab,uab,dab,wmid]
        refine hJ _ _ _ ?_
      refine oN_ ?_
      refine aQ_ ?_
      iterate 4
        refine oC_ fun J hJ=>?_
        simp [go_sem,wmm]
        refine hJ _ _ _ ?_
      refine oN_ ?_
      refine aQ_ ?_
      iterate 2
        refine oC_ fun J hJ=>?_
        simp [go_sem]
        refine hJ _ _ _ ?_
      refine oN_ ?_
      refine aS_ fun K40 hK40=>?_
      have jK40:∀ (lo hi:Nat) (s:St),(if m > mid then lo=mid + m - b/\hi=mid else lo=a/\hi=m)->Weak ⟨Try.prog,w,Mx,Try.f105.ntmps,pin,[],true⟩ (syEReq L.length a m b L mid lo hi) s->K40 s:=by
        intro lo hi s hlo hw2
        have hlh:lo<=hi:=by split at hlo <;> omega
        have hlo2:=hlo
        have hbd:hi<=m/\a<=lo/\hi<=mid/\mid + m<=b + lo:=by split at hlo <;> omega
        have hmono:∀ c d,lo<=c->c<=d->d < hi->partF ordReq L (mid + m) c->partF ordReq L (mid + m) d:=fun c d h1 h2 h3=>by rw [hmid] at hlo ⊢; exact part_mono ho ha hb hl hX hY hlo h1 h2 h3
        refine hK40 s (aW_ hw2 ?_)
        simp only [syEReq]
        refine aQ_ ?_
        iterate 3
          refine oC_ fun J hJ=>?_
          simp [go_sem,wq]
          refine hJ _ _ _ ?_
        refine oN_ ?_
        refine aS_ fun K46 hK46=>?_
        refine aB_ ?_
        refine aL_ (ι:={ q:Nat × Nat // Sch (partF ordReq L (mid + m)) lo hi q.1 q.2 }) (fun q=>syFReq L.length a m b L mid q.1.1 q.1.2 (mid + m - 1)) (fun q=>q.1.2 - q.1.1) ⟨(lo,hi),Sch.init _ hlh⟩ ?_ ?_
        · refine wO_ [((1,0),some (1,0))] (by simp [go_sem]) ?_ ?_ <;> simp [go_sem,wq]
        intro ⟨⟨i,j⟩,hs⟩
        try simp only at hs
        have hs1:=hs.le
        have hs2:=hs.mid
        have hs3:=hs.ge
        simp only [syFReq]
        refine aS_ fun K47 hK47=>?_
        refine aQ_ ?_
        iterate 3
          refine oC_ fun J hJ=>?_
          simp [go_sem]
          refine hJ _ _ _ ?_
        refine oN_ ?_
        refine aC_ (t:=_) rfl (fun c49=>?_) (fun c49=>?_)
        · simp [go_sem] at c49
          have hij:i < j:=by omega
          have w1:IntKind.i64.wrap ((i:Int) + (j:Int))=(i:Int) + (j:Int):=wA_ (by omega)
          have w2:IntKind.u64.wrap ((i:Int) + (j:Int))=(i:Int) + (j:Int):=wrap_u (by omega) (by omega)
          have w3:((i:Int) + (j:Int)).fdiv 2=(((i + j) / 2:Nat):Int):=half_div i j
          obtain ⟨h,hh⟩:∃ h,h=(i + j) / 2:=⟨_,rfl⟩
          rw [<-hh] at w3
          have w4:IntKind.i64.wrap (h:Int)=(h:Int):=wA_ (by omega)
          obtain ⟨hih,hhj⟩:i<=h/\h < j:=by omega
          have hhl:h < L.length:=by omega
          obtain ⟨x,hx⟩:∃ x,L[h]?=some x:=⟨_,List.getElem?_eq_getElem hhl⟩
          have hh2:mid + m - 1 - h < L.length:=by omega
          obtain ⟨y,hy⟩:∃ y,L[mid + m - 1 - h]?=some y:=⟨_,List.getElem?_eq_getElem hh2⟩
          have wqh:IntKind.i64.wrap (((mid + m - 1:Nat):Int) - (h:Int))=((mid + m - 1 - h:Nat):Int):=by rw [show ((mid + m - 1:Nat):Int) - (h:Int)=((mid + m - 1 - h:Nat):Int) by omega]; exact wA_ (by omega)
          have wh:=wN_ (n:=h) (by omega)
          refine aK_ ?_
          refine hK47 _ ?_
          refine aB_ ?_
          refine aQ_ ?_
          iterate 7
            refine oC_ fun J hJ=>?_
            simp [go_sem,w1,w2,w3,w4]
            refine hJ _ _ _ ?_
          refine oN_ ?_
          refine aU_ ?_
          iterate 14
            refine oC_ fun J hJ=>?_
            simp [go_sem,wqh,hhl,hh2,↓hx,↓hy,hx,hy,ordReqS_at]
            refine hJ _ _ _ ?_
          refine oN_ ?_
          refine ⟨rfl,?_⟩
          refine aC_ (t:=_) rfl (fun c52=>?_) (fun c52=>?_)
          · simp [go_sem] at c52
            have hno:¬ partF ordReq L (mid + m) h:=fun hf=>by have:=(part_iff hx hy).1 hf; omega
            refine aR_ ?_
            iterate 3
              refine oC_ fun J hJ=>?_
              simp [go_sem,wh]
              refine hJ _ _ _ ?_
            refine oN_ ?_
            first
              | (refine ⟨⟨(h + 1,j),hs.up hmono hih hhj hno⟩,?_,by simp only; omega⟩
                 refine wO_ [((1,0),some (1,0))] (by simp [go_sem]) ?_ ?_ <;> (simp [go_sem,wh]; done))
              | (refine ⟨⟨(i,h),hs.down hmono hih hhj hyes⟩,?_,by simp only; omega⟩
                 refine wO_ [((1,0),some (1,0))] (by simp [go_sem]) ?_ ?_ <;> (simp [go_sem]; done))
          · simp [go_sem] at c52
            have hyes:partF ordReq L (mid + m) h:=(part_iff hx hy).2 (by omega)
            refine aR_ ?_
            iterate 2
              refine oC_ fun J hJ=>?_
              simp [go_sem]
              refine hJ _ _ _ ?_
            refine oN_ ?_
            first
              | (refine ⟨⟨(h + 1,j),hs.up hmono hih hhj hno⟩,?_,by simp only; omega⟩
                 refine wO_ [((1,0),some (1,0))] (by simp [go_sem]) ?_ ?_ <;> (simp [go_sem,wh]; done))
              | (refine ⟨⟨(i,h),hs.down hmono hih hhj hyes⟩,?_,by simp only; omega⟩
                 refine wO_ [((1,0),some (1,0))] (by simp [go_sem]) ?_ ?_ <;> (simp [go_sem]; done))
        · simp [go_sem] at c49
          have hcut:=hs.cut (by omega)
          obtain ⟨e,he⟩:∃ e,e=mid + m - i:=⟨_,rfl⟩
          have we:IntKind.i64.wrap ((mid:Int) + (m:Int) - (i:Int))=(e:Int):=by rw [show (mid:Int) + (m:Int) - (i:Int)=(e:Int) by omega]; exact wA_ (by omega)
          obtain ⟨L1,h1⟩:∃ L1,L1=if i < m/\m < e then rotS m (m - i) (e - m) L else L:=⟨_,rfl⟩
          obtain ⟨L2,h2⟩:∃ L2,L2=if a < i/\i < mid then symL ordReq a i mid L1 else L1:=⟨_,rfl⟩
          obtain ⟨L3,h3⟩:∃ L3,L3=if mid < e/\e < b then symL ordReq mid e b L2 else L2:=⟨_,rfl⟩
          obtain ⟨g1,g2,g3,g4,g5,g6,g7⟩:=sym_all ho ha hb hl hX hY (by rw [<-hmid]; exact hlo2) (by rw [<-hmid]; exact hcut) hmid he h1 h2 h3
          refine aX_ ?_
          simp only [go_sem]
          refine hK46 _ ?_
          refine aQ_ ?_
          iterate 4
            refine oC_ fun J hJ=>?_
            simp [go_sem,we]
            refine hJ _ _ _ ?_
          refine oN_ ?_
          refine aS_ fun K54 hK54=>?_
          have jK54:∀ s2:St,Weak ⟨Try.prog,w,Mx,Try.f105.ntmps,pin,[],true⟩ (syGReq L.length a m b L1 mid i e) s2->K54 s2:=by
            intro s2 hw2
            refine hK54 s2 (aW_ hw2 ?_)
            simp only [syGReq]
            refine aS_ fun K57 hK57=>?_
            have jK57:∀ s2:St,Weak ⟨Try.prog,w,Mx,Try.f105.ntmps,pin,[],true⟩ (syGReq L.length a m b L2 mid i e) s2->K57 s2:=by
              intro s2 hw2
              refine hK57 s2 (aW_ hw2 ?_)
              simp only [syGReq]
              refine aS_ fun K60 hK60=>?_
              by_cases g0:mid < e
              · skip
                refine aR_ ?_
                iterate 8
                  refine oC_ fun J hJ=>?_
                  simp [go_sem,g0]
                  refine hJ _ _ _ ?_
                refine oN_ ?_
                refine hK60 _ ?_
                refine aC_ (t:=_) rfl (fun c61=>?_) (fun c61=>?_)
                · simp [go_sem] at c61
                  have hr:=sySReq_at w0 L2 mid e b (by omega) (by omega) (by omega) (by omega) g5 g6 (by omega)
                  rw [g4] at hr
                  have e3:symL ordReq mid e b L2=symL ordReq a m b L:=by rw [<-g7,h3,if_pos (by omega)]
                  rw [e3] at hr
                  refine aR_ ?_
                  iterate 6
                    refine oC_ fun J hJ=>?_
                    simp [go_sem,↓hr]
                    refine hJ _ _ _ ?_
                  refine oN_ ?_
                  refine fQ_ [((1,0),some (1,0))] ?_
                  first | (simp [go_sem,Try.f105,hsym]; done) | (simp [go_sem,Try.f105,e3]; done) | (simp [go_sem,Try.f105]; done)
                · simp [go_sem] at c61
                  have e3:L2=symL ordReq a m b L:=by rw [<-g7,h3,if_neg (by omega)]
                  refine aK_ ?_
                  refine fQ_ [((1,0),some (1,0))] ?_
                  first | (simp [go_sem,Try.f105,hsym]; done) | (simp [go_sem,Try.f105,e3]; done) | (simp [go_sem,Try.f105]; done)
              · skip
                have e3:L2=symL ordReq a m b L:=by rw [<-g7,h3,if_neg (by omega)]
                refine aR_ ?_
                iterate 8
                  refine oC_ fun J hJ=>?_
                  simp [go_sem,g0]
                  refine hJ _ _ _ ?_
                refine oN_ ?_
                refine hK60 _ ?_
                refine aF_ rfl ?_
                refine aK_ ?_
                refine fQ_ [((1,0),some (1,0))] ?_
                first | (simp [go_sem,Try.f105,hsym]; done) | (simp [go_sem,Try.f105,e3]; done) | (simp [go_sem,Try.f105]; done)
            refine aS_ fun K58 hK58=>?_
            by_cases g0:a < i
            · skip
              refine aR_ ?_
              iterate 8
                refine oC_ fun J hJ=>?_
                simp [go_sem,g0]
                refine hJ _ _ _ ?_
              refine oN_ ?_
              refine hK58 _ ?_
              refine aC_ (t:=_) rfl (fun c59=>?_) (fun c59=>?_)
              · simp [go_sem] at c59
                have hr:=sySReq_at w0 L1 a i mid (by omega) (by omega) (by omega) (by omega) g2 g3 (by omega)
                rw [g1] at hr
                have e2:symL ordReq a i mid L1=L2:=by rw [h2,if_pos (by omega)]
                rw [e2] at hr
                refine aR_ ?_
                iterate 6
                  refine oC_ fun J hJ=>?_
                  simp [go_sem,↓hr]
                  refine hJ _ _ _ ?_
                refine oN_ ?_
                first
                  | (refine jK57 _ (wO_ [((1,0),some (1,0))] (by simp [go_sem]) ?_ ?_) <;> (simp [go_sem,<-e2]; done))
              · simp [go_sem] at c59
                have e2:L1=L2:=by rw [h2,if_neg (by omega)]
                refine aK_ ?_
                first
                  | (refine jK57 _ (wO_ [((1,0),some (1,0))] (by simp [go_sem]) ?_ ?_) <;> (simp [go_sem,<-e2]; done))
            · skip
              have e2:L1=L2:=by rw [h2,if_neg (by omega)]
              refine aR_ ?_
              iterate 8
                refine oC_ fun J hJ=>?_
                simp [go_sem,g0]
                refine hJ _ _ _ ?_
              refine oN_ ?_
              refine hK58 _ ?_
              refine aF_ rfl ?_
              refine aK_ ?_
              first
                | (refine jK57 _ (wO_ [((1,0),some (1,0))] (by simp [go_sem]) ?_ ?_) <;> (simp [go_sem,<-e2]; done))
          refine aS_ fun K55 hK55=>?_
          by_cases g0:i < m
          · skip
            refine aR_ ?_
            iterate 8
              refine oC_ fun J hJ=>?_
              simp [go_sem,g0]
              refine hJ _ _ _ ?_
            refine oN_ ?_
            refine hK55 _ ?_
            refine aC_ (t:=_) rfl (fun c56=>?_) (fun c56=>?_)
            · simp [go_sem] at c56
              have hr:=rtSReq_at L i m e (by omega) (by omega) (by omega) hL
              have e1:rotS m (m - i) (e - m) L=L1:=by rw [h1,if_pos (by omega)]
              rw [e1] at hr
              refine aR_ ?_
              iterate 6
                refine oC_ fun J hJ=>?_
                simp [go_sem,↓hr]
                refine hJ _ _ _ ?_
              refine oN_ ?_
              first
                | (refine jK54 _ (wO_ [((1,0),some (1,0))] (by simp [go_sem]) ?_ ?_) <;> (simp [go_sem,<-e1]; done))
            · simp [go_sem] at c56
              have e1:L=L1:=by rw [h1,if_neg (by omega)]
              refine aK_ ?_
              first
                | (refine jK54 _ (wO_ [((1,0),some (1,0))] (by simp [go_sem]) ?_ ?_) <;> (simp [go_sem,<-e1]; done))
          · skip
            have e1:L=L1:=by rw [h1,if_neg (by omega)]
            refine aR_ ?_
            iterate 8
              refine oC_ fun J hJ=>?_
              simp [go_sem,g0]
              refine hJ _ _ _ ?_
            refine oN_ ?_
            refine hK55 _ ?_
            refine aF_ rfl ?_
            refine aK_ ?_
            first
              | (refine jK54 _ (wO_ [((1,0),some (1,0))] (by simp [go_sem]) ?_ ?_) <;> (simp [go_sem,<-e1]; done))
      refine aQ_ ?_
      iterate 3
        refine oC_ fun J hJ=>?_
        simp [go_sem]
        refine hJ _ _ _ ?_
      refine oN_ ?_
      refine aC_ (t:=_) rfl (fun c42=>?_) (fun c42=>?_)
      · simp [go_sem] at c42
        have hgt:m > mid:=by omega
        have wlo:IntKind.i64.wrap ((mid:Int) + (m:Int) - (b:Int))=((mid + m - b:Nat):Int):=by rw [show (mid:Int) + (m:Int) - (b:Int)=((mid + m - b:Nat):Int) by omega]; exact wA_ (by omega)
        refine aQ_ ?_
        iterate 4
          refine oC_ fun J hJ=>?_
          simp [go_sem,wlo]
          refine hJ _ _ _ ?_
        refine oN_ ?_
        refine aR_ ?_
        iterate 2
          refine oC_ fun J hJ=>?_
          simp [go_sem]
          refine hJ _ _ _ ?_
        refine oN_ ?_
        first
          | (refine jK40 (mid + m - b) mid _ (by rw [if_pos hgt]; exact ⟨rfl,rfl⟩) (wO_ [((1,0),some (1,0))] (by simp [go_sem]) ?_ ?_) <;> (simp [go_sem,wlo]; done))
          | (refine jK40 a m _ (by rw [if_neg hgt]; exact ⟨rfl,rfl⟩) (wO_ [((1,0),some (1,0))] (by simp [go_sem]) ?_ ?_) <;> (simp [go_sem]; done))
      · simp [go_sem] at c42
        have hgt:¬ m > mid:=by omega
        refine aQ_ ?_
        iterate 2
          refine oC_ fun J hJ=>?_
          simp [go_sem]
          refine hJ _ _ _ ?_
        refine oN_ ?_
        refine aR_ ?_
        iterate 2
          refine oC_ fun J hJ=>?_
          simp [go_sem]
          refine hJ _ _ _ ?_
        refine oN_ ?_
        first
          | (refine jK40 (mid + m - b) mid _ (by rw [if_pos hgt]; exact ⟨rfl,rfl⟩) (wO_ [((1,0),some (1,0))] (by simp [go_sem]) ?_ ?_) <;> (simp [go_sem,wlo]; done))
          | (refine jK40 a m _ (by rw [if_neg hgt]; exact ⟨rfl,rfl⟩) (wO_ [((1,0),some (1,0))] (by simp [go_sem]) ?_ ?_) <;> (simp [go_sem]; done))
theorem sySReq_ok:∀ w:Nat,HSound Try.prog 105 (sySReq w)
 | 0=>by
  intro args bx hr hS
  obtain ⟨i,_⟩:=mO_ hS
  exfalso
  have h1:=i.ha
  have h2:=i.hb
  have h3:=i.hw
  omega
 | w + 1=>sySReq_step w (sySReq_ok w)
end Go.Proofs.Ytjoaigccapegpaa.AE
