/-
 slices.insertionSortCmpFunc of requests: a contract. Conditions: none; every contract names its own.
-/
import Derived.Test.YtjoaigccapegpaaPe
set_option linter.constructorNameAsVariable false
namespace Go.Proofs.Ytjoaigccapegpaa.AE
open Go Go.Proofs Go.RowKit
set_option linter.unusedVariables false
set_option linter.unusedSimpArgs false
set_option maxRecDepth 100000
set_option maxHeartbeats 4000000
def bubReq (p:Req->Req->Int) (a:Nat):Nat->List Req->List Req
 | 0,L=>L
 | j + 1,L=>if a < j + 1 then match L[j + 1]?,L[j]? with
  | some x,some y=>if p x y < 0 then bubReq p a j ((L.set (j + 1) y).set j x) else L
  | _,_=>L else L
def insReq (p:Req->Req->Int) (a:Nat):Nat->Nat->List Req->List Req
 | 0,_,L=>L
 | n + 1,i,L=>insReq p a n (i + 1) (bubReq p a i L)
theorem bubReq_len (p:Req->Req->Int) (a:Nat):∀ (j:Nat) (L:List Req),(bubReq p a j L).length=L.length
 | 0,L=>rfl
 | j + 1,L=>by
  unfold bubReq
  split
  ·
   split
   ·
    split
    · rw [bubReq_len p a j]; simp
    · rfl
   · rfl
  · rfl
theorem insReq_len (p:Req->Req->Int) (a:Nat):∀ (n i:Nat) (L:List Req),(insReq p a n i L).length=L.length
 | 0,i,L=>rfl
 | n + 1,i,L=>by
  show (insReq p a n (i + 1) (bubReq p a i L)).length=L.length
  rw [insReq_len p a n,bubReq_len]
theorem get_ltReq {L:List Req} {n:Nat} (h:n < L.length):∃ x,L[n]?=some x:=⟨L[n],by simp [h]⟩
theorem wrap_le {n:Nat} (h:n<=1000000):IntKind.i64.wrap (n:Int)=n:=by
 unfold IntKind.wrap; simp [IntKind.bits,IntKind.signed]; omega
structure insSReqX where
 L:List Req
 a:Nat
 b:Nat
 ha:a<=100000
 hb:b<=L.length
 hL:L.length<=100000
noncomputable def insSReq (g:FuncId) (p:Req->Req->Int):HSpec:=mkH (ι:=insSReqX) (fun ⟨L,a,b,_,_,_⟩=>([.own (1,0) L.length,.int .i64 (a:Int),.int .i64 (b:Int),.fn g []],[.row 65 9 (rows cReq L) false])) fun ⟨L,a,b,_,_,_⟩=>⟨.tup [],[.row 65 9 (rows cReq (insReq p a (b - (a + 1)) (a + 1) L)) false],[]⟩
theorem insSReq_at (g:FuncId) (p:Req->Req->Int) (L:List Req) (a b:Nat) (ha:a<=100000) (hb:b<=L.length) (hL:L.length<=100000):insSReq g p [.own (1,0) L.length,.int .i64 (a:Int),.int .i64 (b:Int),.fn g []] [.row 65 9 (rows cReq L) false]=some ⟨.tup [],[.row 65 9 (rows cReq (insReq p a (b - (a + 1)) (a + 1) L)) false],[]⟩:=
 mA_ (ι:=insSReqX) (fun i j h=>by obtain ⟨L,a,b,ha,hb,hL⟩:=i; obtain ⟨L2,a2,b2,ha2,hb2,hL2⟩:=j; simp [rows_iff_Req] at h; obtain ⟨⟨h1,h2,h3⟩,rfl⟩:=h; obtain rfl:a=a2:=(by omega); obtain rfl:b=b2:=(by omega); rfl) ⟨L,a,b,ha,hb,hL⟩
def insIReq (g:FuncId) (a b:Nat) (M:List Req) (n i:Nat):St:=⟨ofL [(0,.own (1,0) n),(1,.int .i64 (a:Int)),(2,.int .i64 (b:Int)),(3,.fn g []),(8,.int .i64 (i:Int))],hOf [((1,0),.row 65 9 (rows cReq M) false)]⟩
def insJReq (g:FuncId) (a b:Nat) (i:Nat) (M:List Req) (n j:Nat):St:=⟨ofL [(0,.own (1,0) n),(1,.int .i64 (a:Int)),(2,.int .i64 (b:Int)),(3,.fn g []),(8,.int .i64 (i:Int)),(9,.int .i64 (j:Int))],hOf [((1,0),.row 65 9 (rows cReq M) false)]⟩
theorem insSReq_ok (g:FuncId) (p:Req->Req->Int) (Sg:HSpec) (he:entersB Try.prog g=true) (hG:HSound Try.prog g Sg) (hp:∀ x y,Sg [.agg (cReq x),.agg (cReq y)] []=some ⟨.int .i64 (p x y),[],[]⟩):HSound Try.prog 104 (insSReq g p):=by
 refine sE_ (fn:=Try.f104) rfl rfl (by kernel_rfl) fun args bx hr hS=>?_
 obtain ⟨⟨L,a,b,ha,hb,hL⟩,rfl,rfl,rfl⟩:=mO_ hS
 refine ⟨_,(eV_ (g:=g) he hG (eN_ _)),by simp [Try.f104],by simp [go_sem,insReq_len],fun w Mx pin=>?_⟩
 simp only [hB_at,lab_nil,lab_cons,hOf_nil,hOf_cons]
 have w1:IntKind.i64.wrap ((a:Int) + 1)=((a + 1:Nat):Int):=wrap_le (n:=a + 1) (by omega)
 refine aQ_ ?_
 iterate 3
  refine oC_ fun J hJ=>?_
  simp [go_sem,w1]
  refine hJ _ _ _ ?_
 refine oN_ ?_
 refine aB_ ?_
 refine aL_ (ι:={ q:List Req × Nat // q.1.length=L.length/\a + 1<=q.2/\q.2<=a + 1 + b/\insReq p a (b - q.2) q.2 q.1=insReq p a (b - (a + 1)) (a + 1) L }) (fun q=>insIReq g a b q.1.1 L.length q.1.2) (fun q=>a + 1 + b - q.1.2) ⟨(L,a + 1),rfl,Nat.le_refl _,by omega,rfl⟩ ?_ ?_
 · refine wO_ [((1,0),some (1,0))] (by simp [go_sem]) ?_ ?_ <;> simp [go_sem,w1]
 intro ⟨⟨M,i⟩,hM,hi,hib,hgo⟩
 simp only at hM hi hib hgo
 simp only [insIReq]
 refine aS_ fun K2 hK2=>?_
 refine aQ_ ?_
 iterate 3
  refine oC_ fun J hJ=>?_
  simp [go_sem]
  refine hJ _ _ _ ?_
 refine oN_ ?_
 refine aC_ (t:=_) rfl (fun c4=>?_) (fun c4=>?_)
 ·
  simp [go_sem] at c4
  refine aK_ ?_
  refine hK2 _ ?_
  refine aS_ fun K5 hK5=>?_
  refine aB_ ?_
  refine aQ_ ?_
  iterate 2
   refine oC_ fun J hJ=>?_
   simp [go_sem]
   refine hJ _ _ _ ?_
  refine oN_ ?_
  refine aB_ ?_
  refine aL_ (ι:={ q:List Req × Nat // q.1.length=L.length/\q.2<=i/\bubReq p a q.2 q.1=bubReq p a i M }) (fun q=>insJReq g a b i q.1.1 L.length q.1.2) (fun q=>q.1.2) ⟨(M,i),hM,Nat.le_refl _,rfl⟩ ?_ ?_
  · refine wO_ [((1,0),some (1,0))] (by simp [go_sem]) ?_ ?_ <;> simp [go_sem]
  intro ⟨⟨N,j⟩,hN,hj,hgo2⟩
  simp only at hN hj hgo2
  simp only [insJReq]
  refine aS_ fun K7 hK7=>?_
  refine aS_ fun K8 hK8=>?_
  by_cases hja:a < j
  ·
   obtain ⟨m,hm⟩:∃ m,j=m + 1:=⟨j - 1,by omega⟩
   have wm:IntKind.i64.wrap ((j:Int) - 1)=(m:Int):=by rw [hm]; simp; exact wrap_le (n:=m) (by omega)
   have hjl:j < L.length:=by omega
   have hml:m < L.length:=by omega
   obtain ⟨x,hx⟩:=get_ltReq (L:=N) (n:=j) (by omega)
   obtain ⟨y,hy⟩:=get_ltReq (L:=N) (n:=m) (by omega)
   refine aD_ ?_
   iterate 17
    refine oC_ fun J hJ=>?_
    simp [go_sem,hja,hjl,hml,wm,↓hx,↓hy,hp,hN]
    refine hJ _ _ _ ?_
   refine oN_ ?_
   refine ⟨rfl,?_⟩
   refine hK8 _ ?_
   refine aC_ (t:=_) rfl (fun c9=>?_) (fun c9=>?_)
   ·
    simp [go_sem] at c9
    refine aK_ ?_
    refine hK7 _ ?_
    refine aS_ fun K10 hK10=>?_
    refine aB_ ?_
    refine aD_ ?_
    iterate 18
     refine oC_ fun J hJ=>?_
     simp [go_sem,hja,hjl,hml,wm,↓hx,↓hy,hN]
     refine hJ _ _ _ ?_
    refine oN_ ?_
    refine ⟨rfl,?_⟩
    refine hK10 _ ?_
    refine aR_ ?_
    iterate 3
     refine oC_ fun J hJ=>?_
     simp [go_sem,wm]
     refine hJ _ _ _ ?_
    refine oN_ ?_
    refine ⟨⟨((N.set j y).set m x,m),by simp; exact hN,by omega,?_⟩,?_,by simp; omega⟩
    ·
     rw [<-hgo2,hm]
     rw [hm] at hx
     simp only [bubReq]
     rw [if_pos (by omega),hx,hy]
     simp only
     rw [if_pos c9]
    refine wO_ [((1,0),some (1,0))] (by simp [go_sem]) ?_ ?_ <;> simp [go_sem,wm]
   ·
    simp [go_sem] at c9
    have hbu:bubReq p a i M=N:=by
     rw [<-hgo2,hm]
     rw [hm] at hx
     simp only [bubReq]
     rw [if_pos (by omega),hx,hy]
     simp only
     rw [if_neg (by omega)]
    refine aX_ ?_
    simp only [go_sem]
    refine hK5 _ ?_
    have hi1:IntKind.i64.wrap ((i:Int) + 1)=((i + 1:Nat):Int):=wrap_le (n:=i + 1) (by omega)
    refine aR_ ?_
    iterate 3
     refine oC_ fun J hJ=>?_
     simp [go_sem,hi1]
     refine hJ _ _ _ ?_
    refine oN_ ?_
    have hi1:IntKind.i64.wrap ((i:Int) + 1)=((i + 1:Nat):Int):=wrap_le (n:=i + 1) (by omega)
    refine ⟨⟨(bubReq p a i M,i + 1),by rw [bubReq_len]; exact hM,by omega,by omega,?_⟩,?_,by simp; omega⟩
    · rw [<-hgo,show b - i=(b - (i + 1)) + 1 by omega]; rfl
    refine wO_ [((1,0),some (1,0))] (by simp [go_sem]) ?_ ?_ <;> simp [go_sem,hi1,hbu]
  ·
   have hbu:bubReq p a i M=N:=by
    rw [<-hgo2]
    cases j with
    | zero=>rfl
    | succ j=>simp only [bubReq]; rw [if_neg hja]
   refine aD_ ?_
   iterate 17
    refine oC_ fun J hJ=>?_
    simp [go_sem,hja]
    refine hJ _ _ _ ?_
   refine oN_ ?_
   refine ⟨rfl,?_⟩
   refine hK8 _ ?_
   refine aF_ rfl ?_
   refine aX_ ?_
   simp only [go_sem]
   refine hK5 _ ?_
   have hi1:IntKind.i64.wrap ((i:Int) + 1)=((i + 1:Nat):Int):=wrap_le (n:=i + 1) (by omega)
   refine aR_ ?_
   iterate 3
    refine oC_ fun J hJ=>?_
    simp [go_sem,hi1]
    refine hJ _ _ _ ?_
   refine oN_ ?_
   have hi1:IntKind.i64.wrap ((i:Int) + 1)=((i + 1:Nat):Int):=wrap_le (n:=i + 1) (by omega)
   refine ⟨⟨(bubReq p a i M,i + 1),by rw [bubReq_len]; exact hM,by omega,by omega,?_⟩,?_,by simp; omega⟩
   · rw [<-hgo,show b - i=(b - (i + 1)) + 1 by omega]; rfl
   refine wO_ [((1,0),some (1,0))] (by simp [go_sem]) ?_ ?_ <;> simp [go_sem,hi1,hbu]
 ·
  simp [go_sem] at c4
  have hgo3:M=insReq p a (b - (a + 1)) (a + 1) L:=by rw [<-hgo,show b - i=0 by omega]; rfl
  refine aX_ ?_
  simp only [go_sem]
  refine fQ_ [((1,0),some (1,0))] ?_
  simp [go_sem,Try.f104,<-hgo3,hM,insReq_len]
end Go.Proofs.Ytjoaigccapegpaa.AE
