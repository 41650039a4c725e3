/-
 Package vector, and ref19: contracts, first part. Conditions: none; every contract names its own.
-/
import Derived.Test.YtjoaigccapegpaaGreatOLgb
import Derived.Test.YtjoaigccapegpaaGreatORf7
import Derived.Test.YtjoaigccapegpaaGreatPc
set_option linter.constructorNameAsVariable false
namespace Go.Proofs.YtjoaigccapegpaaGreat.AE
open Go Go.Proofs Go.RowKit
set_option linter.unusedVariables false
set_option linter.unusedSimpArgs false
set_option maxRecDepth 100000
set_option maxHeartbeats 4000000
def nv (x:Chg) (v:Vn 4):Vn 4:=if 0<=x.id.rep/\x.id.rep < 4 then v.put x.id.rep.toNat (mx (v.at x.id.rep.toNat) x.id.seq) else v
def vecOfI (L:List Chg) (pre _post:List Chg) (v:Vn 4):St:=⟨ofL [(2,.ref (0,32) 0),(3,.ref (0,48) 0),(7,.sl 9 (rows cChg L)),(8,.int .i64 L.length),(9,.int .i64 pre.length)],hOf [((0,32),.obj (cV (zV 4))),((0,48),.obj (cV v))]⟩
structure vecOfX where
 L:List Chg
 L':AV
 h_L:SlA 9 cChg L L'
 hL:L.length<=100000
noncomputable def vecOfS:HSpec:=mkH (ι:=vecOfX) (fun ⟨L,L',h_L,hL⟩=>([L'],[])) fun ⟨L,L',h_L,hL⟩=>⟨.agg (cV (knownG L (zV 4))),[],[]⟩
theorem vecOfS_atG (L:List Chg) (L':AV) (h_L:SlA 9 cChg L L') (hL:L.length<=100000):vecOfS [L'] []=some (⟨.agg (cV (knownG L (zV 4))),[],[]⟩):=
 mA_ (ι:=vecOfX) (fun i j h=>by obtain ⟨L,L',h_L,hL⟩:=i; obtain ⟨L2,L'2,h_L2,hL2⟩:=j; simp [and_assoc,qB_,qI_,qO_,qC_,qE_,qK_,qR_,qV_,qP_,qOc_,rows_iff_Chg] at h; obtain rfl:=h; obtain rfl:=SlA.inj (fun x y h=>cChg_inj h) h_L h_L2; rfl) ⟨L,L',h_L,hL⟩
theorem vecOfS_at (L:List Chg) (hL:L.length<=100000):vecOfS [(.sl 9 (rows cChg L))] []=some (⟨.agg (cV (knownG L (zV 4))),[],[]⟩):=vecOfS_atG L _ .sl hL
theorem vecOf_ok:HSound Tryz.prog 53 vecOfS:=by
 refine sE_ (fn:=Tryz.f53) rfl rfl (by kernel_rfl) fun args bx hr hS=>?_
 obtain ⟨⟨L,L',h_L,hL⟩,rfl,rfl,rfl⟩:=mO_ hS
 clear hS
 refine ⟨_,(eV_ (g:=74) (by kernel_rfl) there_ok (eN_ _)),by simp [Tryz.f53],by simp [go_sem],fun w Mx pin=>?_⟩
 simp only [hB_at,lab_nil,lab_cons,hOf_nil,hOf_cons]
 refine aW_ (s':=⟨ofL [(0,(.sl 9 (rows cChg L)))],hOf []⟩) ?_ ?_
 · cases h_L <;> exact wO_ [] (by simp [go_sem]) (by simp [go_sem]) (by simp [go_sem])
 clear h_L
 refine aQ_ ?_
 iterate 1
  refine oC_ fun J hJ=>?_
  simp [go_sem]
  refine hJ _ _ _ ?_
 refine oN_ ?_
 refine aQ_ ?_
 iterate 1
  refine oC_ fun J hJ=>?_
  simp [go_sem]
  refine hJ _ _ _ ?_
 refine oN_ ?_
 refine aS_ fun K3 hK3=>?_
 refine aQ_ ?_
 iterate 3
  refine oC_ fun J hJ=>?_
  simp [go_sem]
  refine hJ _ _ _ ?_
 refine oN_ ?_
 refine aB_ ?_
 refine aL_ (ι:={ q:List Chg × List Chg × Vn 4 // q.1++q.2.1=L/\knownG q.2.1 q.2.2=knownG L (zV 4) }) (fun q=>vecOfI L q.1.1 q.1.2.1 q.1.2.2) (fun q=>q.1.2.1.length) ⟨([],L,zV 4),rfl,rfl⟩ ?_ ?_
 · refine wO_ [((0,32),some (0,32)),((0,48),some (0,48))] (by simp [go_sem]) ?_ ?_ <;> simp [go_sem]
 intro ⟨⟨pre,post,v⟩,hl,hgo⟩
 simp only at hl hgo
 have hpl:=lS_ hl hL
 simp only [vecOfI]
 refine aQ_ ?_
 iterate 1
  refine oC_ fun J hJ=>?_
  simp [go_sem]
  refine hJ _ _ _ ?_
 refine oN_ ?_
 refine aS_ fun K6 hK6=>?_
 refine aC_ (t:=_) rfl (fun c7=>?_) (fun c7=>?_)
 ·
  simp [go_sem] at c7
  obtain ⟨x,post,rfl,hx⟩:=mL_ hl c7
  refine aK_ ?_
  refine hK6 _ ?_
  refine aS_ fun K8 hK8=>?_
  refine aB_ ?_
  refine aQ_ ?_
  iterate 4
   refine oC_ fun J hJ=>?_
   simp [go_sem,hx]
   refine hJ _ _ _ ?_
  refine oN_ ?_
  refine aQ_ ?_
  iterate 4
   refine oC_ fun J hJ=>?_
   simp [go_sem]
   refine hJ _ _ _ ?_
  refine oN_ ?_
  refine aQ_ ?_
  iterate 2
   refine oC_ fun J hJ=>?_
   simp [go_sem,thereS_at x.id.rep]
   refine hJ _ _ _ ?_
  refine oN_ ?_
  refine aC_ (t:=_) rfl (fun c12=>?_) (fun c12=>?_)
  ·
   simp [go_sem] at c12
   obtain ⟨h0,h4⟩:=c12
   have h5:x.id.rep.toNat < 4:=by omega
   have h6:x.id.rep<=3:=by omega
   have hnv:nv x v=v.put x.id.rep.toNat (mx (v.at x.id.rep.toNat) x.id.seq):=if_pos ⟨h0,h4⟩
   refine aD_ ?_
   iterate 10
    refine oC_ fun J hJ=>?_
    simp [go_sem,h0,h4,h5,h6,cV_over]
    refine hJ _ _ _ ?_
   refine oN_ ?_
   refine ⟨rfl,?_⟩
   refine hK8 _ ?_
   refine aR_ ?_
   iterate 2
    refine oC_ fun J hJ=>?_
    simp [go_sem]
    refine hJ _ _ _ ?_
   refine oN_ ?_
   refine ⟨⟨(pre++[x],post,nv x v),by simp [<-hl],by rw [<-hgo]; rfl⟩,?_,by simp⟩
   refine wO_ [((0,32),some (0,32)),((0,48),some (0,48))] (by simp [go_sem]) ?_ ?_ <;> simp [go_sem,wN_ hpl,↓hnv]
  ·
   simp [go_sem] at c12
   have hnv:nv x v=v:=if_neg (by omega)
   refine aK_ ?_
   refine hK8 _ ?_
   refine aR_ ?_
   iterate 2
    refine oC_ fun J hJ=>?_
    simp [go_sem]
    refine hJ _ _ _ ?_
   refine oN_ ?_
   refine ⟨⟨(pre++[x],post,nv x v),by simp [<-hl],by rw [<-hgo]; rfl⟩,?_,by simp⟩
   refine wO_ [((0,32),some (0,32)),((0,48),some (0,48))] (by simp [go_sem]) ?_ ?_ <;> simp [go_sem,wN_ hpl,↓hnv]
 ·
  simp [go_sem] at c7
  obtain ⟨rfl,rfl⟩:=mN_ hl c7
  simp only [knownG] at hgo
  refine aX_ ?_
  simp only [go_sem]
  refine hK3 _ ?_
  refine aQ_ ?_
  iterate 2
   refine oC_ fun J hJ=>?_
   simp [go_sem]
   refine hJ _ _ _ ?_
  refine oN_ ?_
  refine aE_ ?_
  refine fQ_ [] ?_
  simp [go_sem,Tryz.f53,hgo]
structure rAllX where
 d:List Chg
 r:List Chg
 hL:d.length + r.length<=10000
noncomputable def rAllS:HSpec:=mkH (ι:=rAllX) (fun ⟨d,r,hL⟩=>([.iref [.sl 9 (rows cChg d),.sl 9 (rows cChg r)] 0],[])) fun ⟨d,r,hL⟩=>⟨.own (2,0) (d++r).length,[],[.row 35 9 (rows cChg (d++r)) false]⟩
theorem rAllS_atG (d:List Chg) (r:List Chg) (hL:d.length + r.length<=10000):rAllS [.iref [.sl 9 (rows cChg d),.sl 9 (rows cChg r)] 0] []=some (⟨.own (2,0) (d++r).length,[],[.row 35 9 (rows cChg (d++r)) false]⟩):=
 mA_ (ι:=rAllX) (fun i j h=>by obtain ⟨d,r,hL⟩:=i; obtain ⟨d2,r2,hL2⟩:=j; simp [and_assoc,qB_,qI_,qO_,qC_,qE_,qK_,qR_,qV_,qP_,qOc_,rows_iff_Chg] at h; obtain ⟨rfl,rfl⟩:=h; rfl) ⟨d,r,hL⟩
theorem rAllS_at (d:List Chg) (r:List Chg) (hL:d.length + r.length<=10000):rAllS [.iref [.sl 9 (rows cChg d),.sl 9 (rows cChg r)] 0] []=some (⟨.own (2,0) (d++r).length,[],[.row 35 9 (rows cChg (d++r)) false]⟩):=rAllS_atG d r hL
theorem rAll_ok:HSound Tryz.prog 43 rAllS:=by
 refine sE_ (fn:=Tryz.f43) rfl rfl (by kernel_rfl) fun args bx hr hS=>?_
 obtain ⟨⟨d,r,hL⟩,rfl,rfl,rfl⟩:=mO_ hS
 clear hS
 refine ⟨_,(eN_ _),by simp [Tryz.f43],by simp [go_sem],fun w Mx pin=>?_⟩
 simp only [hB_at,lab_nil,lab_cons,hOf_nil,hOf_cons]
 have m1:d.length * 72<=140737488355328:=by omega
 have m2:d.length<=maxLen:=by simp only [maxLen]; omega
 have m3:(d.length + r.length) * 72<=140737488355328:=by omega
 have m4:d.length + r.length<=maxLen:=by simp only [maxLen]; omega
 refine aQ_ ?_
 iterate 1
  refine oC_ fun J hJ=>?_
  simp [go_sem]
  refine hJ _ _ _ ?_
 refine oN_ ?_
 refine aQ_ ?_
 iterate 1
  refine oC_ fun J hJ=>?_
  simp [go_sem]
  refine hJ _ _ _ ?_
 refine oN_ ?_
 refine aQ_ ?_
 iterate 7
  refine oC_ fun J hJ=>?_
  simp [go_sem,m1,m2]
  refine hJ _ _ _ ?_
 refine oN_ ?_
 refine aQ_ ?_
 iterate 7
  refine oC_ fun J hJ=>?_
  simp [go_sem,m3,m4]
  refine hJ _ _ _ ?_
 refine oN_ ?_
 refine aQ_ ?_
 iterate 2
  refine oC_ fun J hJ=>?_
  simp [go_sem]
  refine hJ _ _ _ ?_
 refine oN_ ?_
 refine aE_ ?_
 refine fQ_ [((2,0),some (0,240))] ?_
 simp [go_sem,Tryz.f43]
def rLastI (i:Int) (L pre _post:List Chg) (t:Int):St:=⟨ofL [(1,.int .i64 i),(5,.int .i64 t),(6,.sl 9 (rows cChg L)),(7,.int .i64 pre.length)],hOf []⟩
def nt (i:Int) (x:Chg) (t:Int):Int:=if x.id.rep=i/\t < x.time then x.time else t
structure rLastX where
 d:List Chg
 r:List Chg
 i:Int
 hL:d.length + r.length<=10000
noncomputable def rLastS:HSpec:=mkH (ι:=rLastX) (fun ⟨d,r,i,hL⟩=>([.iref [.sl 9 (rows cChg d),.sl 9 (rows cChg r)] 0,.int .i64 i],[])) fun ⟨d,r,i,hL⟩=>⟨.int .i64 (lastT i (d++r) 0),[],[]⟩
theorem rLastS_atG (d:List Chg) (r:List Chg) (i:Int) (hL:d.length + r.length<=10000):rLastS [.iref [.sl 9 (rows cChg d),.sl 9 (rows cChg r)] 0,.int .i64 i] []=some (⟨.int .i64 (lastT i (d++r) 0),[],[]⟩):=
 mA_ (ι:=rLastX) (fun i j h=>by obtain ⟨d,r,i,hL⟩:=i; obtain ⟨d2,r2,i2,hL2⟩:=j; simp [and_assoc,qB_,qI_,qO_,qC_,qE_,qK_,qR_,qV_,qP_,qOc_,rows_iff_Chg] at h; obtain ⟨rfl,rfl,rfl⟩:=h; rfl) ⟨d,r,i,hL⟩
theorem rLastS_at (d:List Chg) (r:List Chg) (i:Int) (hL:d.length + r.length<=10000):rLastS [.iref [.sl 9 (rows cChg d),.sl 9 (rows cChg r)] 0,.int .i64 i] []=some (⟨.int .i64 (lastT i (d++r) 0),[],[]⟩):=rLastS_atG d r i hL
theorem rLast_ok:HSound Tryz.prog 55 rLastS:=by
 refine sE_ (fn:=Tryz.f55) rfl rfl (by kernel_rfl) fun args bx hr hS=>?_
 obtain ⟨⟨d,r,i,hL⟩,rfl,rfl,rfl⟩:=mO_ hS
 clear hS
 refine ⟨_,(eV_ (g:=43) (by kernel_rfl) rAll_ok (eN_ _)),by simp [Tryz.f55],by simp [go_sem],fun w Mx pin=>?_⟩
 simp only [hB_at,lab_nil,lab_cons,hOf_nil,hOf_cons]
 obtain ⟨L,hLd⟩:∃ L,L=d++r:=⟨_,rfl⟩
 have e6:L.length<=100000:=by rw [hLd]; simp; omega
 refine aQ_ ?_
 iterate 1
  refine oC_ fun J hJ=>?_
  simp [go_sem]
  refine hJ _ _ _ ?_
 refine oN_ ?_
 refine aQ_ ?_
 iterate 1
  refine oC_ fun J hJ=>?_
  simp [go_sem]
  refine hJ _ _ _ ?_
 refine oN_ ?_
 refine aQ_ ?_
 iterate 3
  refine oC_ fun J hJ=>?_
  simp [go_sem,rAllS_at d r hL,<-hLd]
  refine hJ _ _ _ ?_
 refine oN_ ?_
 refine aS_ fun K4 hK4=>?_
 refine aQ_ ?_
 iterate 1
  refine oC_ fun J hJ=>?_
  simp [go_sem]
  refine hJ _ _ _ ?_
 refine oN_ ?_
 refine aB_ ?_
 refine aL_ (ι:={ q:List Chg × List Chg × Int // q.1++q.2.1=L/\lastT i q.2.1 q.2.2=lastT i L 0 }) (fun q=>rLastI i L q.1.1 q.1.2.1 q.1.2.2) (fun q=>q.1.2.1.length) ⟨([],L,0),rfl,rfl⟩ ?_ ?_
 · refine wO_ [] (by simp [go_sem]) ?_ ?_ <;> simp [go_sem]
 intro ⟨⟨pre,post,t⟩,hl,hgo⟩
 simp only at hl hgo
 have hpl:=lS_ hl e6
 simp only [rLastI]
 refine aS_ fun K6 hK6=>?_
 refine aQ_ ?_
 iterate 4
  refine oC_ fun J hJ=>?_
  simp [go_sem]
  refine hJ _ _ _ ?_
 refine oN_ ?_
 refine aC_ (t:=_) rfl (fun c8=>?_) (fun c8=>?_)
 ·
  simp [go_sem] at c8
  obtain ⟨x,post,rfl,hx⟩:=mL_ hl c8
  refine aK_ ?_
  refine hK6 _ ?_
  refine aS_ fun K9 hK9=>?_
  refine aB_ ?_
  refine aS_ fun K10 hK10=>?_
  cases g0:(x.id.rep == i)
  ·
   have hnt:nt i x t=t:=by simp at g0; exact if_neg (by simp [g0])
   refine aR_ ?_
   iterate 17
    refine oC_ fun J hJ=>?_
    simp [go_sem,hx,g0]
    refine hJ _ _ _ ?_
   refine oN_ ?_
   refine hK10 _ ?_
   refine aF_ rfl ?_
   refine aK_ ?_
   refine hK9 _ ?_
   refine aR_ ?_
   iterate 3
    refine oC_ fun J hJ=>?_
    simp [go_sem]
    refine hJ _ _ _ ?_
   refine oN_ ?_
   refine ⟨⟨(pre++[x],post,nt i x t),by simp [<-hl],by rw [<-hgo]; rfl⟩,?_,by simp⟩
   refine wO_ [] (by simp [go_sem]) ?_ ?_ <;> simp [go_sem,wN_ hpl,↓hnt]
  ·
   simp at g0
   refine aR_ ?_
   iterate 17
    refine oC_ fun J hJ=>?_
    simp [go_sem,hx,g0]
    refine hJ _ _ _ ?_
   refine oN_ ?_
   refine hK10 _ ?_
   refine aC_ (t:=_) rfl (fun c11=>?_) (fun c11=>?_)
   ·
    simp [go_sem] at c11
    have hnt:nt i x t=x.time:=if_pos ⟨g0,c11⟩
    refine aR_ ?_
    iterate 6
     refine oC_ fun J hJ=>?_
     simp [go_sem,hx]
     refine hJ _ _ _ ?_
    refine oN_ ?_
    refine hK9 _ ?_
    refine aR_ ?_
    iterate 3
     refine oC_ fun J hJ=>?_
     simp [go_sem]
     refine hJ _ _ _ ?_
    refine oN_ ?_
    refine ⟨⟨(pre++[x],post,nt i x t),by simp [<-hl],by rw [<-hgo]; rfl⟩,?_,by simp⟩
    refine wO_ [] (by simp [go_sem]) ?_ ?_ <;> simp [go_sem,wN_ hpl,↓hnt]
   ·
    simp [go_sem] at c11
    have hnt:nt i x t=t:=if_neg (by omega)
    refine aK_ ?_
    refine hK9 _ ?_
    refine aR_ ?_
    iterate 3
     refine oC_ fun J hJ=>?_
     simp [go_sem]
     refine hJ _ _ _ ?_
    refine oN_ ?_
    refine ⟨⟨(pre++[x],post,nt i x t),by simp [<-hl],by rw [<-hgo]; rfl⟩,?_,by simp⟩
    refine wO_ [] (by simp [go_sem]) ?_ ?_ <;> simp [go_sem,wN_ hpl,↓hnt]
 ·
  simp [go_sem] at c8
  obtain ⟨rfl,rfl⟩:=mN_ hl c8
  simp only [lastT] at hgo
  refine aX_ ?_
  simp only [go_sem]
  refine hK4 _ ?_
  refine aQ_ ?_
  iterate 2
   refine oC_ fun J hJ=>?_
   simp [go_sem]
   refine hJ _ _ _ ?_
  refine oN_ ?_
  refine aE_ ?_
  refine fQ_ [] ?_
  simp [go_sem,Tryz.f55,<-hLd,hgo]
structure rKnownX where
 d:List Chg
 r:List Chg
 hL:(d.length + r.length<=10000)/\∀ c ∈ d++r,0<=c.id.rep/\c.id.rep < 4
noncomputable def rKnownS:HSpec:=mkH (ι:=rKnownX) (fun ⟨d,r,hL⟩=>([.iref [.sl 9 (rows cChg d),.sl 9 (rows cChg r)] 0],[])) fun ⟨d,r,hL⟩=>⟨.agg (cV (AE.knownR (d++r) (zV 4))),[],[]⟩
theorem rKnownS_atG (d:List Chg) (r:List Chg) (hL:(d.length + r.length<=10000)/\∀ c ∈ d++r,0<=c.id.rep/\c.id.rep < 4):rKnownS [.iref [.sl 9 (rows cChg d),.sl 9 (rows cChg r)] 0] []=some (⟨.agg (cV (AE.knownR (d++r) (zV 4))),[],[]⟩):=
 mA_ (ι:=rKnownX) (fun i j h=>by obtain ⟨d,r,hL⟩:=i; obtain ⟨d2,r2,hL2⟩:=j; simp [and_assoc,qB_,qI_,qO_,qC_,qE_,qK_,qR_,qV_,qP_,qOc_,rows_iff_Chg] at h; obtain ⟨rfl,rfl⟩:=h; rfl) ⟨d,r,hL⟩
theorem rKnownS_at (d:List Chg) (r:List Chg) (hL:(d.length + r.length<=10000)/\∀ c ∈ d++r,0<=c.id.rep/\c.id.rep < 4):rKnownS [.iref [.sl 9 (rows cChg d),.sl 9 (rows cChg r)] 0] []=some (⟨.agg (cV (AE.knownR (d++r) (zV 4))),[],[]⟩):=rKnownS_atG d r hL
def nr (x:Chg) (v:Vn 4):Vn 4:=if v.at x.id.rep.toNat < x.id.seq then v.put x.id.rep.toNat x.id.seq else v
def rKnownI (L:List Chg) (pre _post:List Chg) (v:Vn 4):St:=⟨ofL [(2,.ref (0,32) 0),(3,.ref (0,48) 0),(4,.sl 9 (rows cChg L)),(5,.int .i64 pre.length)],hOf [((0,32),.obj (cV (zV 4))),((0,48),.obj (cV v))]⟩
theorem rKnown_ok:HSound Tryz.prog 41 rKnownS:=by
 refine sE_ (fn:=Tryz.f41) rfl rfl (by kernel_rfl) fun args bx hr hS=>?_
 obtain ⟨⟨d,r,hL⟩,rfl,rfl,rfl⟩:=mO_ hS
 clear hS
 refine ⟨_,(eV_ (g:=43) (by kernel_rfl) rAll_ok (eN_ _)),by simp [Tryz.f41],by simp [go_sem],fun w Mx pin=>?_⟩
 simp only [hB_at,lab_nil,lab_cons,hOf_nil,hOf_cons]
 obtain ⟨hL,hrep⟩:=hL
 obtain ⟨L,hLd⟩:∃ L,L=d++r:=⟨_,rfl⟩
 have e6:L.length<=100000:=by rw [hLd]; simp; omega
 rw [<-hLd] at hrep
 refine aQ_ ?_
 iterate 1
  refine oC_ fun J hJ=>?_
  simp [go_sem]
  refine hJ _ _ _ ?_
 refine oN_ ?_
 refine aQ_ ?_
 iterate 1
  refine oC_ fun J hJ=>?_
  simp [go_sem]
  refine hJ _ _ _ ?_
 refine oN_ ?_
 refine aQ_ ?_
 iterate 3
  refine oC_ fun J hJ=>?_
  simp [go_sem,rAllS_at d r hL,<-hLd]
  refine hJ _ _ _ ?_
 refine oN_ ?_
 refine aS_ fun K4 hK4=>?_
 refine aQ_ ?_
 iterate 1
  refine oC_ fun J hJ=>?_
  simp [go_sem]
  refine hJ _ _ _ ?_
 refine oN_ ?_
 refine aB_ ?_
 refine aL_ (ι:={ q:List Chg × List Chg × Vn 4 // q.1++q.2.1=L/\AE.knownR q.2.1 q.2.2=AE.knownR L (zV 4) }) (fun q=>rKnownI L q.1.1 q.1.2.1 q.1.2.2) (fun q=>q.1.2.1.length) ⟨([],L,zV 4),rfl,rfl⟩ ?_ ?_
 · refine wO_ [((0,32),some (0,32)),((0,48),some (0,48))] (by simp [go_sem]) ?_ ?_ <;> simp [go_sem]
 intro ⟨⟨pre,post,v⟩,hl,hgo⟩
 simp only at hl hgo
 have hpl:=lS_ hl e6
 simp only [rKnownI]
 refine aS_ fun K6 hK6=>?_
 refine aQ_ ?_
 iterate 4
  refine oC_ fun J hJ=>?_
  simp [go_sem]
  refine hJ _ _ _ ?_
 refine oN_ ?_
 refine aC_ (t:=_) rfl (fun c8=>?_) (fun c8=>?_)
 ·
  simp [go_sem] at c8
  obtain ⟨x,post,rfl,hx⟩:=mL_ hl c8
  obtain ⟨h0,h4⟩:=hrep x (by rw [<-hl]; simp)
  have h5:x.id.rep.toNat < 4:=by omega
  have h6:x.id.rep<=3:=by omega
  refine aK_ ?_
  refine hK6 _ ?_
  refine aS_ fun K9 hK9=>?_
  refine aB_ ?_
  refine aU_ ?_
  iterate 15
   refine oC_ fun J hJ=>?_
   simp [go_sem,hx,h0,h4,h5,h6]
   refine hJ _ _ _ ?_
  refine oN_ ?_
  refine ⟨rfl,?_⟩
  refine aC_ (t:=_) rfl (fun c11=>?_) (fun c11=>?_)
  ·
   simp [go_sem] at c11
   have hnr:nr x v=v.put x.id.rep.toNat x.id.seq:=if_pos (by omega)
   refine aD_ ?_
   iterate 14
    refine oC_ fun J hJ=>?_
    simp [go_sem,hx,h0,h4,h5,h6,cV_over]
    refine hJ _ _ _ ?_
   refine oN_ ?_
   refine ⟨rfl,?_⟩
   refine hK9 _ ?_
   refine aR_ ?_
   iterate 3
    refine oC_ fun J hJ=>?_
    simp [go_sem]
    refine hJ _ _ _ ?_
   refine oN_ ?_
   refine ⟨⟨(pre++[x],post,nr x v),by simp [<-hl],by rw [<-hgo]; rfl⟩,?_,by simp⟩
   refine wO_ [((0,32),some (0,32)),((0,48),some (0,48))] (by simp [go_sem]) ?_ ?_ <;> simp [go_sem,wN_ hpl,↓hnr]
  ·
   simp [go_sem] at c11
   have hnr:nr x v=v:=if_neg (by omega)
   refine aK_ ?_
   refine hK9 _ ?_
   refine aR_ ?_
   iterate 3
    refine oC_ fun J hJ=>?_
    simp [go_sem]
    refine hJ _ _ _ ?_
   refine oN_ ?_
   refine ⟨⟨(pre++[x],post,nr x v),by simp [<-hl],by rw [<-hgo]; rfl⟩,?_,by simp⟩
   refine wO_ [((0,32),some (0,32)),((0,48),some (0,48))] (by simp [go_sem]) ?_ ?_ <;> simp [go_sem,wN_ hpl,↓hnr]
 ·
  simp [go_sem] at c8
  obtain ⟨rfl,rfl⟩:=mN_ hl c8
  simp only [AE.knownR] at hgo
  refine aX_ ?_
  simp only [go_sem]
  refine hK4 _ ?_
  refine aQ_ ?_
  iterate 2
   refine oC_ fun J hJ=>?_
   simp [go_sem]
   refine hJ _ _ _ ?_
  refine oN_ ?_
  refine aE_ ?_
  refine fQ_ [] ?_
  simp [go_sem,Tryz.f41,<-hLd,hgo]
def clkN (L:List Chg):Nat->Int
 | 0=>0
 | i + 1=>mx (clkN L i) (lastT (i:Int) L 0)
structure rClockX where
 d:List Chg
 r:List Chg
 hL:d.length + r.length<=10000
noncomputable def rClockS:HSpec:=mkH (ι:=rClockX) (fun ⟨d,r,hL⟩=>([.iref [.sl 9 (rows cChg d),.sl 9 (rows cChg r)] 0],[])) fun ⟨d,r,hL⟩=>⟨.int .i64 (clkN (d++r) 4),[],[]⟩
theorem rClockS_atG (d:List Chg) (r:List Chg) (hL:d.length + r.length<=10000):rClockS [.iref [.sl 9 (rows cChg d),.sl 9 (rows cChg r)] 0] []=some (⟨.int .i64 (clkN (d++r) 4),[],[]⟩):=
 mA_ (ι:=rClockX) (fun i j h=>by obtain ⟨d,r,hL⟩:=i; obtain ⟨d2,r2,hL2⟩:=j; simp [and_assoc,qB_,qI_,qO_,qC_,qE_,qK_,qR_,qV_,qP_,qOc_,rows_iff_Chg] at h; obtain ⟨rfl,rfl⟩:=h; rfl) ⟨d,r,hL⟩
theorem rClockS_at (d:List Chg) (r:List Chg) (hL:d.length + r.length<=10000):rClockS [.iref [.sl 9 (rows cChg d),.sl 9 (rows cChg r)] 0] []=some (⟨.int .i64 (clkN (d++r) 4),[],[]⟩):=rClockS_atG d r hL
theorem rClock_ok:HSound Tryz.prog 42 rClockS:=by
 refine sE_ (fn:=Tryz.f42) rfl rfl (by kernel_rfl) fun args bx hr hS=>?_
 obtain ⟨⟨d,r,hL⟩,rfl,rfl,rfl⟩:=mO_ hS
 clear hS
 refine ⟨_,(eV_ (g:=55) (by kernel_rfl) rLast_ok (eN_ _)),by simp [Tryz.f42],by simp [go_sem],fun w Mx pin=>?_⟩
 simp only [hB_at,lab_nil,lab_cons,hOf_nil,hOf_cons]
 refine aQ_ ?_
 iterate 1
  refine oC_ fun J hJ=>?_
  simp [go_sem]
  refine hJ _ _ _ ?_
 refine oN_ ?_
 refine aQ_ ?_
 iterate 1
  refine oC_ fun J hJ=>?_
  simp [go_sem]
  refine hJ _ _ _ ?_
 refine oN_ ?_
 refine aS_ fun K3 hK3=>?_
 refine aQ_ ?_
 iterate 1
  refine oC_ fun J hJ=>?_
  simp [go_sem]
  refine hJ _ _ _ ?_
 refine oN_ ?_
 refine aB_ ?_
 refine aL_ (ι:={ i:Nat // i<=4 }) (fun q=>⟨ofL [(0,.iref [.sl 9 (rows cChg d),.sl 9 (rows cChg r)] 0),(3,.int .i64 (clkN (d++r) q.1)),(4,.int .i64 q.1)],hOf []⟩) (fun q=>4 - q.1) ⟨0,by omega⟩ ?_ ?_
 · refine wO_ [] (by simp [go_sem]) ?_ ?_ <;> simp [go_sem,clkN]
 intro ⟨i,hi⟩
 try simp only at hi
 obtain ⟨t,ht⟩:∃ t,t=clkN (d++r) i:=⟨_,rfl⟩
 obtain ⟨q,hq⟩:∃ q,q=lastT (i:Int) (d++r) 0:=⟨_,rfl⟩
 have hl:=rLastS_at d r (i:Int) hL
 rw [<-hq] at hl
 simp only [<-ht]
 refine aS_ fun K5 hK5=>?_
 refine aQ_ ?_
 iterate 2
  refine oC_ fun J hJ=>?_
  simp [go_sem]
  refine hJ _ _ _ ?_
 refine oN_ ?_
 refine aC_ (t:=_) rfl (fun c7=>?_) (fun c7=>?_)
 ·
  simp [go_sem] at c7
  have hi4:i < 4:=by omega
  refine aK_ ?_
  refine hK5 _ ?_
  refine aS_ fun K8 hK8=>?_
  refine aB_ ?_
  refine aQ_ ?_
  iterate 5
   refine oC_ fun J hJ=>?_
   simp [go_sem,↓hl]
   refine hJ _ _ _ ?_
  refine oN_ ?_
  refine aC_ (t:=_) rfl (fun c10=>?_) (fun c10=>?_)
  ·
   simp [go_sem] at c10
   have hm:mx t q=q:=if_pos (by omega)
   refine aR_ ?_
   iterate 4
    refine oC_ fun J hJ=>?_
    simp [go_sem,↓hl]
    refine hJ _ _ _ ?_
   refine oN_ ?_
   refine hK8 _ ?_
   refine aR_ ?_
   iterate 3
    refine oC_ fun J hJ=>?_
    simp [go_sem]
    refine hJ _ _ _ ?_
   refine oN_ ?_
   refine ⟨⟨i + 1,by omega⟩,?_,by simp only; omega⟩
   refine wO_ [] (by simp [go_sem]) ?_ ?_ <;> simp [go_sem,clkN,<-ht,<-hq,wN_ (n:=i) (by omega),hm]
  ·
   simp [go_sem] at c10
   have hm:mx t q=t:=if_neg (by omega)
   refine aK_ ?_
   refine hK8 _ ?_
   refine aR_ ?_
   iterate 3
    refine oC_ fun J hJ=>?_
    simp [go_sem]
    refine hJ _ _ _ ?_
   refine oN_ ?_
   refine ⟨⟨i + 1,by omega⟩,?_,by simp only; omega⟩
   refine wO_ [] (by simp [go_sem]) ?_ ?_ <;> simp [go_sem,clkN,<-ht,<-hq,wN_ (n:=i) (by omega),hm]
 ·
  simp [go_sem] at c7
  have hi4:i=4:=by omega
  subst hi4
  refine aX_ ?_
  simp only [go_sem]
  refine hK3 _ ?_
  refine aQ_ ?_
  iterate 2
   refine oC_ fun J hJ=>?_
   simp [go_sem]
   refine hJ _ _ _ ?_
  refine oN_ ?_
  refine aE_ ?_
  refine fQ_ [] ?_
  simp [go_sem,Tryz.f42,<-ht]
theorem runRZ_bD (L:List Chg) (h:L.length<=20000):runRS [.agg (cBk zBk .nils),.sl 9 (rows cChg L)] []=some ⟨.tup [.agg (cBk (bD L).1 (.sl 7 (rows cOrd (bD L).2))),.own (2,0) L.length],[],[.row 50 2 (rows cOc (oD L)) false]⟩:=runRS_atG zBk [] .nils L _ .nil .sl ⟨fairZ.1,fairZ.2,by simp; omega⟩
structure rBaseX where
 d:List Chg
 r:List Chg
 hL:d.length + r.length<=10000
noncomputable def rBaseS:HSpec:=mkH (ι:=rBaseX) (fun ⟨d,r,hL⟩=>([.ref (1,0) 0],[.obj [.sl 9 (rows cChg (d)),.sl 9 (rows cChg (r))]])) fun ⟨d,r,hL⟩=>⟨.agg (cBk (bD d).1 (.sl 7 (rows cOrd (bD d).2))),[.obj [.sl 9 (rows cChg (d)),.sl 9 (rows cChg (r))]],[]⟩
theorem rBaseS_atG (d:List Chg) (r:List Chg) (hL:d.length + r.length<=10000):rBaseS [.ref (1,0) 0] [.obj [.sl 9 (rows cChg (d)),.sl 9 (rows cChg (r))]]=some (⟨.agg (cBk (bD d).1 (.sl 7 (rows cOrd (bD d).2))),[.obj [.sl 9 (rows cChg (d)),.sl 9 (rows cChg (r))]],[]⟩):=
 mA_ (ι:=rBaseX) (fun i j h=>by obtain ⟨d,r,hL⟩:=i; obtain ⟨d2,r2,hL2⟩:=j; simp [and_assoc,qB_,qI_,qO_,qC_,qE_,qK_,qR_,qV_,qP_,qOc_,rows_iff_Chg] at h; obtain ⟨rfl,rfl⟩:=h; rfl) ⟨d,r,hL⟩
theorem rBaseS_at (d:List Chg) (r:List Chg) (hL:d.length + r.length<=10000):rBaseS [.ref (1,0) 0] [.obj [.sl 9 (rows cChg (d)),.sl 9 (rows cChg (r))]]=some (⟨.agg (cBk (bD d).1 (.sl 7 (rows cOrd (bD d).2))),[.obj [.sl 9 (rows cChg (d)),.sl 9 (rows cChg (r))]],[]⟩):=rBaseS_atG d r hL
theorem rBase_ok:HSound Tryz.prog 18 rBaseS:=by
 refine sE_ (fn:=Tryz.f18) rfl rfl (by kernel_rfl) fun args bx hr hS=>?_
 obtain ⟨⟨d,r,hL⟩,rfl,rfl,rfl⟩:=mO_ hS
 clear hS
 refine ⟨_,(eV_ (g:=11) (by kernel_rfl) runR_ok (eN_ _)),by simp [Tryz.f18],by simp [go_sem],fun w Mx pin=>?_⟩
 simp only [hB_at,lab_nil,lab_cons,hOf_nil,hOf_cons]
 refine aQ_ ?_
 iterate 1
  refine oC_ fun J hJ=>?_
  simp [go_sem]
  refine hJ _ _ _ ?_
 refine oN_ ?_
 refine aQ_ ?_
 iterate 12
  refine oC_ fun J hJ=>?_
  simp [go_sem,↓runRZ_bD d (by omega)]
  refine hJ _ _ _ ?_
 refine oN_ ?_
 refine aQ_ ?_
 iterate 2
  refine oC_ fun J hJ=>?_
  simp [go_sem]
  refine hJ _ _ _ ?_
 refine oN_ ?_
 refine aE_ ?_
 refine fQ_ [((1,0),some (1,0))] ?_
 simp [go_sem,Tryz.f18]
structure rSeenX where
 d:List Chg
 r:List Chg
 hL:d.length + r.length<=10000
noncomputable def rSeenS:HSpec:=mkH (ι:=rSeenX) (fun ⟨d,r,hL⟩=>([.ref (1,0) 0],[.obj [.sl 9 (rows cChg (d)),.sl 9 (rows cChg (r))]])) fun ⟨d,r,hL⟩=>⟨.agg (cBk (bD (d++r)).1 (.sl 7 (rows cOrd (bD (d++r)).2))),[.obj [.sl 9 (rows cChg (d)),.sl 9 (rows cChg (r))]],[]⟩
theorem rSeenS_atG (d:List Chg) (r:List Chg) (hL:d.length + r.length<=10000):rSeenS [.ref (1,0) 0] [.obj [.sl 9 (rows cChg (d)),.sl 9 (rows cChg (r))]]=some (⟨.agg (cBk (bD (d++r)).1 (.sl 7 (rows cOrd (bD (d++r)).2))),[.obj [.sl 9 (rows cChg (d)),.sl 9 (rows cChg (r))]],[]⟩):=
 mA_ (ι:=rSeenX) (fun i j h=>by obtain ⟨d,r,hL⟩:=i; obtain ⟨d2,r2,hL2⟩:=j; simp [and_assoc,qB_,qI_,qO_,qC_,qE_,qK_,qR_,qV_,qP_,qOc_,rows_iff_Chg] at h; obtain ⟨rfl,rfl⟩:=h; rfl) ⟨d,r,hL⟩
theorem rSeenS_at (d:List Chg) (r:List Chg) (hL:d.length + r.length<=10000):rSeenS [.ref (1,0) 0] [.obj [.sl 9 (rows cChg (d)),.sl 9 (rows cChg (r))]]=some (⟨.agg (cBk (bD (d++r)).1 (.sl 7 (rows cOrd (bD (d++r)).2))),[.obj [.sl 9 (rows cChg (d)),.sl 9 (rows cChg (r))]],[]⟩):=rSeenS_atG d r hL
theorem rSeen_ok:HSound Tryz.prog 20 rSeenS:=by
 refine sE_ (fn:=Tryz.f20) rfl rfl (by kernel_rfl) fun args bx hr hS=>?_
 obtain ⟨⟨d,r,hL⟩,rfl,rfl,rfl⟩:=mO_ hS
 clear hS
 refine ⟨_,(eV_ (g:=11) (by kernel_rfl) runR_ok (eV_ (g:=43) (by kernel_rfl) rAll_ok (eN_ _))),by simp [Tryz.f20],by simp [go_sem],fun w Mx pin=>?_⟩
 simp only [hB_at,lab_nil,lab_cons,hOf_nil,hOf_cons]
 have htk:List.take (d.length + r.length) (d++r)=d++r:=List.take_of_length_le (by simp)
 refine aQ_ ?_
 iterate 1
  refine oC_ fun J hJ=>?_
  simp [go_sem]
  refine hJ _ _ _ ?_
 refine oN_ ?_
 refine aS_ fun K2 hK2=>?_
 refine awp_regionW ?_
 refine opsW_cons fun J hJ=>?_
 simp [go_sem,rAllS_at d r hL,htk,↓runRZ_bD (d++r) (by simp; omega)]
 refine hJ _ _ _ ?_
 refine opsW_cons fun J hJ=>?_
 simp [go_sem,rAllS_at d r hL,htk,↓runRZ_bD (d++r) (by simp; omega)]
 refine hJ _ _ _ ?_
 refine opsW_cons fun J hJ=>?_
 simp [go_sem,rAllS_at d r hL,htk,↓runRZ_bD (d++r) (by simp; omega)]
 refine hJ _ _ _ ?_
 refine opsW_frz (e:=35) (sz:=9) (L:=rows cChg (d++r)) (z:=false) (0,128) (by simp [go_sem]) ?_
 refine opsW_cons fun J hJ=>?_
 simp [go_sem,rAllS_at d r hL,htk,↓runRZ_bD (d++r) (by simp; omega)]
 refine hJ _ _ _ ?_
 refine opsW_cons fun J hJ=>?_
 simp [go_sem,rAllS_at d r hL,htk,↓runRZ_bD (d++r) (by simp; omega)]
 refine hJ _ _ _ ?_
 refine opsW_cons fun J hJ=>?_
 simp [go_sem,rAllS_at d r hL,htk,↓runRZ_bD (d++r) (by simp; omega)]
 refine hJ _ _ _ ?_
 refine opsW_cons fun J hJ=>?_
 simp [go_sem,rAllS_at d r hL,htk,↓runRZ_bD (d++r) (by simp; omega)]
 refine hJ _ _ _ ?_
 refine opsW_cons fun J hJ=>?_
 simp [go_sem,rAllS_at d r hL,htk,↓runRZ_bD (d++r) (by simp; omega)]
 refine hJ _ _ _ ?_
 refine opsW_cons fun J hJ=>?_
 simp [go_sem,rAllS_at d r hL,htk,↓runRZ_bD (d++r) (by simp; omega)]
 refine hJ _ _ _ ?_
 refine opsW_cons fun J hJ=>?_
 simp [go_sem,rAllS_at d r hL,htk,↓runRZ_bD (d++r) (by simp; omega)]
 refine hJ _ _ _ ?_
 refine opsW_nil ?_
 refine hK2 _ ?_
 refine aQ_ ?_
 iterate 2
  refine oC_ fun J hJ=>?_
  simp [go_sem]
  refine hJ _ _ _ ?_
 refine oN_ ?_
 refine aE_ ?_
 refine fQ_ [((1,0),some (1,0))] ?_
 simp [go_sem,Tryz.f20]
def zOc:Outc:=⟨0,[]⟩
def outG (d r:List Chg) (a:Id):Outc:=if placeC (d++r) a < 0 then zOc else ((oD (d++r))[(placeC (d++r) a).toNat]?).getD zOc
def goodG (d r:List Chg) (a:Id):Bool:=decide (0<=placeC (d++r) a/\placeC (d++r) a < d.length)
def wasG (d r:List Chg) (a:Id):Bool:=decide (0<=placeC (d++r) a)
end Go.Proofs.YtjoaigccapegpaaGreat.AE
