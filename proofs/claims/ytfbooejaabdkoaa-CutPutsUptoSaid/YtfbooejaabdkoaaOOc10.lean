/-
 Vectors, numbers between two: contracts. Conditions: none; every contract names its own.
-/
import Derived.Test.YtfbooejaabdkoaaOOc3
set_option linter.constructorNameAsVariable false
namespace Go.Proofs.Ytfbooejaabdkoaa.AE
open Go Go.Proofs Go.RowKit
set_option linter.unusedVariables false
set_option linter.unusedSimpArgs false
set_option maxRecDepth 100000
set_option maxHeartbeats 4000000
@[go_sem] theorem cV_t4 (v:Vn 4):(cV v).take 4=cV v:=cV_take_all v
@[go_sem] theorem cV_d4 (v:Vn 4):(cV v).drop 4=[]:=List.drop_eq_nil_of_le (by rw [cV_len]; exact Nat.le_refl _)
def nvC (x:Chg) (v:Vn 4):Vn 4:=if 0<=x.id.rep/\x.id.rep < 4 then v.put x.id.rep.toNat (mx (v.at x.id.rep.toNat) x.id.seq) else v
def vecG:List Chg->Vn 4->Vn 4
 | [],v=>v
 | x :: r,v=>vecG r (nvC x v)
def vofI (L:List Chg) (pre _post:List Chg) (v:Vn 4):St:=⟨ofL [(2,.ref (0,32) 0),(3,.ref (0,48) 0),(7,.sl 9 (rows cChg L)),(8,.int .i64 L.length),(9,.int .i64 pre.length)],hOf [((0,32),.obj (cV (zV 4))),((0,48),.obj (cV v))]⟩
def joinK (v u:Vn 4):Nat->Vn 4
 | 0=>v
 | i + 1=>(joinK v u i).put i (mx ((joinK v u i).at i) (u.at i))
def joinI (v u:Vn 4) (i:Nat):St:=⟨ofL [(2,.ref (0,32) 0),(3,.ref (0,48) 0),(4,.ref (0,64) 0),(6,.int .i64 i)],hOf [((0,32),.obj (cV (joinK v u i))),((0,48),.obj (cV u)),((0,64),.obj (cV (zV 4)))]⟩
def clampI (n lo hi:Int):Int:=if n < lo then lo else if n > hi then hi else n
structure vthereX where
 r:Int
noncomputable def vthereS:HSpec:=mkH (ι:=vthereX) (fun ⟨r⟩=>([.int .i64 r],[])) fun ⟨r⟩=>⟨.bool (decide (0<=r/\r < 4)),[],[]⟩
theorem vthereS_atG (r:Int):vthereS [.int .i64 r] []=some (⟨.bool (decide (0<=r/\r < 4)),[],[]⟩):=
 mA_ (ι:=vthereX) (fun i j h=>by obtain ⟨r⟩:=i; obtain ⟨r2⟩:=j; simp [and_assoc,qB_,qI_,qO_,qC_,qE_,qK_,qR_,qV_,qP_,qOc_,rows_iff_U8,cCut_eq_iff,Int.natCast_inj] at h; obtain rfl:=h; rfl) ⟨r⟩
theorem vthereS_at (r:Int):vthereS [.int .i64 r] []=some (⟨.bool (decide (0<=r/\r < 4)),[],[]⟩):=vthereS_atG r
theorem vthere_ok:HSound Try.prog 79 vthereS:=by
 refine sE_ (fn:=Try.f79) rfl rfl (by kernel_rfl) fun args bx hr hS=>?_
 obtain ⟨⟨r⟩,rfl,rfl,rfl⟩:=mO_ hS
 clear hS
 refine ⟨_,(eN_ _),by simp [Try.f79],by simp [go_sem],fun w Mx pin=>?_⟩
 simp only [hB_at,lab_nil,lab_cons,hOf_nil,hOf_cons]
 refine aQ_ ?_
 iterate 1
  refine oC_ fun J hJ=>?_
  simp [go_sem]
  refine hJ _ _ _ ?_
 refine oN_ ?_
 refine aS_ fun K2 hK2=>?_
 by_cases h1:0<=r
 all_goals
  refine aR_ ?_
  iterate 7
   refine oC_ fun J hJ=>?_
   simp [go_sem,h1]
   refine hJ _ _ _ ?_
  refine oN_ ?_
  refine hK2 _ ?_
  refine aE_ ?_
  refine fQ_ [] ?_
  simp [go_sem,Try.f79,h1]
structure vofX where
 L:List Chg
 L':AV
 h_L:SlA 9 cChg L L'
 hL:L.length<=100000
noncomputable def vofS:HSpec:=mkH (ι:=vofX) (fun ⟨L,L',h_L,hL⟩=>([L'],[])) fun ⟨L,L',h_L,hL⟩=>⟨.agg (cV (vecG L (zV 4))),[],[]⟩
theorem vofS_atG (L:List Chg) (L':AV) (h_L:SlA 9 cChg L L') (hL:L.length<=100000):vofS [L'] []=some (⟨.agg (cV (vecG L (zV 4))),[],[]⟩):=
 mA_ (ι:=vofX) (fun i j h=>by obtain ⟨L,L',h_L,hL⟩:=i; obtain ⟨L2,L'2,h_L2,hL2⟩:=j; simp [and_assoc,qB_,qI_,qO_,qC_,qE_,qK_,qR_,qV_,qP_,qOc_,rows_iff_U8,cCut_eq_iff,Int.natCast_inj] at h; obtain rfl:=h; obtain rfl:=SlA.inj (fun x y h=>cChg_inj h) h_L h_L2; rfl) ⟨L,L',h_L,hL⟩
theorem vofS_at (L:List Chg) (hL:L.length<=100000):vofS [(.sl 9 (rows cChg L))] []=some (⟨.agg (cV (vecG L (zV 4))),[],[]⟩):=vofS_atG L _ .sl hL
theorem vof_ok:HSound Try.prog 62 vofS:=by
 refine sE_ (fn:=Try.f62) rfl rfl (by kernel_rfl) fun args bx hr hS=>?_
 obtain ⟨⟨L,L',h_L,hL⟩,rfl,rfl,rfl⟩:=mO_ hS
 clear hS
 refine ⟨_,(eV_ (g:=79) (by kernel_rfl) vthere_ok (eN_ _)),by simp [Try.f62],by simp [go_sem],fun w Mx pin=>?_⟩
 simp only [hB_at,lab_nil,lab_cons,hOf_nil,hOf_cons]
 refine aW_ (s':=⟨ofL [(0,(.sl 9 (rows cChg L)))],hOf []⟩) ?_ ?_
 · cases h_L <;> exact wO_ [] (by simp [go_sem]) (by simp [go_sem]) (by simp [go_sem])
 clear h_L
 refine aQ_ ?_
 iterate 1
  refine oC_ fun J hJ=>?_
  simp [go_sem]
  refine hJ _ _ _ ?_
 refine oN_ ?_
 refine aQ_ ?_
 iterate 1
  refine oC_ fun J hJ=>?_
  simp [go_sem]
  refine hJ _ _ _ ?_
 refine oN_ ?_
 refine aS_ fun K3 hK3=>?_
 refine aQ_ ?_
 iterate 3
  refine oC_ fun J hJ=>?_
  simp [go_sem]
  refine hJ _ _ _ ?_
 refine oN_ ?_
 refine aB_ ?_
 refine aL_ (ι:={ q:List Chg × List Chg × Vn 4 // q.1++q.2.1=L/\vecG q.2.1 q.2.2=vecG L (zV 4) }) (fun q=>vofI L q.1.1 q.1.2.1 q.1.2.2) (fun q=>q.1.2.1.length) ⟨([],L,zV 4),rfl,rfl⟩ ?_ ?_
 · refine wO_ [((0,32),some (0,32)),((0,48),some (0,48))] (by simp [go_sem]) ?_ ?_ <;> simp [go_sem]
 intro ⟨⟨pre,post,v⟩,hl,hgo⟩
 simp only at hl hgo
 have hpl:=lS_ hl hL
 simp only [vofI]
 refine aQ_ ?_
 iterate 1
  refine oC_ fun J hJ=>?_
  simp [go_sem]
  refine hJ _ _ _ ?_
 refine oN_ ?_
 refine aS_ fun K6 hK6=>?_
 refine aC_ (t:=_) rfl (fun c7=>?_) (fun c7=>?_)
 ·
  simp [go_sem] at c7
  obtain ⟨x,post,rfl,hx⟩:=mL_ hl c7
  refine aK_ ?_
  refine hK6 _ ?_
  refine aS_ fun K8 hK8=>?_
  refine aB_ ?_
  refine aQ_ ?_
  iterate 4
   refine oC_ fun J hJ=>?_
   simp [go_sem,hx]
   refine hJ _ _ _ ?_
  refine oN_ ?_
  refine aQ_ ?_
  iterate 4
   refine oC_ fun J hJ=>?_
   simp [go_sem]
   refine hJ _ _ _ ?_
  refine oN_ ?_
  refine aQ_ ?_
  iterate 2
   refine oC_ fun J hJ=>?_
   simp [go_sem,vthereS_at x.id.rep]
   refine hJ _ _ _ ?_
  refine oN_ ?_
  refine aC_ (t:=_) rfl (fun c12=>?_) (fun c12=>?_)
  ·
   simp [go_sem] at c12
   obtain ⟨h0,h4⟩:=c12
   have h5:x.id.rep.toNat < 4:=by omega
   have h6:x.id.rep<=3:=by omega
   have hnv:nvC x v=v.put x.id.rep.toNat (mx (v.at x.id.rep.toNat) x.id.seq):=if_pos ⟨h0,h4⟩
   refine aD_ ?_
   iterate 10
    refine oC_ fun J hJ=>?_
    simp [go_sem,h0,h4,h5,h6,cV_over]
    refine hJ _ _ _ ?_
   refine oN_ ?_
   refine ⟨rfl,?_⟩
   refine hK8 _ ?_
   refine aR_ ?_
   iterate 2
    refine oC_ fun J hJ=>?_
    simp [go_sem]
    refine hJ _ _ _ ?_
   refine oN_ ?_
   refine ⟨⟨(pre++[x],post,nvC x v),by simp [<-hl],by rw [<-hgo]; rfl⟩,?_,by simp⟩
   refine wO_ [((0,32),some (0,32)),((0,48),some (0,48))] (by simp [go_sem]) ?_ ?_ <;> simp [go_sem,wN_ hpl,↓hnv]
  ·
   simp [go_sem] at c12
   have hnv:nvC x v=v:=if_neg (by omega)
   refine aK_ ?_
   refine hK8 _ ?_
   refine aR_ ?_
   iterate 2
    refine oC_ fun J hJ=>?_
    simp [go_sem]
    refine hJ _ _ _ ?_
   refine oN_ ?_
   refine ⟨⟨(pre++[x],post,nvC x v),by simp [<-hl],by rw [<-hgo]; rfl⟩,?_,by simp⟩
   refine wO_ [((0,32),some (0,32)),((0,48),some (0,48))] (by simp [go_sem]) ?_ ?_ <;> simp [go_sem,wN_ hpl,↓hnv]
 ·
  simp [go_sem] at c7
  obtain ⟨rfl,rfl⟩:=mN_ hl c7
  simp only [vecG] at hgo
  refine aX_ ?_
  simp only [go_sem]
  refine hK3 _ ?_
  refine aQ_ ?_
  iterate 2
   refine oC_ fun J hJ=>?_
   simp [go_sem]
   refine hJ _ _ _ ?_
  refine oN_ ?_
  refine aE_ ?_
  refine fQ_ [] ?_
  simp [go_sem,Try.f62,hgo]
structure vjoinX where
 v:Vn 4
 u:Vn 4
noncomputable def vjoinS:HSpec:=mkH (ι:=vjoinX) (fun ⟨v,u⟩=>([.agg (cV v),.agg (cV u)],[])) fun ⟨v,u⟩=>⟨.agg (cV (joinK v u 4)),[],[]⟩
theorem vjoinS_atG (v:Vn 4) (u:Vn 4):vjoinS [.agg (cV v),.agg (cV u)] []=some (⟨.agg (cV (joinK v u 4)),[],[]⟩):=
 mA_ (ι:=vjoinX) (fun i j h=>by obtain ⟨v,u⟩:=i; obtain ⟨v2,u2⟩:=j; simp [and_assoc,qB_,qI_,qO_,qC_,qE_,qK_,qR_,qV_,qP_,qOc_,rows_iff_U8,cCut_eq_iff,Int.natCast_inj] at h; obtain ⟨rfl,rfl⟩:=h; rfl) ⟨v,u⟩
theorem vjoinS_at (v:Vn 4) (u:Vn 4):vjoinS [.agg (cV v),.agg (cV u)] []=some (⟨.agg (cV (joinK v u 4)),[],[]⟩):=vjoinS_atG v u
theorem vjoin_ok:HSound Try.prog 61 vjoinS:=by
 refine sE_ (fn:=Try.f61) rfl rfl (by kernel_rfl) fun args bx hr hS=>?_
 obtain ⟨⟨v,u⟩,rfl,rfl,rfl⟩:=mO_ hS
 clear hS
 refine ⟨_,(eN_ _),by simp [Try.f61],by simp [go_sem],fun w Mx pin=>?_⟩
 simp only [hB_at,lab_nil,lab_cons,hOf_nil,hOf_cons]
 refine aQ_ ?_
 iterate 3
  refine oC_ fun J hJ=>?_
  simp [go_sem]
  refine hJ _ _ _ ?_
 refine oN_ ?_
 refine aS_ fun K2 hK2=>?_
 refine aQ_ ?_
 iterate 1
  refine oC_ fun J hJ=>?_
  simp [go_sem]
  refine hJ _ _ _ ?_
 refine oN_ ?_
 refine aB_ ?_
 refine aL_ (ι:={ i:Nat // i<=4 }) (fun s=>joinI v u s.1) (fun s=>4 - s.1) ⟨0,by omega⟩ ?_ ?_
 · refine wO_ [((0,32),some (0,32)),((0,48),some (0,48)),((0,64),some (0,64))] (by simp [go_sem]) ?_ ?_ <;> simp [go_sem,joinK]
 intro ⟨i,hi⟩
 try simp only at hi
 obtain ⟨j,hj⟩:∃ j,j=joinK v u i:=⟨_,rfl⟩
 simp only [joinI,<-hj]
 refine aQ_ ?_
 iterate 1
  refine oC_ fun J hJ=>?_
  simp [go_sem]
  refine hJ _ _ _ ?_
 refine oN_ ?_
 refine aS_ fun K5 hK5=>?_
 refine aC_ (t:=_) rfl (fun c6=>?_) (fun c6=>?_)
 ·
  simp [go_sem] at c6
  have hi8:i + 1<=4:=by omega
  have hi7:i < 4:=by omega
  have hi7i:(i:Int) < 4:=by omega
  refine aK_ ?_
  refine hK5 _ ?_
  refine aS_ fun K7 hK7=>?_
  refine aB_ ?_
  refine aQ_ ?_
  iterate 2
   refine oC_ fun J hJ=>?_
   simp [go_sem]
   refine hJ _ _ _ ?_
  refine oN_ ?_
  refine aD_ ?_
  iterate 10
   refine oC_ fun J hJ=>?_
   simp [go_sem,hi7,hi7i,cV_over,show i + 1<=4 by omega]
   refine hJ _ _ _ ?_
  refine oN_ ?_
  refine ⟨rfl,?_⟩
  refine hK7 _ ?_
  refine aR_ ?_
  iterate 2
   refine oC_ fun J hJ=>?_
   simp [go_sem]
   refine hJ _ _ _ ?_
  refine oN_ ?_
  refine ⟨⟨i + 1,hi8⟩,?_,by simp only; omega⟩
  refine wO_ [((0,32),some (0,32)),((0,48),some (0,48)),((0,64),some (0,64))] (by simp [go_sem]) ?_ ?_ <;> simp [go_sem,joinK,<-hj,wN_ (n:=i) (by omega)]
 ·
  simp [go_sem] at c6
  obtain rfl:i=4:=by omega
  refine aX_ ?_
  simp only [go_sem]
  refine hK2 _ ?_
  refine aQ_ ?_
  iterate 2
   refine oC_ fun J hJ=>?_
   simp [go_sem]
   refine hJ _ _ _ ?_
  refine oN_ ?_
  refine aE_ ?_
  refine fQ_ [] ?_
  simp [go_sem,Try.f61,<-hj]
structure clampPX where
 n:Int
 lo:Int
 hi:Int
noncomputable def clampPS:HSpec:=mkH (ι:=clampPX) (fun ⟨n,lo,hi⟩=>([.int .i64 n,.int .i64 lo,.int .i64 hi],[])) fun ⟨n,lo,hi⟩=>⟨.int .i64 (clampI n lo hi),[],[]⟩
theorem clampPS_atG (n:Int) (lo:Int) (hi:Int):clampPS [.int .i64 n,.int .i64 lo,.int .i64 hi] []=some (⟨.int .i64 (clampI n lo hi),[],[]⟩):=
 mA_ (ι:=clampPX) (fun i j h=>by obtain ⟨n,lo,hi⟩:=i; obtain ⟨n2,lo2,hi2⟩:=j; simp [and_assoc,qB_,qI_,qO_,qC_,qE_,qK_,qR_,qV_,qP_,qOc_,rows_iff_U8,cCut_eq_iff,Int.natCast_inj] at h; obtain ⟨rfl,rfl,rfl⟩:=h; rfl) ⟨n,lo,hi⟩
theorem clampPS_at (n:Int) (lo:Int) (hi:Int):clampPS [.int .i64 n,.int .i64 lo,.int .i64 hi] []=some (⟨.int .i64 (clampI n lo hi),[],[]⟩):=clampPS_atG n lo hi
theorem clampP_ok:HSound Try.prog 60 clampPS:=by
 refine sE_ (fn:=Try.f60) rfl rfl (by kernel_rfl) fun args bx hr hS=>?_
 obtain ⟨⟨n,lo,hi⟩,rfl,rfl,rfl⟩:=mO_ hS
 clear hS
 refine ⟨_,(eN_ _),by simp [Try.f60],by simp [go_sem],fun w Mx pin=>?_⟩
 simp only [hB_at,lab_nil,lab_cons,hOf_nil,hOf_cons]
 refine aQ_ ?_
 iterate 1
  refine oC_ fun J hJ=>?_
  simp [go_sem]
  refine hJ _ _ _ ?_
 refine oN_ ?_
 refine aS_ fun K2 hK2=>?_
 refine aQ_ ?_
 iterate 3
  refine oC_ fun J hJ=>?_
  simp [go_sem]
  refine hJ _ _ _ ?_
 refine oN_ ?_
 refine aC_ (t:=_) rfl (fun c4=>?_) (fun c4=>?_)
 ·
  simp [go_sem] at c4
  have hq:clampI n lo hi=lo:=if_pos c4
  refine aQ_ ?_
  iterate 2
   refine oC_ fun J hJ=>?_
   simp [go_sem]
   refine hJ _ _ _ ?_
  refine oN_ ?_
  refine aE_ ?_
  refine fQ_ [] ?_
  simp [go_sem,Try.f60,hq]
 ·
  simp [go_sem] at c4
  refine aK_ ?_
  refine hK2 _ ?_
  refine aS_ fun K6 hK6=>?_
  refine aQ_ ?_
  iterate 3
   refine oC_ fun J hJ=>?_
   simp [go_sem]
   refine hJ _ _ _ ?_
  refine oN_ ?_
  refine aC_ (t:=_) rfl (fun c8=>?_) (fun c8=>?_)
  ·
   simp [go_sem] at c8
   have hq:clampI n lo hi=hi:=by rw [clampI,if_neg (by omega),if_pos (by omega)]
   refine aQ_ ?_
   iterate 2
    refine oC_ fun J hJ=>?_
    simp [go_sem]
    refine hJ _ _ _ ?_
   refine oN_ ?_
   refine aE_ ?_
   refine fQ_ [] ?_
   simp [go_sem,Try.f60,hq]
  ·
   simp [go_sem] at c8
   have hq:clampI n lo hi=n:=by rw [clampI,if_neg (by omega),if_neg (by omega)]
   refine aK_ ?_
   refine hK6 _ ?_
   refine aQ_ ?_
   iterate 2
    refine oC_ fun J hJ=>?_
    simp [go_sem]
    refine hJ _ _ _ ?_
   refine oN_ ?_
   refine aE_ ?_
   refine fQ_ [] ?_
   simp [go_sem,Try.f60,hq]
end Go.Proofs.Ytfbooejaabdkoaa.AE
