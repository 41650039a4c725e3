/-
 CutKnows. Conditions: none; every contract names its own.
-/
import Derived.Test.YtfbooejaabdkoaaOLw41r
set_option linter.constructorNameAsVariable false
namespace Go.Proofs.Ytfbooejaabdkoaa.AE
open Go Go.Proofs Go.RowKit
set_option linter.unusedVariables false
set_option linter.unusedSimpArgs false
set_option maxRecDepth 100000
set_option maxHeartbeats 4000000
def vkI (L:List Chg) (M:List Chg) (a b:List AV) (C:List AV) (pre _post:List Chg) (v:Vn 4):St:=⟨ofL [(0,.sl 9 (rows cChg L)),(1,.int .i64 M.length),(6,.ref (0,96) 0),(7,.ref (0,112) 0),(9,.ref (0,144) 0),(11,.ref (0,176) 0),(12,.int .i64 pre.length)],hOf [((0,96),.obj a),((0,112),.obj b),((0,144),.obj C),((0,176),.obj (cV v))]⟩
structure cutKnowsX where
 l:List Chg
 l':AV
 n:Int
 m:Int
 k:Vn 4
 b:Bk
 os:List Ord
 os':AV
 m2:Int
 k2:Vn 4
 b2:Bk
 qs:List Ord
 qs':AV
 h_l:SlA 9 cChg l l'
 h_os:SlA 7 cOrd os os'
 h_qs:SlA 7 cOrd qs qs'
 hL:os.length<=9223372036854775807/\qs.length<=9223372036854775807
noncomputable def cutKnowsS:HSpec:=mkH (ι:=cutKnowsX) (fun ⟨l,l',n,m,k,b,os,os',m2,k2,b2,qs,qs',h_l,h_os,h_qs,hL⟩=>([l',.int .i64 n,.agg (cCut m k b os'),.agg (cCut m2 k2 b2 qs')],[])) fun ⟨l,l',n,m,k,b,os,os',m2,k2,b2,qs,qs',h_l,h_os,h_qs,hL⟩=>⟨.bool true,[],[]⟩
theorem cutKnowsS_atG (l:List Chg) (l':AV) (n:Int) (m:Int) (k:Vn 4) (b:Bk) (os:List Ord) (os':AV) (m2:Int) (k2:Vn 4) (b2:Bk) (qs:List Ord) (qs':AV) (h_l:SlA 9 cChg l l') (h_os:SlA 7 cOrd os os') (h_qs:SlA 7 cOrd qs qs') (hL:os.length<=9223372036854775807/\qs.length<=9223372036854775807):cutKnowsS [l',.int .i64 n,.agg (cCut m k b os'),.agg (cCut m2 k2 b2 qs')] []=some (⟨.bool true,[],[]⟩):=
 mA_ (ι:=cutKnowsX) (fun i j h=>by obtain ⟨l,l',n,m,k,b,os,os',m2,k2,b2,qs,qs',h_l,h_os,h_qs,hL⟩:=i; obtain ⟨l2,l'2,n2,m2,k2,b2,os2,os'2,m22,k22,b22,qs2,qs'2,h_l2,h_os2,h_qs2,hL2⟩:=j; simp [and_assoc,qB_,qI_,qO_,qC_,qE_,qK_,qR_,qV_,qP_,qOc_,cCut_eq_iff] at h; obtain ⟨rfl,rfl,rfl,rfl,rfl,rfl,rfl,rfl,rfl,rfl⟩:=h; obtain rfl:=SlA.inj (fun x y h=>cChg_inj h) h_l h_l2; obtain rfl:=SlA.inj (fun x y h=>cOrd_inj h) h_os h_os2; obtain rfl:=SlA.inj (fun x y h=>cOrd_inj h) h_qs h_qs2; rfl) ⟨l,l',n,m,k,b,os,os',m2,k2,b2,qs,qs',h_l,h_os,h_qs,hL⟩
theorem cutKnowsS_at (l:List Chg) (n:Int) (m:Int) (k:Vn 4) (b:Bk) (os:List Ord) (m2:Int) (k2:Vn 4) (b2:Bk) (qs:List Ord) (hL:os.length<=9223372036854775807/\qs.length<=9223372036854775807):cutKnowsS [(.sl 9 (rows cChg l)),.int .i64 n,.agg (cCut m k b (.sl 7 (rows cOrd os))),.agg (cCut m2 k2 b2 (.sl 7 (rows cOrd qs)))] []=some (⟨.bool true,[],[]⟩):=cutKnowsS_atG l _ n m k b os _ m2 k2 b2 qs _ .sl .sl .sl hL
theorem cutKnows_ok:HSound Try.prog 8 cutKnowsS:=by
 refine sE_ (fn:=Try.f8) rfl rfl (by kernel_rfl) fun args bx hr hS=>?_
 obtain ⟨⟨l,l',n,m,k,b,os,os',m2,k2,b2,qs,qs',h_l,h_os,h_qs,hL⟩,rfl,rfl,rfl⟩:=mO_ hS
 clear hS
 refine ⟨_,(eV_ (g:=24) (by kernel_rfl) alive41_ok (eV_ (g:=31) (by kernel_rfl) few41_ok (eV_ (g:=32) (by kernel_rfl) nearP_ok (eV_ (g:=33) (by kernel_rfl) cutOf_ok (eV_ (g:=36) (by kernel_rfl) plBookN_ok (eV_ (g:=27) (by kernel_rfl) cutSame_ok (eN_ _))))))),by simp [Try.f8],by simp [go_sem],fun w Mx pin=>?_⟩
 simp only [hB_at,lab_nil,lab_cons,hOf_nil,hOf_cons]
 refine aW_ (s':=⟨ofL [(0,(.sl 9 (rows cChg l))),(1,.int .i64 n),(2,.agg (cCut m k b (.sl 7 (rows cOrd os)))),(3,.agg (cCut m2 k2 b2 (.sl 7 (rows cOrd qs))))],hOf []⟩) ?_ ?_
 · cases h_l <;> cases h_os <;> cases h_qs <;> exact wO_ [] (by simp [go_sem]) (by simp [go_sem]) (by simp [go_sem])
 clear h_l h_os h_qs
 obtain ⟨L,hL0⟩:∃ L,L=l.take 40:=⟨_,rfl⟩
 have hL40:L.length<=40:=by rw [hL0]; simp; omega
 obtain ⟨hN1,hN2⟩:=cutK_le L n
 have c1:=cutOfS_at L n (by omega)
 generalize cutK L n=N at hN1 hN2 c1
 obtain ⟨M,hM⟩:∃ M,M=L.take N:=⟨_,rfl⟩
 rw [<-hM] at c1
 have hMl:M.length=N:=by rw [hM]; simp; omega
 have hMb:M.length<=100000:=by omega
 subst hMl
 have hk:(ofS M).k=vecG M (zV 4):=join_zero M
 generalize hC:ofS M=C at c1 hk
 simp only [cCutS] at c1
 have s1:=cutSameS_at m k b os m2 k2 b2 qs hL.1
 rw [show decide (m=m2)=(m == m2) from rfl] at s1
 have s2:=cutSameS_at m k b os m k b os hL.1
 rw [sameB_41] at s2
 simp only [decide_true,Bool.and_self] at s2
 have s3:=plBookNS_at b os b2 qs hL.1
 refine aQ_ ?_
 iterate 3
  refine oC_ fun J hJ=>?_
  simp [go_sem]
  refine hJ _ _ _ ?_
 refine oN_ ?_
 refine aS_ fun K2 hK2=>?_
 refine aQ_ ?_
 iterate 2
  refine oC_ fun J hJ=>?_
  simp [go_sem,alive41S_at]
  refine hJ _ _ _ ?_
 refine oN_ ?_
 refine aF_ rfl ?_
 refine aK_ ?_
 refine hK2 _ ?_
 refine aQ_ ?_
 iterate 3
  refine oC_ fun J hJ=>?_
  simp [go_sem,few41S_at l,<-hL0]
  refine hJ _ _ _ ?_
 refine oN_ ?_
 refine aQ_ ?_
 iterate 9
  refine oC_ fun J hJ=>?_
  simp [go_sem,↓c1]
  refine hJ _ _ _ ?_
 refine oN_ ?_
 refine aQ_ ?_
 iterate 5
  refine oC_ fun J hJ=>?_
  simp [go_sem,nearPS_at n 0 (L.length:Int),hN1]
  refine hJ _ _ _ ?_
 refine oN_ ?_
 refine aQ_ ?_
 iterate 1
  refine oC_ fun J hJ=>?_
  simp [go_sem]
  refine hJ _ _ _ ?_
 refine oN_ ?_
 refine aS_ fun K10 hK10=>?_
 refine aQ_ ?_
 iterate 1
  refine oC_ fun J hJ=>?_
  simp [go_sem]
  refine hJ _ _ _ ?_
 refine oN_ ?_
 refine aB_ ?_
 refine aL_ (ι:={ q:List Chg × List Chg × Vn 4 // q.1++q.2.1=M/\vecG q.2.1 q.2.2=vecG M (zV 4) }) (fun q=>vkI L M (cCut m k b (.sl 7 (rows cOrd os))) (cCut m2 k2 b2 (.sl 7 (rows cOrd qs))) (cCut C.n C.k C.b (.sl 7 (rows cOrd C.os))) q.1.1 q.1.2.1 q.1.2.2) (fun q=>q.1.2.1.length) ⟨([],M,zV 4),rfl,rfl⟩ ?_ ?_
 · refine wO_ [((0,96),some (0,96)),((0,112),some (0,112)),((0,144),some (0,144)),((0,176),some (0,176))] (by simp [go_sem]) ?_ ?_ <;> simp [go_sem]
 intro ⟨⟨pre,post,v⟩,hl,hgo⟩
 simp only at hl hgo
 have hpl:=lS_ hl hMb
 simp only [vkI]
 refine aS_ fun K12 hK12=>?_
 refine aQ_ ?_
 iterate 3
  refine oC_ fun J hJ=>?_
  simp [go_sem]
  refine hJ _ _ _ ?_
 refine oN_ ?_
 refine aC_ (t:=_) rfl (fun c14=>?_) (fun c14=>?_)
 ·
  simp [go_sem] at c14
  obtain ⟨x,post,rfl,hx⟩:=mL_ hl c14
  have hpl2:pre.length < M.length:=by rw [<-hl]; simp
  have hpL:pre.length < L.length:=by omega
  have hxL:L[pre.length]?=some x:=by rw [hM,List.getElem?_take,if_pos (by omega)] at hx; exact hx
  refine aK_ ?_
  refine hK12 _ ?_
  refine aS_ fun K15 hK15=>?_
  refine aB_ ?_
  refine aQ_ ?_
  iterate 7
   refine oC_ fun J hJ=>?_
   simp [go_sem,↓hxL,hxL,hpL]
   refine hJ _ _ _ ?_
  refine oN_ ?_
  refine aS_ fun K17 hK17=>?_
  rcases (show (0<=x.id.rep/\x.id.rep < 4)\/(0<=x.id.rep/\¬ x.id.rep < 4)\/(¬ 0<=x.id.rep) by omega) with ⟨h0,h4⟩ | ⟨h0,h4⟩ | h0
  ·
   have h5:x.id.rep.toNat < 4:=by omega
   have h6:x.id.rep<=3:=by omega
   have hnv:nvC x v=v.put x.id.rep.toNat (mx (v.at x.id.rep.toNat) x.id.seq):=if_pos ⟨by omega,by omega⟩
   refine aR_ ?_
   iterate 6
    refine oC_ fun J hJ=>?_
    simp [go_sem,h0,h4]
    refine hJ _ _ _ ?_
   refine oN_ ?_
   refine hK17 _ ?_
   refine aT_ rfl ?_
   refine aD_ ?_
   iterate 13
    refine oC_ fun J hJ=>?_
    simp [go_sem,↓hxL,hxL,hpL,h0,h4,h5,h6,cV_over]
    refine hJ _ _ _ ?_
   refine oN_ ?_
   refine ⟨rfl,?_⟩
   refine hK15 _ ?_
   refine aR_ ?_
   iterate 3
    refine oC_ fun J hJ=>?_
    simp [go_sem]
    refine hJ _ _ _ ?_
   refine oN_ ?_
   refine ⟨⟨(pre++[x],post,nvC x v),by simp [<-hl],by rw [<-hgo]; rfl⟩,?_,by simp⟩
   refine wO_ [((0,96),some (0,96)),((0,112),some (0,112)),((0,144),some (0,144)),((0,176),some (0,176))] (by simp [go_sem]) ?_ ?_ <;> simp [go_sem,wN_ hpl,↓hnv]
  ·
   have hnv:nvC x v=v:=if_neg (by omega)
   refine aR_ ?_
   iterate 6
    refine oC_ fun J hJ=>?_
    simp [go_sem,h0,h4]
    refine hJ _ _ _ ?_
   refine oN_ ?_
   refine hK17 _ ?_
   refine aF_ rfl ?_
   refine aK_ ?_
   refine hK15 _ ?_
   refine aR_ ?_
   iterate 3
    refine oC_ fun J hJ=>?_
    simp [go_sem]
    refine hJ _ _ _ ?_
   refine oN_ ?_
   refine ⟨⟨(pre++[x],post,nvC x v),by simp [<-hl],by rw [<-hgo]; rfl⟩,?_,by simp⟩
   refine wO_ [((0,96),some (0,96)),((0,112),some (0,112)),((0,144),some (0,144)),((0,176),some (0,176))] (by simp [go_sem]) ?_ ?_ <;> simp [go_sem,wN_ hpl,↓hnv]
  ·
   have hnv:nvC x v=v:=if_neg (by omega)
   refine aR_ ?_
   iterate 6
    refine oC_ fun J hJ=>?_
    simp [go_sem,h0]
    refine hJ _ _ _ ?_
   refine oN_ ?_
   refine hK17 _ ?_
   refine aF_ rfl ?_
   refine aK_ ?_
   refine hK15 _ ?_
   refine aR_ ?_
   iterate 3
    refine oC_ fun J hJ=>?_
    simp [go_sem]
    refine hJ _ _ _ ?_
   refine oN_ ?_
   refine ⟨⟨(pre++[x],post,nvC x v),by simp [<-hl],by rw [<-hgo]; rfl⟩,?_,by simp⟩
   refine wO_ [((0,96),some (0,96)),((0,112),some (0,112)),((0,144),some (0,144)),((0,176),some (0,176))] (by simp [go_sem]) ?_ ?_ <;> simp [go_sem,wN_ hpl,↓hnv]
 ·
  simp [go_sem] at c14
  obtain ⟨rfl,rfl⟩:=mN_ hl c14
  simp only [vecG] at hgo
  subst hgo
  refine aX_ ?_
  simp only [go_sem]
  refine hK10 _ ?_
  refine aS_ fun K19 hK19=>?_
  cases h1:(m == m2) <;> cases h2:decide (k=k2) <;> cases h3:sameB b os b2 qs
  all_goals
   refine aR_ ?_
   iterate 20
    refine oC_ fun J hJ=>?_
    simp [go_sem,h1,h2,s3,h3]
    refine hJ _ _ _ ?_
   refine oN_ ?_
   refine hK19 _ ?_
   refine aQ_ ?_
   iterate 17
    refine oC_ fun J hJ=>?_
    simp [go_sem,hk,↓s1,↓s2,h1,h2,h3]
    refine hJ _ _ _ ?_
   refine oN_ ?_
   refine aE_ ?_
   refine fQ_ [] ?_
   simp [go_sem,Try.f8]
theorem rep_os {w:World} {M:Nat->Prop} {μ:Lay} {G:Heap} {x:CutS} {v:Value} (h:Rep w M μ G (.agg (cCutS x)) v):x.os.length<=9223372036854775807:=by
 cases h with
 | agg _ _ vs f hs hv hr=>
  have:=hr 29 (.sl 7 (rows cOrd x.os)) (cCut_os ..)
  generalize f 29=y at this
  cases this with
  | sl _ _ _ a c g hc hm=>
   simp only [maxLen,rows_len] at hm hc
   omega
theorem CutKnows_walk (w:World) (a0:Option Addr) (c0:Nat) (L0:List (List Int)) (h0:L0.length<=c0) (m0:c0<=maxLen) (s0:SlK w.heap.size 9 w a0 L0) (i1:Int) (_:I64 i1) (v2:Value) (x2:CutS) (r2:Rep w (fun _=>False) noLay noH (.agg (cCutS x2)) v2) (v3:Value) (x3:CutS) (r3:Rep w (fun _=>False) noLay noH (.agg (cCutS x3)) v3) :
  Calls Try.prog 8 #[.slice a0 L0.length c0,.int .i64 i1,v2,v3] w fun e w'=>e=.returned (.bool true)/\Below w.heap.size w w':=by
 obtain ⟨os0,e0,r0⟩:=slk_rows ex_Chg s0 h0 m0
 refine true_walk cutKnows_ok (cutKnowsS_at os0 i1 x2.n x2.k x2.b x2.os x3.n x3.k x3.b x3.os (⟨rep_os r2,rep_os r3⟩)) w rfl fun i v hi=>?_
 match i,hi with
 | 0,hi=>cases hi; exact r0
 | 1,hi=>cases hi; exact (.int _ _ _)
 | 2,hi=>cases hi; exact r2
 | 3,hi=>cases hi; exact r3
end Go.Proofs.Ytfbooejaabdkoaa.AE
