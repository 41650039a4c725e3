/-
 The reference of chapter 16: changes of an order. Conditions: none; every contract names its own.
-/
import Derived.Test.YtjoaigccapegpaaGreatPh
import Derived.Test.YtjoaigccapegpaaGreatPg
import Derived.Test.YtjoaigccapegpaaGreatPe
set_option linter.constructorNameAsVariable false
namespace Go.Proofs.YtjoaigccapegpaaGreat.AE
open Go Go.Proofs Go.RowKit
set_option linter.unusedVariables false
set_option linter.unusedSimpArgs false
set_option maxRecDepth 100000
set_option maxHeartbeats 4000000
def ordR (b:Bk) (os:List Ord) (c:Chg) (x:Ord):Bk × List Ord × List Eff:=
 if c.kind=4 then ({ b with st:=b.st.put x.item.toNat (b.st.at x.item.toNat + x.qty - c.n) },putL os (chgS (chgQ x c.n) 1),[⟨2,x.item,c.n,x.id⟩])
 else if c.kind=5 then (if x.state=2 then
   ({ b with st:=b.st.put x.item.toNat (b.st.at x.item.toNat + x.qty),pu:=b.pu.put x.buyer.toNat (b.pu.at x.buyer.toNat + x.cost) },putL os (chgS x 4),[⟨3,x.item,x.qty,x.id⟩,⟨10,x.buyer,x.cost,x.id⟩,⟨7,x.buyer,2,x.id⟩])
  else ({ b with st:=b.st.put x.item.toNat (b.st.at x.item.toNat + x.qty) },putL os (chgS x 4),[⟨3,x.item,x.qty,x.id⟩,⟨7,x.buyer,2,x.id⟩]))
 else if c.kind=6 then ({ b with pu:=b.pu.put x.buyer.toNat (b.pu.at x.buyer.toNat - x.qty * b.pr.at x.item.toNat) },putL os (chgS (chgK x (x.qty * b.pr.at x.item.toNat)) 2),[⟨4,x.buyer,x.qty * b.pr.at x.item.toNat,x.id⟩,⟨9,x.buyer,x.qty * b.pr.at x.item.toNat,x.id⟩])
 else if c.kind=7 then (b,putL os (chgS x 3),[⟨5,x.item,x.qty,x.id⟩,⟨6,x.item,x.qty,x.id⟩,⟨11,x.item,x.qty,x.id⟩,⟨7,x.buyer,3,x.id⟩])
 else ({ b with pu:=b.pu.put x.buyer.toNat (b.pu.at x.buyer.toNat + x.cost) },putL os (chgS x 5),[⟨10,x.buyer,x.cost,x.id⟩])
def ordAt (os:List Ord) (c:Chg):Ord:=(findL os c.ref).getD zOrd
theorem about0_4 {b:Bk} {c:Chg} {x:Ord} (h:aboutR b c x=0) (k:c.kind=4):x.state=1/\¬ b.st.at x.item.toNat < c.n - x.qty/\¬ 1099511627776 < b.st.at x.item.toNat + x.qty - c.n:=by
 by_cases s:x.state=1 <;> by_cases p:b.st.at x.item.toNat < c.n - x.qty <;> by_cases q:1099511627776 < b.st.at x.item.toNat + x.qty - c.n <;> simp [aboutR,k,s,p,q] at h ⊢
theorem about0_5 {b:Bk} {c:Chg} {x:Ord} (h:aboutR b c x=0) (k:c.kind=5):(x.state=1\/x.state=2)/\¬ 1099511627776 < b.st.at x.item.toNat + x.qty/\¬ (x.state=2/\1099511627776 < b.pu.at x.buyer.toNat + x.cost):=by
 by_cases s:x.state=1\/x.state=2
 ·
  by_cases p:1099511627776 < b.st.at x.item.toNat + x.qty\/(x.state=2/\1099511627776 < b.pu.at x.buyer.toNat + x.cost)
  ·
   have e:aboutR b c x=7:=(if_neg (by omega)).trans ((if_pos k).trans ((if_pos s).trans (if_pos p)))
   rw [e] at h; cases h
  · exact ⟨s,fun h=>p (.inl h),fun h=>p (.inr h)⟩
 ·
  have e:aboutR b c x=9:=(if_neg (by omega)).trans ((if_pos k).trans (if_neg s))
  rw [e] at h; cases h
theorem about0_6 {b:Bk} {c:Chg} {x:Ord} (h:aboutR b c x=0) (k:c.kind=6):x.state=1/\¬ 1099511627776 < x.qty * b.pr.at x.item.toNat/\¬ b.pu.at x.buyer.toNat < x.qty * b.pr.at x.item.toNat:=by
 by_cases s:x.state=1 <;> by_cases p:1099511627776 < x.qty * b.pr.at x.item.toNat <;> by_cases q:b.pu.at x.buyer.toNat < x.qty * b.pr.at x.item.toNat <;> simp [aboutR,k,s,p,q] at h ⊢
theorem about0_7 {b:Bk} {c:Chg} {x:Ord} (h:aboutR b c x=0) (k:c.kind=7):x.state=2:=by
 by_cases s:x.state=2 <;> simp [aboutR,k,s] at h ⊢
theorem about0_8 {b:Bk} {c:Chg} {x:Ord} (h:aboutR b c x=0) (k:c.kind=8):x.state=3/\¬ 1099511627776 < b.pu.at x.buyer.toNat + x.cost:=by
 by_cases s:x.state=3 <;> by_cases p:1099511627776 < b.pu.at x.buyer.toNat + x.cost <;> simp [aboutR,k,s,p] at h ⊢
theorem chgQ' (x:Ord) (q:Int):cOrd { id:=x.id,buyer:=x.buyer,item:=x.item,qty:=q,cost:=x.cost,state:=x.state }=cOrd (chgQ x q):=rfl
theorem chgK' (x:Ord) (q:Int):cOrd { id:=x.id,buyer:=x.buyer,item:=x.item,qty:=x.qty,cost:=q,state:=x.state }=cOrd (chgK x q):=rfl
@[go_sem] theorem chgQ_buyer (o:Ord) (k:Int):(chgQ o k).buyer=o.buyer:=rfl
@[go_sem] theorem chgK_cost (o:Ord) (k:Int):(chgK o k).cost=k:=rfl
@[go_sem] theorem chgK_item (o:Ord) (k:Int):(chgK o k).item=o.item:=rfl
structure ord16X where
 b:Bk
 os:List Ord
 os':AV
 c:Chg
 h_os:SlA 7 cOrd os os'
 hL:FairB b/\FairO os/\os.length<=40000/\(4<=c.kind/\c.kind<=8)/\(∃ x,findL os c.ref=some x/\aboutR b c x=0)/\(c.kind=4->1<=c.n/\c.n<=1000)
noncomputable def ord16S:HSpec:=mkH (ι:=ord16X) (fun ⟨b,os,os',c,h_os,hL⟩=>([.agg (cBk b os'),.agg (cChg c)],[])) fun ⟨b,os,os',c,h_os,hL⟩=>resR (ordR b os c (ordAt os c)).1 (ordR b os c (ordAt os c)).2.1 (ordR b os c (ordAt os c)).2.2
theorem ord16S_atG (b:Bk) (os:List Ord) (os':AV) (c:Chg) (h_os:SlA 7 cOrd os os') (hL:FairB b/\FairO os/\os.length<=40000/\(4<=c.kind/\c.kind<=8)/\(∃ x,findL os c.ref=some x/\aboutR b c x=0)/\(c.kind=4->1<=c.n/\c.n<=1000)):ord16S [.agg (cBk b os'),.agg (cChg c)] []=some (resR (ordR b os c (ordAt os c)).1 (ordR b os c (ordAt os c)).2.1 (ordR b os c (ordAt os c)).2.2):=
 mA_ (ι:=ord16X) (fun i j h=>by obtain ⟨b,os,os',c,h_os,hL⟩:=i; obtain ⟨b2,os2,os'2,c2,h_os2,hL2⟩:=j; simp [and_assoc,qB_,qI_,qO_,qC_,qE_,qK_,qR_,qV_,qP_,qOc_] at h; obtain ⟨rfl,rfl,rfl⟩:=h; obtain rfl:=SlA.inj (fun x y h=>cOrd_inj h) h_os h_os2; rfl) ⟨b,os,os',c,h_os,hL⟩
theorem ord16S_at (b:Bk) (os:List Ord) (c:Chg) (hL:FairB b/\FairO os/\os.length<=40000/\(4<=c.kind/\c.kind<=8)/\(∃ x,findL os c.ref=some x/\aboutR b c x=0)/\(c.kind=4->1<=c.n/\c.n<=1000)):ord16S [.agg (cBk b (.sl 7 (rows cOrd os))),.agg (cChg c)] []=some (resR (ordR b os c (ordAt os c)).1 (ordR b os c (ordAt os c)).2.1 (ordR b os c (ordAt os c)).2.2):=ord16S_atG b os _ c .sl hL
theorem ord16_ok:HSound Tryz.prog 61 ord16S:=by
 refine sE_ (fn:=Tryz.f61) rfl rfl (by kernel_rfl) fun args bx hr hS=>?_
 obtain ⟨⟨b,os,os',c,h_os,hL⟩,rfl,rfl,rfl⟩:=mO_ hS
 clear hS
 refine ⟨_,(eV_ (g:=81) (by kernel_rfl) findRf_ok (eV_ (g:=84) (by kernel_rfl) eff16_ok (eH_ (g:=83) (by kernel_rfl) put16_ok (eN_ _)))),by simp [Tryz.f61],by simp [resR,go_sem],fun w Mx pin=>?_⟩
 simp only [hB_at,lab_nil,lab_cons,hOf_nil,hOf_cons]
 refine aW_ (s':=⟨ofL [(0,.agg (cBk b (.sl 7 (rows cOrd os)))),(1,.agg (cChg c))],hOf []⟩) ?_ ?_
 · cases h_os <;> exact wO_ [] (by simp [go_sem]) (by simp [go_sem]) (by simp [go_sem])
 clear h_os
 obtain ⟨hF,hO,hlen,hk,⟨x,hfx,hab⟩,hn⟩:=hL
 have he:ordAt os c=x:=by unfold ordAt; rw [hfx]; rfl
 obtain ⟨h1,hf⟩ | ⟨kk,y,hk0,hkk,hx,_,hf⟩:=place_cases os c.ref
 · rw [hf] at hfx; cases hfx
 obtain rfl:y=x:=by rw [hf] at hfx; cases hfx; rfl
 clear hfx
 obtain ⟨⟨a0,a1⟩,⟨a2,a3⟩,⟨a4,a5⟩,⟨a6,a7⟩,_⟩:=hO y (List.mem_of_getElem? hx)
 obtain ⟨x,rfl⟩:∃ x,x=y:=⟨_,rfl⟩
 have i0:0<=x.item:=a2
 have i5:x.item.toNat < 8:=by omega
 have i8:x.item < 8:=by omega
 have i24:x.item<=24:=by omega
 have j24:8 + x.item.toNat<=24:=by omega
 have k24:16 + x.item.toNat<=24:=by omega
 have u0:0<=x.buyer:=a0
 have u5:x.buyer.toNat < 8:=by omega
 have u8:x.buyer < 8:=by omega
 have u24:x.buyer<=24:=by omega
 have v24:16 + x.buyer.toNat<=24:=by omega
 obtain ⟨f1,f2,f3,f4,_,_⟩:=hF x.item.toNat i5
 obtain ⟨_,_,_,_,f5,f6⟩:=hF x.buyer.toNat u5
 obtain ⟨m1,m2⟩:=mul_rng a4 a5 f3 f4
 refine aQ_ ?_
 iterate 4
  refine oC_ fun J hJ=>?_
  simp [go_sem]
  refine hJ _ _ _ ?_
  clear hJ J
 refine oN_ ?_
 refine aU_ ?_
 iterate 10
  refine oC_ fun J hJ=>?_
  simp [go_sem,findRfS_at b os c.ref (show os.length<=100000 by omega),hkk,hx]
  refine hJ _ _ _ ?_
  clear hJ J
 refine oN_ ?_
 refine ⟨rfl,?_⟩
 refine aQ_ ?_
 iterate 4
  refine oC_ fun J hJ=>?_
  simp [go_sem]
  refine hJ _ _ _ ?_
  clear hJ J
 refine oN_ ?_
 refine aS_ fun K4 hK4=>?_
 refine aS_ fun K5 hK5=>?_
 rcases (show c.kind=4\/c.kind=5\/c.kind=6\/c.kind=7\/c.kind=8 by omega) with k | k | k | k | k
 ·
  obtain ⟨s1,z1,z2⟩:=about0_4 hab k
  obtain ⟨n1,n2⟩:=hn k
  have hr:ordR b os c x=_:=if_pos k
  refine aR_ ?_
  iterate 3
   refine oC_ fun J hJ=>?_
   simp [go_sem,k]
   refine hJ _ _ _ ?_
   clear hJ J
  refine oN_ ?_
  refine hK5 _ ?_
  clear hK5
  refine aT_ rfl ?_
  refine aU_ ?_
  iterate 16
   refine oC_ fun J hJ=>?_
   simp [go_sem,i0,i5,i8,i24,j24,k24,u0,u5,u8,u24,v24,wA_ (n:=b.st.at x.item.toNat + x.qty) (by omega),wA_ (n:=b.st.at x.item.toNat + x.qty - c.n) (by omega)]
   refine hJ _ _ _ ?_
   clear hJ J
  refine oN_ ?_
  refine ⟨rfl,?_⟩
  refine aQ_ ?_
  iterate 4
   refine oC_ fun J hJ=>?_
   simp [go_sem,chgQ']
   refine hJ _ _ _ ?_
   clear hJ J
  refine oN_ ?_
  refine aU_ ?_
  iterate 12
   refine oC_ fun J hJ=>?_
   simp [go_sem,put16S_at _ os (chgQ x c.n) 1 (show os.length<=50000 by omega),↓eff16S_at 2 x.item c.n x.id]
   refine hJ _ _ _ ?_
   clear hJ J
  refine oN_ ?_
  refine ⟨rfl,?_⟩
  refine aE_ ?_
  rw [he,hr]
  refine fQ_ [] ?_
  simp [go_sem,Tryz.f61,resR]
 ·
  obtain ⟨s1,z1,z2⟩:=about0_5 hab k
  refine aR_ ?_
  iterate 3
   refine oC_ fun J hJ=>?_
   simp [go_sem,k]
   refine hJ _ _ _ ?_
   clear hJ J
  refine oN_ ?_
  refine hK5 _ ?_
  clear hK5
  refine aF_ rfl ?_
  refine aK_ ?_
  refine hK4 _ ?_
  clear hK4
  refine aS_ fun K10 hK10=>?_
  refine aQ_ ?_
  iterate 3
   refine oC_ fun J hJ=>?_
   simp [go_sem,k]
   refine hJ _ _ _ ?_
   clear hJ J
  refine oN_ ?_
  refine aT_ rfl ?_
  refine aQ_ ?_
  iterate 8
   refine oC_ fun J hJ=>?_
   simp [go_sem,↓eff16S_at 3 x.item x.qty x.id]
   refine hJ _ _ _ ?_
   clear hJ J
  refine oN_ ?_
  refine aU_ ?_
  iterate 13
   refine oC_ fun J hJ=>?_
   simp [go_sem,i0,i5,i8,i24,j24,k24,u0,u5,u8,u24,v24,wA_ (n:=b.st.at x.item.toNat + x.qty) (by omega)]
   refine hJ _ _ _ ?_
   clear hJ J
  refine oN_ ?_
  refine ⟨rfl,?_⟩
  refine aS_ fun K15 hK15=>?_
  refine aS_ fun K16 hK16=>?_
  by_cases s2:x.state=2
  ·
   have z3:¬ 1099511627776 < b.pu.at x.buyer.toNat + x.cost:=fun h=>z2 ⟨s2,h⟩
   have hr:ordR b os c x=_:=(if_neg (show ¬ c.kind=4 by omega)).trans ((if_pos k).trans (if_pos s2))
   refine aR_ ?_
   iterate 3
    refine oC_ fun J hJ=>?_
    simp [go_sem,s2]
    refine hJ _ _ _ ?_
    clear hJ J
   refine oN_ ?_
   refine hK16 _ ?_
   clear hK16
   refine aT_ rfl ?_
   refine aU_ ?_
   iterate 13
    refine oC_ fun J hJ=>?_
    simp [go_sem,i0,i5,i8,i24,j24,k24,u0,u5,u8,u24,v24,wA_ (n:=b.pu.at x.buyer.toNat + x.cost) (by omega)]
    refine hJ _ _ _ ?_
    clear hJ J
   refine oN_ ?_
   refine ⟨rfl,?_⟩
   refine aR_ ?_
   iterate 10
    refine oC_ fun J hJ=>?_
    simp [go_sem,↓eff16S_at 10 x.buyer x.cost x.id]
    refine hJ _ _ _ ?_
    clear hJ J
   refine oN_ ?_
   refine hK15 _ ?_
   clear hK15
   refine aU_ ?_
   iterate 12
    refine oC_ fun J hJ=>?_
    simp [go_sem,put16S_at _ os x 4 (show os.length<=50000 by omega),↓eff16S_at 7 x.buyer 2 x.id]
    refine hJ _ _ _ ?_
    clear hJ J
   refine oN_ ?_
   refine ⟨rfl,?_⟩
   refine aE_ ?_
   rw [he,hr]
   refine fQ_ [] ?_
   simp [go_sem,Tryz.f61,resR]
  ·
   have y2:(x.state == 2)=false:=by simpa using s2
   have hr:ordR b os c x=_:=(if_neg (show ¬ c.kind=4 by omega)).trans ((if_pos k).trans (if_neg s2))
   refine aR_ ?_
   iterate 3
    refine oC_ fun J hJ=>?_
    simp [go_sem,y2]
    refine hJ _ _ _ ?_
    clear hJ J
   refine oN_ ?_
   refine hK16 _ ?_
   clear hK16
   refine aF_ rfl ?_
   refine aK_ ?_
   refine hK15 _ ?_
   clear hK15
   refine aU_ ?_
   iterate 12
    refine oC_ fun J hJ=>?_
    simp [go_sem,put16S_at _ os x 4 (show os.length<=50000 by omega),↓eff16S_at 7 x.buyer 2 x.id]
    refine hJ _ _ _ ?_
    clear hJ J
   refine oN_ ?_
   refine ⟨rfl,?_⟩
   refine aE_ ?_
   rw [he,hr]
   refine fQ_ [] ?_
   simp [go_sem,Tryz.f61,resR]
 ·
  obtain ⟨s1,z1,z2⟩:=about0_6 hab k
  have hr:ordR b os c x=_:=(if_neg (show ¬ c.kind=4 by omega)).trans ((if_neg (show ¬ c.kind=5 by omega)).trans (if_pos k))
  refine aR_ ?_
  iterate 3
   refine oC_ fun J hJ=>?_
   simp [go_sem,k]
   refine hJ _ _ _ ?_
   clear hJ J
  refine oN_ ?_
  refine hK5 _ ?_
  clear hK5
  refine aF_ rfl ?_
  refine aK_ ?_
  refine hK4 _ ?_
  clear hK4
  refine aS_ fun K10 hK10=>?_
  refine aQ_ ?_
  iterate 3
   refine oC_ fun J hJ=>?_
   simp [go_sem,k]
   refine hJ _ _ _ ?_
   clear hJ J
  refine oN_ ?_
  refine aF_ rfl ?_
  refine aK_ ?_
  refine hK10 _ ?_
  clear hK10
  refine aS_ fun K20 hK20=>?_
  refine aQ_ ?_
  iterate 3
   refine oC_ fun J hJ=>?_
   simp [go_sem,k]
   refine hJ _ _ _ ?_
   clear hJ J
  refine oN_ ?_
  refine aT_ rfl ?_
  refine aU_ ?_
  iterate 10
   refine oC_ fun J hJ=>?_
   simp [go_sem,i0,i5,i8,i24,j24,k24,u0,u5,u8,u24,v24,wA_ (n:=x.qty * b.pr.at x.item.toNat) (by omega),chgK']
   refine hJ _ _ _ ?_
   clear hJ J
  refine oN_ ?_
  refine ⟨rfl,?_⟩
  refine aU_ ?_
  iterate 13
   refine oC_ fun J hJ=>?_
   simp [go_sem,i0,i5,i8,i24,j24,k24,u0,u5,u8,u24,v24,wA_ (n:=b.pu.at x.buyer.toNat - x.qty * b.pr.at x.item.toNat) (by omega)]
   refine hJ _ _ _ ?_
   clear hJ J
  refine oN_ ?_
  refine ⟨rfl,?_⟩
  refine aU_ ?_
  iterate 18
   refine oC_ fun J hJ=>?_
   simp [go_sem,put16S_at _ os (chgK x (x.qty * b.pr.at x.item.toNat)) 2 (show os.length<=50000 by omega),↓eff16S_at 4 x.buyer (x.qty * b.pr.at x.item.toNat) x.id,↓eff16S_at 9 x.buyer (x.qty * b.pr.at x.item.toNat) x.id]
   refine hJ _ _ _ ?_
   clear hJ J
  refine oN_ ?_
  refine ⟨rfl,?_⟩
  refine aE_ ?_
  rw [he,hr]
  refine fQ_ [] ?_
  simp [go_sem,Tryz.f61,resR]
 ·
  have s1:=about0_7 hab k
  have hr:ordR b os c x=_:=(if_neg (show ¬ c.kind=4 by omega)).trans ((if_neg (show ¬ c.kind=5 by omega)).trans ((if_neg (show ¬ c.kind=6 by omega)).trans (if_pos k)))
  refine aR_ ?_
  iterate 3
   refine oC_ fun J hJ=>?_
   simp [go_sem,k]
   refine hJ _ _ _ ?_
   clear hJ J
  refine oN_ ?_
  refine hK5 _ ?_
  clear hK5
  refine aF_ rfl ?_
  refine aK_ ?_
  refine hK4 _ ?_
  clear hK4
  refine aS_ fun K10 hK10=>?_
  refine aQ_ ?_
  iterate 3
   refine oC_ fun J hJ=>?_
   simp [go_sem,k]
   refine hJ _ _ _ ?_
   clear hJ J
  refine oN_ ?_
  refine aF_ rfl ?_
  refine aK_ ?_
  refine hK10 _ ?_
  clear hK10
  refine aS_ fun K20 hK20=>?_
  refine aQ_ ?_
  iterate 3
   refine oC_ fun J hJ=>?_
   simp [go_sem,k]
   refine hJ _ _ _ ?_
   clear hJ J
  refine oN_ ?_
  refine aF_ rfl ?_
  refine aK_ ?_
  refine hK20 _ ?_
  clear hK20
  refine aS_ fun K26 hK26=>?_
  refine aQ_ ?_
  iterate 3
   refine oC_ fun J hJ=>?_
   simp [go_sem,k]
   refine hJ _ _ _ ?_
   clear hJ J
  refine oN_ ?_
  refine aT_ rfl ?_
  refine aU_ ?_
  iterate 28
   refine oC_ fun J hJ=>?_
   simp [go_sem,put16S_at _ os x 3 (show os.length<=50000 by omega),↓eff16S_at 5 x.item x.qty x.id,↓eff16S_at 6 x.item x.qty x.id,↓eff16S_at 11 x.item x.qty x.id,↓eff16S_at 7 x.buyer 3 x.id]
   refine hJ _ _ _ ?_
   clear hJ J
  refine oN_ ?_
  refine ⟨rfl,?_⟩
  refine aE_ ?_
  rw [he,hr]
  refine fQ_ [] ?_
  simp [go_sem,Tryz.f61,resR]
 ·
  obtain ⟨s1,z1⟩:=about0_8 hab k
  have hr:ordR b os c x=_:=(if_neg (show ¬ c.kind=4 by omega)).trans ((if_neg (show ¬ c.kind=5 by omega)).trans ((if_neg (show ¬ c.kind=6 by omega)).trans (if_neg (show ¬ c.kind=7 by omega))))
  refine aR_ ?_
  iterate 3
   refine oC_ fun J hJ=>?_
   simp [go_sem,k]
   refine hJ _ _ _ ?_
   clear hJ J
  refine oN_ ?_
  refine hK5 _ ?_
  clear hK5
  refine aF_ rfl ?_
  refine aK_ ?_
  refine hK4 _ ?_
  clear hK4
  refine aS_ fun K10 hK10=>?_
  refine aQ_ ?_
  iterate 3
   refine oC_ fun J hJ=>?_
   simp [go_sem,k]
   refine hJ _ _ _ ?_
   clear hJ J
  refine oN_ ?_
  refine aF_ rfl ?_
  refine aK_ ?_
  refine hK10 _ ?_
  clear hK10
  refine aS_ fun K20 hK20=>?_
  refine aQ_ ?_
  iterate 3
   refine oC_ fun J hJ=>?_
   simp [go_sem,k]
   refine hJ _ _ _ ?_
   clear hJ J
  refine oN_ ?_
  refine aF_ rfl ?_
  refine aK_ ?_
  refine hK20 _ ?_
  clear hK20
  refine aS_ fun K26 hK26=>?_
  refine aQ_ ?_
  iterate 3
   refine oC_ fun J hJ=>?_
   simp [go_sem,k]
   refine hJ _ _ _ ?_
   clear hJ J
  refine oN_ ?_
  refine aF_ rfl ?_
  refine aK_ ?_
  refine hK26 _ ?_
  clear hK26
  refine aU_ ?_
  iterate 13
   refine oC_ fun J hJ=>?_
   simp [go_sem,i0,i5,i8,i24,j24,k24,u0,u5,u8,u24,v24,wA_ (n:=b.pu.at x.buyer.toNat + x.cost) (by omega)]
   refine hJ _ _ _ ?_
   clear hJ J
  refine oN_ ?_
  refine ⟨rfl,?_⟩
  refine aU_ ?_
  iterate 12
   refine oC_ fun J hJ=>?_
   simp [go_sem,put16S_at _ os x 5 (show os.length<=50000 by omega),↓eff16S_at 10 x.buyer x.cost x.id]
   refine hJ _ _ _ ?_
   clear hJ J
  refine oN_ ?_
  refine ⟨rfl,?_⟩
  refine aE_ ?_
  rw [he,hr]
  refine fQ_ [] ?_
  simp [go_sem,Tryz.f61,resR]
def dr:Except Int (Bk × List Ord × List Eff × Id)->Except Int (Bk × List Ord × List Eff)
 | .ok (d,ps,l,_)=>.ok (d,ps,l)
 | .error e=>.error e
def outR (code:Int) (t:Bk × List Ord × List Eff):Except Int (Bk × List Ord × List Eff):=if code=0 then .ok t else .error code
def doR (b:Bk) (os:List Ord) (c:Chg):Except Int (Bk × List Ord × List Eff):=
 outR (codeR b os c) (if 4<=c.kind/\c.kind<=8 then ordR b os c (ordAt os c) else simR b os c)
theorem fine_T {i n:Int} (h:(0<=i/\i<=7)/\0<=n/\n<=1099511627776):fineB i n=true:=by
 simp only [fineB,itemB,Bool.and_eq_true,decide_eq_true_eq]
 omega
theorem fine_F {i n:Int} (h:¬ ((0<=i/\i<=7)/\0<=n/\n<=1099511627776)):¬ fineB i n=true:=by
 simp only [fineB,itemB,Bool.and_eq_true,decide_eq_true_eq]
 omega
theorem addB_eq (b:Bk) (i n:Int):addB' b i n=if (0<=i/\i<=7)/\0<=n/\n<=1099511627776 then (if b.st.at i.toNat + n<=1099511627776 then .ok { b with st:=b.st.put i.toNat (b.st.at i.toNat + n) } else .error 7) else .error 4:=by
 unfold addB'
 by_cases h:(0<=i/\i<=7)/\0<=n/\n<=1099511627776
 · rw [if_pos (fine_T h),if_pos h]
 · rw [if_neg (fine_F h),if_neg h]
theorem giveB_eq (b:Bk) (i n:Int):giveB b i n=if (0<=i/\i<=7)/\0<=n/\n<=1099511627776 then (if b.pu.at i.toNat + n<=1099511627776 then .ok { b with pu:=b.pu.put i.toNat (b.pu.at i.toNat + n) } else .error 7) else .error 4:=by
 unfold giveB
 by_cases h:(0<=i/\i<=7)/\0<=n/\n<=1099511627776
 · rw [if_pos (fine_T h),if_pos h]
 · rw [if_neg (fine_F h),if_neg h]
theorem takeB_eq (b:Bk) (i n:Int):takeB b i n=if (0<=i/\i<=7)/\0<=n/\n<=1099511627776 then (if b.st.at i.toNat < n then .error 11 else .ok { b with st:=b.st.put i.toNat (b.st.at i.toNat - n) }) else .error 4:=by
 unfold takeB
 by_cases h:(0<=i/\i<=7)/\0<=n/\n<=1099511627776
 · rw [if_pos (fine_T h),if_pos h]
 · rw [if_neg (fine_F h),if_neg h]
theorem payB_eq (b:Bk) (i n:Int):payB b i n=if (0<=i/\i<=7)/\0<=n/\n<=1099511627776 then (if b.pu.at i.toNat < n then .error 11 else .ok { b with pu:=b.pu.put i.toNat (b.pu.at i.toNat - n) }) else .error 4:=by
 unfold payB
 by_cases h:(0<=i/\i<=7)/\0<=n/\n<=1099511627776
 · rw [if_pos (fine_T h),if_pos h]
 · rw [if_neg (fine_F h),if_neg h]
theorem costB_eq (b:Bk) (i n:Int):costB b i n=if (0<=i/\i<=7)/\0<=n/\n<=1099511627776 then (if n * b.pr.at i.toNat<=1099511627776 then .ok (n * b.pr.at i.toNat) else .error 7) else .error 4:=by
 unfold costB
 by_cases h:(0<=i/\i<=7)/\0<=n/\n<=1099511627776
 · rw [if_pos (fine_T h),if_pos h]
 · rw [if_neg (fine_F h),if_neg h]
theorem addB_in {b:Bk} {i n:Int} (h:(0<=i/\i<=7)/\0<=n/\n<=1099511627776):addB' b i n=(if b.st.at i.toNat + n<=1099511627776 then .ok { b with st:=b.st.put i.toNat (b.st.at i.toNat + n) } else .error 7):=by rw [addB_eq,if_pos h]
theorem giveB_in {b:Bk} {i n:Int} (h:(0<=i/\i<=7)/\0<=n/\n<=1099511627776):giveB b i n=(if b.pu.at i.toNat + n<=1099511627776 then .ok { b with pu:=b.pu.put i.toNat (b.pu.at i.toNat + n) } else .error 7):=by rw [giveB_eq,if_pos h]
theorem takeB_in {b:Bk} {i n:Int} (h:(0<=i/\i<=7)/\0<=n/\n<=1099511627776):takeB b i n=(if b.st.at i.toNat < n then .error 11 else .ok { b with st:=b.st.put i.toNat (b.st.at i.toNat - n) }):=by rw [takeB_eq,if_pos h]
theorem payB_in {b:Bk} {i n:Int} (h:(0<=i/\i<=7)/\0<=n/\n<=1099511627776):payB b i n=(if b.pu.at i.toNat < n then .error 11 else .ok { b with pu:=b.pu.put i.toNat (b.pu.at i.toNat - n) }):=by rw [payB_eq,if_pos h]
theorem costB_in {b:Bk} {i n:Int} (h:(0<=i/\i<=7)/\0<=n/\n<=1099511627776):costB b i n=(if n * b.pr.at i.toNat<=1099511627776 then .ok (n * b.pr.at i.toNat) else .error 7):=by rw [costB_eq,if_pos h]
theorem hasB_eq (b:Bk) (i n:Int):hasB b i n=true ↔ ((0<=i/\i<=7)/\0<=n/\n<=1099511627776)/\n<=b.st.at i.toNat:=by
 unfold hasB
 rw [takeB_eq]
 by_cases h:(0<=i/\i<=7)/\0<=n/\n<=1099511627776
 ·
  rw [if_pos h]
  by_cases h2:b.st.at i.toNat < n
  · rw [if_pos h2]; simp; omega
  · rw [if_neg h2]; simp; omega
 · rw [if_neg h]; simp; omega
theorem inC_none {os:List Ord} {a:Id} (h:findL os a=none) (st:List Int):inC os a st=14:=by unfold inC; rw [h]
theorem inC_some {os:List Ord} {a:Id} {x:Ord} (h:findL os a=some x) (st:List Int):inC os a st=if x.state ∈ st then 0 else 9:=by unfold inC; rw [h]
theorem inO_some {os:List Ord} {a:Id} {x:Ord} (h:findL os a=some x) {st:List Int} (hm:x.state ∈ st):inO os a st=x:=by
 unfold inO
 rw [if_pos (by rw [inC_some h,if_pos hm]),h]
 rfl
theorem find_id {os:List Ord} {a:Id} {x:Ord} (h:findL os a=some x):x.id=a/\x ∈ os:=by
 refine ⟨?_,List.mem_of_find?_eq_some h⟩
 have:=List.find?_some h
 simpa [isOrd] using this
section
variable {b:Bk} {os:List Ord} {c:Chg}
theorem doR_sim (h:¬ (4<=c.kind/\c.kind<=8)):doR b os c=outR (codeR b os c) (simR b os c):=by unfold doR; rw [if_neg h]
theorem doR_ord (h:4<=c.kind/\c.kind<=8) {x:Ord} (hf:findL os c.ref=some x):doR b os c=outR (codeR b os c) (ordR b os c x):=by unfold doR ordAt; rw [if_pos h,hf]; rfl
theorem doR_1 (k:c.kind=1):doR b os c=dr (doW b os c):=by
 have hc:codeR b os c=addR b.st c.a c.n:=if_pos k
 have hs:simR b os c=_:=if_pos k
 have hw:doW b os c=_:=if_pos k
 rw [doR_sim (by omega),hc,hs,hw]
 unfold addR
 by_cases h1:1<=c.n
 ·
  rw [if_pos h1]
  by_cases h2:0<=c.a/\c.a<=7/\1<=c.n/\c.n<=1099511627776
  ·
   rw [if_pos h2,addB_in (by omega)]
   by_cases h3:1099511627776 < b.st.at c.a.toNat + c.n
   · rw [if_pos h3,if_neg (show ¬ b.st.at c.a.toNat + c.n<=1099511627776 by omega)]; rfl
   · rw [if_neg h3,if_pos (show b.st.at c.a.toNat + c.n<=1099511627776 by omega)]; rfl
  · rw [if_neg h2,addB_eq,if_neg (show ¬ ((0<=c.a/\c.a<=7)/\0<=c.n/\c.n<=1099511627776) by omega)]; rfl
 · rw [if_neg h1,if_neg (show ¬ (0<=c.a/\c.a<=7/\1<=c.n/\c.n<=1099511627776) by omega)]; rfl
theorem doR_2 (k:c.kind=2):doR b os c=dr (doW b os c):=by
 have hc:codeR b os c=addR b.pu c.a c.n:=(if_neg (by omega)).trans (if_pos k)
 have hs:simR b os c=_:=(if_neg (by omega)).trans (if_pos k)
 have hw:doW b os c=_:=(if_neg (by omega)).trans (if_pos k)
 rw [doR_sim (by omega),hc,hs,hw]
 unfold addR
 by_cases h1:1<=c.n
 ·
  rw [if_pos h1]
  by_cases h2:0<=c.a/\c.a<=7/\1<=c.n/\c.n<=1099511627776
  ·
   rw [if_pos h2,giveB_in (by omega)]
   by_cases h3:1099511627776 < b.pu.at c.a.toNat + c.n
   · rw [if_pos h3,if_neg (show ¬ b.pu.at c.a.toNat + c.n<=1099511627776 by omega)]; rfl
   · rw [if_neg h3,if_pos (show b.pu.at c.a.toNat + c.n<=1099511627776 by omega)]; rfl
  · rw [if_neg h2,giveB_eq,if_neg (show ¬ ((0<=c.a/\c.a<=7)/\0<=c.n/\c.n<=1099511627776) by omega)]; rfl
 · rw [if_neg h1,if_neg (show ¬ (0<=c.a/\c.a<=7/\1<=c.n/\c.n<=1099511627776) by omega)]; rfl
theorem itemC_eq (hn:1<=c.n/\c.n<=1000) (hb:0<=c.b/\c.b<=7):(itemR b c < 0->itemC b c=c.b/\b.st.at c.b.toNat < c.n)/\(0<=itemR b c->itemC b c=itemR b c):=by
 unfold itemR itemC
 by_cases h1:c.n<=b.st.at c.b.toNat
 ·
  have:hasB b c.b c.n=true:=(hasB_eq _ _ _).2 ⟨⟨hb,by omega,by omega⟩,h1⟩
  rw [if_pos h1,this]
  exact ⟨fun h=>by omega,fun _=>rfl⟩
 ·
  have:hasB b c.b c.n=false:=by
   rw [Bool.eq_false_iff]
   intro h
   exact h1 ((hasB_eq _ _ _).1 h).2
  rw [if_neg h1,this]
  by_cases h2:c.ref.seq=1/\0<=c.ref.rep/\c.ref.rep<=7/\c.n<=b.st.at c.ref.rep.toNat
  ·
   have h3:hasB b c.ref.rep c.n=true:=(hasB_eq _ _ _).2 ⟨⟨⟨h2.2.1,h2.2.2.1⟩,by omega,by omega⟩,h2.2.2.2⟩
   rw [if_pos h2,h3,h2.1]
   exact ⟨fun h=>by omega,fun _=>rfl⟩
  ·
   rw [if_neg h2]
   refine ⟨fun _=>⟨if_neg fun h=>h2 ?_,by omega⟩,fun h=>by omega⟩
   simp only [Bool.not_false,Bool.true_and,Bool.and_eq_true,beq_iff_eq] at h
   obtain ⟨h4,h5⟩:=h
   obtain ⟨⟨h6,_⟩,h7⟩:=(hasB_eq _ _ _).1 h5
   exact ⟨h4,h6.1,h6.2,h7⟩
theorem doR_3 (k:c.kind=3):doR b os c=dr (doW b os c):=by
 have hc:codeR b os c=placeR b os c:=(if_neg (by omega)).trans ((if_neg (by omega)).trans (if_pos k))
 have hs:simR b os c=_:=(if_neg (by omega)).trans ((if_neg (by omega)).trans (if_neg (by omega)))
 have hw:doW b os c=placeW b os c:=(if_neg (by omega)).trans ((if_neg (by omega)).trans (if_pos k))
 rw [doR_sim (by omega),hc,hs,hw]
 unfold placeR placeW
 by_cases h:0<=c.a/\c.a<=7/\0<=c.b/\c.b<=7/\1<=c.n/\c.n<=1000
 ·
  have hg:(itemB c.a && (itemB c.b && decide (1<=c.n/\c.n<=1000)))=true:=by
   simp only [itemB,Bool.and_eq_true,decide_eq_true_eq]
   omega
  rw [if_pos h,if_pos hg]
  have hN:newC os (ordN c (itemC b c))=if 0<=placeL os c.id then 9 else if 32<=os.length then 3 else 0:=rfl
  rw [hN]
  by_cases h1:0<=placeL os c.id
  · simp only [if_pos h1]; rfl
  ·
   by_cases h2:32<=os.length
   · simp only [if_neg h1,if_pos h2]; rfl
   ·
    simp only [if_neg h1,if_neg h2,if_true]
    obtain ⟨i1,i2⟩:=itemC_eq (b:=b) (c:=c) ⟨h.2.2.2.2.1,h.2.2.2.2.2⟩ ⟨h.2.2.1,h.2.2.2.1⟩
    by_cases h3:itemR b c < 0
    ·
     obtain ⟨e1,e2⟩:=i1 h3
     rw [if_pos h3,e1,takeB_in (by omega),if_pos e2]; rfl
    ·
     have e1:=i2 (by omega)
     obtain ⟨r1,r2⟩:=itemR_rng (b:=b) (c:=c) ⟨h.2.2.1,h.2.2.2.1⟩ (by omega)
     rw [if_neg h3,e1,takeB_in (by omega),if_neg (show ¬ b.st.at (itemR b c).toNat < c.n by omega)]; rfl
 ·
  have hg:¬ (itemB c.a && (itemB c.b && decide (1<=c.n/\c.n<=1000)))=true:=by
   simp only [itemB,Bool.and_eq_true,decide_eq_true_eq]
   omega
  rw [if_neg h,if_neg hg]; rfl
theorem doW_9 (k:c.kind=9):doW b os c=match priceB b c.a c.n with
   | .ok d=>.ok (d,os,[],zId)
   | .error e=>.error e:=by
 unfold doW
 rw [if_neg (by omega),if_neg (by omega),if_neg (by omega),if_neg (by omega),if_neg (by omega),if_neg (by omega),if_neg (by omega),if_neg (by omega),if_pos k]
 rfl
theorem doR_9 (k:c.kind=9):doR b os c=dr (doW b os c):=by
 have hc:codeR b os c=_:=(if_neg (by omega)).trans ((if_neg (by omega)).trans ((if_neg (by omega)).trans (if_pos k)))
 have hs:simR b os c=_:=(if_neg (by omega)).trans ((if_neg (by omega)).trans (if_pos k))
 rw [doR_sim (by omega),hc,hs,doW_9 k]
 unfold priceB
 by_cases h:0<=c.a/\c.a<=7/\0<=c.n/\c.n<=1073741824
 ·
  have hg:(itemB c.a && decide (0<=c.n/\c.n<=1073741824))=true:=by
   simp only [itemB,Bool.and_eq_true,decide_eq_true_eq]
   omega
  rw [if_pos h,if_pos hg]; rfl
 ·
  have hg:¬ (itemB c.a && decide (0<=c.n/\c.n<=1073741824))=true:=by
   simp only [itemB,Bool.and_eq_true,decide_eq_true_eq]
   omega
  rw [if_neg h,if_neg hg]; rfl
theorem codeR_ord (k:4<=c.kind/\c.kind<=8) (hn:c.kind=4->1<=c.n/\c.n<=1000):codeR b os c=match findL os c.ref with
  | none=>14
  | some x=>aboutR b c x:=by
 unfold codeR
 rw [if_neg (by omega),if_neg (by omega),if_neg (by omega),if_neg (by omega),if_neg (by omega),if_neg (by omega)]
 rfl
theorem doR_none (k:4<=c.kind/\c.kind<=8) (hn:c.kind=4->1<=c.n/\c.n<=1000) (hf:findL os c.ref=none):doR b os c=.error 14:=by
 unfold doR
 rw [codeR_ord k hn,hf]
 rfl
theorem doR_some (k:4<=c.kind/\c.kind<=8) (hn:c.kind=4->1<=c.n/\c.n<=1000) {x:Ord} (hf:findL os c.ref=some x):doR b os c=outR (aboutR b c x) (ordR b os c x):=by
 rw [doR_ord k hf,codeR_ord k hn,hf]
theorem doR_4 (hF:FairB b) (hO:FairO os) (k:c.kind=4):doR b os c=dr (doW b os c):=by
 have hw:doW b os c=amendW b os c:=(if_neg (by omega)).trans ((if_neg (by omega)).trans ((if_neg (by omega)).trans (if_pos k)))
 rw [hw]
 unfold amendW
 by_cases hn:1<=c.n/\c.n<=1000
 ·
  rw [if_pos (decide_eq_true hn)]
  cases hf:findL os c.ref with
  | none=>rw [doR_none (by omega) (fun _=>hn) hf,inC_none hf]; rfl
  | some x=>
   rw [doR_some (by omega) (fun _=>hn) hf,inC_some hf]
   obtain ⟨hid,hm⟩:=find_id hf
   obtain ⟨⟨a0,a1⟩,⟨a2,a3⟩,⟨a4,a5⟩,⟨a6,a7⟩,_⟩:=hO x hm
   obtain ⟨f1,f2,_⟩:=hF x.item.toNat (by omega)
   have hA:aboutR b c x=_:=if_pos k
   have hR:ordR b os c x=_:=if_pos k
   rw [hA,hR]
   by_cases s:x.state=1
   ·
    have hms:x.state ∈ [(1:Int)]:=by simp [s]
    rw [if_pos hms,inO_some hf hms,if_pos s,if_pos rfl]
    have st:∀ v,v=b.st.at x.item.toNat + x.qty - c.n->(Except.ok ({ b with st:=b.st.put x.item.toNat v },putL os (chgS (chgQ x c.n) 1),[⟨2,x.item,c.n,c.ref⟩],c.ref):Except Int (Bk × List Ord × List Eff × Id))=.ok ({ b with st:=b.st.put x.item.toNat (b.st.at x.item.toNat + x.qty - c.n) },putL os (chgS (chgQ x c.n) 1),[⟨2,x.item,c.n,c.ref⟩],c.ref):=fun v hv=>by rw [hv]
    by_cases h0:0<=c.n - x.qty
    ·
     rw [if_pos h0,takeB_in (by omega)]
     by_cases h1:b.st.at x.item.toNat < c.n - x.qty
     · rw [if_pos h1,if_pos h1]; rfl
     ·
      rw [if_neg h1,if_neg h1,if_neg (show ¬ 1099511627776 < b.st.at x.item.toNat + x.qty - c.n by omega)]
      show _=dr (.ok _)
      rw [st _ (by omega),hid]; rfl
    ·
     rw [if_neg h0,addB_in (by omega),if_neg (show ¬ b.st.at x.item.toNat < c.n - x.qty by omega)]
     by_cases h1:1099511627776 < b.st.at x.item.toNat + x.qty - c.n
     · rw [if_pos h1,if_neg (show ¬ b.st.at x.item.toNat + -(c.n - x.qty)<=1099511627776 by omega)]; rfl
     ·
      rw [if_neg h1,if_pos (show b.st.at x.item.toNat + -(c.n - x.qty)<=1099511627776 by omega)]
      show _=dr (.ok _)
      rw [st _ (by omega),hid]; rfl
   ·
    have hms:¬ x.state ∈ [(1:Int)]:=by simp [s]
    rw [if_neg hms,if_neg s]; rfl
 ·
  rw [if_neg (by simpa using hn)]
  have hc:codeR b os c=4:=by
   unfold codeR
   rw [if_neg (by omega),if_neg (by omega),if_neg (by omega),if_neg (by omega),if_neg (by omega),if_pos ⟨k,hn⟩]
  unfold doR
  rw [hc]; rfl
theorem doR_5 (hF:FairB b) (hO:FairO os) (k:c.kind=5):doR b os c=dr (doW b os c):=by
 have hw:doW b os c=cancelW b os c:=(if_neg (by omega)).trans ((if_neg (by omega)).trans ((if_neg (by omega)).trans ((if_neg (by omega)).trans (if_pos k))))
 rw [hw]
 unfold cancelW
 cases hf:findL os c.ref with
 | none=>rw [doR_none (by omega) (by omega) hf,inC_none hf]; rfl
 | some x=>
  rw [doR_some (by omega) (by omega) hf,inC_some hf]
  obtain ⟨hid,hm⟩:=find_id hf
  obtain ⟨⟨a0,a1⟩,⟨a2,a3⟩,⟨a4,a5⟩,⟨a6,a7⟩,_⟩:=hO x hm
  obtain ⟨f1,f2,_⟩:=hF x.item.toNat (by omega)
  obtain ⟨_,_,_,_,f5,f6⟩:=hF x.buyer.toNat (by omega)
  have hA:aboutR b c x=_:=(if_neg (by omega)).trans (if_pos k)
  have hR:ordR b os c x=_:=(if_neg (by omega)).trans (if_pos k)
  rw [hA,hR]
  by_cases s:x.state=1\/x.state=2
  ·
   have hms:x.state ∈ [(1:Int),2]:=by simpa using s
   rw [if_pos hms,inO_some hf hms,if_pos s,if_pos rfl,addB_in (by omega)]
   by_cases h1:b.st.at x.item.toNat + x.qty<=1099511627776
   ·
    rw [if_pos h1]
    by_cases s2:x.state=2
    ·
     simp only [if_pos s2]
     rw [giveB_in (by omega)]
     by_cases h2:b.pu.at x.buyer.toNat + x.cost<=1099511627776
     · rw [if_neg (show ¬ (1099511627776 < b.st.at x.item.toNat + x.qty\/x.state=2/\1099511627776 < b.pu.at x.buyer.toNat + x.cost) by omega),if_pos h2,hid]; rfl
     · rw [if_pos (show 1099511627776 < b.st.at x.item.toNat + x.qty\/x.state=2/\1099511627776 < b.pu.at x.buyer.toNat + x.cost by omega),if_neg h2]; rfl
    ·
     simp only [if_neg s2]
     rw [if_neg (show ¬ (1099511627776 < b.st.at x.item.toNat + x.qty\/x.state=2/\1099511627776 < b.pu.at x.buyer.toNat + x.cost) by omega),hid]; rfl
   · rw [if_neg h1,if_pos (show 1099511627776 < b.st.at x.item.toNat + x.qty\/x.state=2/\1099511627776 < b.pu.at x.buyer.toNat + x.cost by omega)]; rfl
  ·
   have hms:¬ x.state ∈ [(1:Int),2]:=by simpa using s
   rw [if_neg hms,if_neg s]; rfl
theorem doR_6 (hF:FairB b) (hO:FairO os) (k:c.kind=6):doR b os c=dr (doW b os c):=by
 have hw:doW b os c=payW b os c:=(if_neg (by omega)).trans ((if_neg (by omega)).trans ((if_neg (by omega)).trans ((if_neg (by omega)).trans ((if_neg (by omega)).trans (if_pos k)))))
 rw [hw]
 unfold payW
 cases hf:findL os c.ref with
 | none=>rw [doR_none (by omega) (by omega) hf,inC_none hf]; rfl
 | some x=>
  rw [doR_some (by omega) (by omega) hf,inC_some hf]
  obtain ⟨hid,hm⟩:=find_id hf
  obtain ⟨⟨a0,a1⟩,⟨a2,a3⟩,⟨a4,a5⟩,⟨a6,a7⟩,_⟩:=hO x hm
  obtain ⟨_,_,f3,f4,_,_⟩:=hF x.item.toNat (by omega)
  obtain ⟨_,_,_,_,f5,f6⟩:=hF x.buyer.toNat (by omega)
  obtain ⟨m1,m2⟩:=mul_rng a4 a5 f3 f4
  have hA:aboutR b c x=_:=(if_neg (by omega)).trans ((if_neg (by omega)).trans (if_pos k))
  have hR:ordR b os c x=_:=(if_neg (by omega)).trans ((if_neg (by omega)).trans (if_pos k))
  rw [hA,hR]
  by_cases s:x.state=1
  ·
   have hms:x.state ∈ [(1:Int)]:=by simp [s]
   rw [if_pos hms,inO_some hf hms,if_pos s,if_pos rfl,costB_in (by omega)]
   by_cases h1:1099511627776 < x.qty * b.pr.at x.item.toNat
   · rw [if_pos h1,if_neg (show ¬ x.qty * b.pr.at x.item.toNat<=1099511627776 by omega)]; rfl
   ·
    rw [if_neg h1,if_pos (show x.qty * b.pr.at x.item.toNat<=1099511627776 by omega)]
    simp only
    rw [payB_in (by omega)]
    by_cases h2:b.pu.at x.buyer.toNat < x.qty * b.pr.at x.item.toNat
    · rw [if_pos h2,if_pos h2]; rfl
    · rw [if_neg h2,if_neg h2,hid]; rfl
  ·
   have hms:¬ x.state ∈ [(1:Int)]:=by simp [s]
   rw [if_neg hms,if_neg s]; rfl
theorem doR_7 (k:c.kind=7):doR b os c=dr (doW b os c):=by
 have hw:doW b os c=shipW b os c:=(if_neg (by omega)).trans ((if_neg (by omega)).trans ((if_neg (by omega)).trans ((if_neg (by omega)).trans ((if_neg (by omega)).trans ((if_neg (by omega)).trans (if_pos k))))))
 rw [hw]
 unfold shipW
 cases hf:findL os c.ref with
 | none=>rw [doR_none (by omega) (by omega) hf,inC_none hf]; rfl
 | some x=>
  rw [doR_some (by omega) (by omega) hf,inC_some hf]
  obtain ⟨hid,hm⟩:=find_id hf
  have hA:aboutR b c x=_:=(if_neg (by omega)).trans ((if_neg (by omega)).trans ((if_neg (by omega)).trans (if_pos k)))
  have hR:ordR b os c x=_:=(if_neg (by omega)).trans ((if_neg (by omega)).trans ((if_neg (by omega)).trans (if_pos k)))
  rw [hA,hR]
  by_cases s:x.state=2
  ·
   have hms:x.state ∈ [(2:Int)]:=by simp [s]
   rw [if_pos hms,inO_some hf hms,if_pos s,if_pos rfl,hid]; rfl
  ·
   have hms:¬ x.state ∈ [(2:Int)]:=by simp [s]
   rw [if_neg hms,if_neg s]; rfl
theorem doR_8 (hF:FairB b) (hO:FairO os) (k:c.kind=8):doR b os c=dr (doW b os c):=by
 have hw:doW b os c=refundW b os c:=(if_neg (by omega)).trans ((if_neg (by omega)).trans ((if_neg (by omega)).trans ((if_neg (by omega)).trans ((if_neg (by omega)).trans ((if_neg (by omega)).trans ((if_neg (by omega)).trans (if_pos k)))))))
 rw [hw]
 unfold refundW
 cases hf:findL os c.ref with
 | none=>rw [doR_none (by omega) (by omega) hf,inC_none hf]; rfl
 | some x=>
  rw [doR_some (by omega) (by omega) hf,inC_some hf]
  obtain ⟨hid,hm⟩:=find_id hf
  obtain ⟨⟨a0,a1⟩,⟨a2,a3⟩,⟨a4,a5⟩,⟨a6,a7⟩,_⟩:=hO x hm
  obtain ⟨_,_,_,_,f5,f6⟩:=hF x.buyer.toNat (by omega)
  have hA:aboutR b c x=_:=(if_neg (by omega)).trans ((if_neg (by omega)).trans ((if_neg (by omega)).trans (if_neg (by omega))))
  have hR:ordR b os c x=_:=(if_neg (by omega)).trans ((if_neg (by omega)).trans ((if_neg (by omega)).trans (if_neg (by omega))))
  rw [hA,hR]
  by_cases s:x.state=3
  ·
   have hms:x.state ∈ [(3:Int)]:=by simp [s]
   rw [if_pos hms,inO_some hf hms,if_pos s,if_pos rfl,giveB_in (by omega)]
   by_cases h2:1099511627776 < b.pu.at x.buyer.toNat + x.cost
   · rw [if_pos h2,if_neg (show ¬ b.pu.at x.buyer.toNat + x.cost<=1099511627776 by omega)]; rfl
   · rw [if_neg h2,if_pos (show b.pu.at x.buyer.toNat + x.cost<=1099511627776 by omega),hid]; rfl
  ·
   have hms:¬ x.state ∈ [(3:Int)]:=by simp [s]
   rw [if_neg hms,if_neg s]; rfl
theorem doR_none' (h:c.kind < 1\/9 < c.kind):doR b os c=dr (doW b os c):=by
 have hc:codeR b os c=12:=by
  unfold codeR
  rw [if_neg (by omega),if_neg (by omega),if_neg (by omega),if_neg (by omega),if_pos (by omega)]
 have hw:doW b os c=.error 12:=by
  unfold doW
  rw [if_neg (by omega),if_neg (by omega),if_neg (by omega),if_neg (by omega),if_neg (by omega),if_neg (by omega),if_neg (by omega),if_neg (by omega),if_neg (by omega)]
 unfold doR
 rw [hc,hw]; rfl
theorem doR_eq (hF:FairB b) (hO:FairO os):doR b os c=dr (doW b os c):=by
 rcases (show c.kind=1\/c.kind=2\/c.kind=3\/c.kind=4\/c.kind=5\/c.kind=6\/c.kind=7\/c.kind=8\/c.kind=9\/c.kind < 1\/9 < c.kind by omega) with k | k | k | k | k | k | k | k | k | k
 · exact doR_1 k
 · exact doR_2 k
 · exact doR_3 k
 · exact doR_4 hF hO k
 · exact doR_5 hF hO k
 · exact doR_6 hF hO k
 · exact doR_7 k
 · exact doR_8 hF hO k
 · exact doR_9 k
 · exact doR_none' k
end
theorem outR_ok {k:Int} {t u:Bk × List Ord × List Eff} (h:outR k t=.ok u):k=0/\t=u:=by
 unfold outR at h
 by_cases hk:k=0
 · rw [if_pos hk] at h; cases h; exact ⟨hk,rfl⟩
 · rw [if_neg hk] at h; cases h
theorem outR_err {k e:Int} {t:Bk × List Ord × List Eff} (h:outR k t=.error e):k=e/\e ≠ 0:=by
 unfold outR at h
 by_cases hk:k=0
 · rw [if_pos hk] at h; cases h
 · rw [if_neg hk] at h; cases h; exact ⟨rfl,hk⟩
theorem ord_ready {b:Bk} {os:List Ord} {c:Chg} (h:codeR b os c=0) (k:4<=c.kind/\c.kind<=8):(∃ x,findL os c.ref=some x/\aboutR b c x=0)/\(c.kind=4->1<=c.n/\c.n<=1000):=by
 by_cases hn:c.kind=4/\¬ (1<=c.n/\c.n<=1000)
 ·
  unfold codeR at h
  rw [if_neg (by omega),if_neg (by omega),if_neg (by omega),if_neg (by omega),if_neg (by omega),if_pos hn] at h
  cases h
 ·
  have hn':c.kind=4->1<=c.n/\c.n<=1000:=by omega
  rw [codeR_ord k hn'] at h
  cases hf:findL os c.ref with
  | none=>rw [hf] at h; cases h
  | some x=>rw [hf] at h; exact ⟨⟨x,rfl,h⟩,hn'⟩
theorem sim_ready {b:Bk} {os:List Ord} {c:Chg} (h:codeR b os c=0) (k:¬ (4<=c.kind/\c.kind<=8)):simOK b os c:=by
 unfold simOK
 unfold codeR at h
 by_cases k1:c.kind=1
 ·
  rw [if_pos k1] at h
  unfold addR at h
  by_cases h1:0<=c.a/\c.a<=7/\1<=c.n/\c.n<=1099511627776
  ·
   rw [if_pos h1] at h
   by_cases h2:1099511627776 < b.st.at c.a.toNat + c.n
   · rw [if_pos h2] at h; cases h
   · exact .inl ⟨k1,by omega,by omega,by omega⟩
  · rw [if_neg h1] at h; cases h
 by_cases k2:c.kind=2
 ·
  rw [if_neg k1,if_pos k2] at h
  unfold addR at h
  by_cases h1:0<=c.a/\c.a<=7/\1<=c.n/\c.n<=1099511627776
  ·
   rw [if_pos h1] at h
   by_cases h2:1099511627776 < b.pu.at c.a.toNat + c.n
   · rw [if_pos h2] at h; cases h
   · exact .inr (.inl ⟨k2,by omega,by omega,by omega⟩)
  · rw [if_neg h1] at h; cases h
 by_cases k3:c.kind=3
 ·
  rw [if_neg k1,if_neg k2,if_pos k3] at h
  unfold placeR at h
  by_cases h1:0<=c.a/\c.a<=7/\0<=c.b/\c.b<=7/\1<=c.n/\c.n<=1000
  ·
   rw [if_pos h1] at h
   by_cases h2:0<=placeL os c.id
   · rw [if_pos h2] at h; cases h
   ·
    by_cases h3:32<=os.length
    · rw [if_neg h2,if_pos h3] at h; cases h
    ·
     by_cases h4:itemR b c < 0
     · rw [if_neg h2,if_neg h3,if_pos h4] at h; cases h
     · exact .inr (.inr (.inr ⟨k3,by omega,by omega,by omega,by omega,by omega,by omega⟩))
  · rw [if_neg h1] at h; cases h
 by_cases k9:c.kind=9
 ·
  rw [if_neg k1,if_neg k2,if_neg k3,if_pos k9] at h
  by_cases h1:0<=c.a/\c.a<=7/\0<=c.n/\c.n<=1073741824
  · exact .inr (.inr (.inl ⟨k9,by omega,by omega⟩))
  · rw [if_neg h1] at h; cases h
 · rw [if_neg k1,if_neg k2,if_neg k3,if_neg k9,if_pos (by omega)] at h; cases h
theorem doR_lens {b:Bk} {os:List Ord} {c:Chg}:(simR b os c).2.2.length<=4/\(simR b os c).2.1.length<=os.length + 1/\∀ x,(ordR b os c x).2.2.length<=4/\(ordR b os c x).2.1.length<=os.length + 1:=by
 refine ⟨?_,?_,fun x=>⟨?_,?_⟩⟩
 ·
  unfold simR; repeat' split
  all_goals simp
 ·
  unfold simR; repeat' split
  all_goals first | exact Nat.le_succ _ | exact putL_len _ _
 ·
  unfold ordR; repeat' split
  all_goals simp
 ·
  unfold ordR; repeat' split
  all_goals exact putL_len _ _
theorem doW_lens {b d:Bk} {os ps:List Ord} {c:Chg} {l:List Eff} {r:Id} (hF:FairB b) (hO:FairO os) (h:doW b os c=.ok (d,ps,l,r)):l.length<=4/\ps.length<=os.length + 1:=by
 have q:=doR_eq hF hO (c:=c)
 rw [h] at q
 obtain ⟨_,ht⟩:=outR_ok q
 obtain ⟨s1,s2,s3⟩:=@doR_lens b os c
 by_cases k:4<=c.kind/\c.kind<=8
 ·
  rw [if_pos k] at ht
  have:=s3 (ordAt os c)
  rw [ht] at this
  exact this
 ·
  rw [if_neg k] at ht
  rw [ht] at s1 s2
  exact ⟨s1,s2⟩
structure rdoX where
 b:Bk
 os:List Ord
 os':AV
 c:Chg
 h_os:SlA 7 cOrd os os'
 hL:FairB b/\FairO os/\os.length<=40000
noncomputable def rdoS:HSpec:=mkH (ι:=rdoX) (fun ⟨b,os,os',c,h_os,hL⟩=>([.agg (cBk b os'),.agg (cChg c)],[])) fun ⟨b,os,os',c,h_os,hL⟩=>doH b os c
theorem rdoS_atG (b:Bk) (os:List Ord) (os':AV) (c:Chg) (h_os:SlA 7 cOrd os os') (hL:FairB b/\FairO os/\os.length<=40000):rdoS [.agg (cBk b os'),.agg (cChg c)] []=some (doH b os c):=
 mA_ (ι:=rdoX) (fun i j h=>by obtain ⟨b,os,os',c,h_os,hL⟩:=i; obtain ⟨b2,os2,os'2,c2,h_os2,hL2⟩:=j; simp [and_assoc,qB_,qI_,qO_,qC_,qE_,qK_,qR_,qV_,qP_,qOc_] at h; obtain ⟨rfl,rfl,rfl⟩:=h; obtain rfl:=SlA.inj (fun x y h=>cOrd_inj h) h_os h_os2; rfl) ⟨b,os,os',c,h_os,hL⟩
theorem rdoS_at (b:Bk) (os:List Ord) (c:Chg) (hL:FairB b/\FairO os/\os.length<=40000):rdoS [.agg (cBk b (.sl 7 (rows cOrd os))),.agg (cChg c)] []=some (doH b os c):=rdoS_atG b os _ c .sl hL
theorem rdo_ok:HSound Tryz.prog 34 rdoS:=by
 refine sE_ (fn:=Tryz.f34) rfl rfl (by kernel_rfl) fun args bx hr hS=>?_
 obtain ⟨⟨b,os,os',c,h_os,hL⟩,rfl,rfl,rfl⟩:=mO_ hS
 clear hS
 refine ⟨_,(eV_ (g:=60) (by kernel_rfl) code16_ok (eH_ (g:=61) (by kernel_rfl) ord16_ok (eH_ (g:=62) (by kernel_rfl) sim16_ok (eN_ _)))),by simp [Tryz.f34],by simp only [doH_up]; trivial,fun w Mx pin=>?_⟩
 simp only [hB_at,lab_nil,lab_cons,hOf_nil,hOf_cons]
 refine aW_ (s':=⟨ofL [(0,.agg (cBk b (.sl 7 (rows cOrd os)))),(1,.agg (cChg c))],hOf []⟩) ?_ ?_
 · cases h_os <;> exact wO_ [] (by simp [go_sem]) (by simp [go_sem]) (by simp [go_sem])
 clear h_os
 obtain ⟨hF,hO,hlen⟩:=hL
 refine aQ_ ?_
 iterate 4
  refine oC_ fun J hJ=>?_
  simp [go_sem]
  refine hJ _ _ _ ?_
  clear hJ J
 refine oN_ ?_
 refine aS_ fun K2 hK2=>?_
 rcases hd:doW b os c with e | ⟨d,ps,l,r⟩
 ·
  have hq:=doR_eq hF hO (c:=c)
  rw [hd] at hq
  obtain ⟨hc,hne⟩:=outR_err hq
  have hz:(e != 0)=true:=by simpa using hne
  refine aR_ ?_
  iterate 4
   refine oC_ fun J hJ=>?_
   simp [go_sem,code16S_at b os c ⟨hF,hO,hlen⟩,hc]
   refine hJ _ _ _ ?_
   clear hJ J
  refine oN_ ?_
  refine hK2 _ ?_
  clear hK2
  refine aS_ fun K3 hK3=>?_
  refine aQ_ ?_
  iterate 2
   refine oC_ fun J hJ=>?_
   simp [go_sem,hz]
   refine hJ _ _ _ ?_
   clear hJ J
  refine oN_ ?_
  refine aT_ rfl ?_
  refine aQ_ ?_
  iterate 5
   refine oC_ fun J hJ=>?_
   simp [go_sem]
   refine hJ _ _ _ ?_
   clear hJ J
  refine oN_ ?_
  refine aE_ ?_
  rw [doH_err hd]
  refine fQ_ [] ?_
  simp [go_sem,Tryz.f34,cOc]
 ·
  have hq:=doR_eq hF hO (c:=c)
  rw [hd] at hq
  obtain ⟨hc,ht⟩:=outR_ok hq
  refine aR_ ?_
  iterate 4
   refine oC_ fun J hJ=>?_
   simp [go_sem,code16S_at b os c ⟨hF,hO,hlen⟩,hc]
   refine hJ _ _ _ ?_
   clear hJ J
  refine oN_ ?_
  refine hK2 _ ?_
  clear hK2
  refine aS_ fun K3 hK3=>?_
  refine aQ_ ?_
  iterate 2
   refine oC_ fun J hJ=>?_
   simp [go_sem]
   refine hJ _ _ _ ?_
   clear hJ J
  refine oN_ ?_
  refine aF_ rfl ?_
  refine aK_ ?_
  refine hK3 _ ?_
  clear hK3
  refine aS_ fun K7 hK7=>?_
  refine aS_ fun K8 hK8=>?_
  rcases (show (4<=c.kind/\c.kind<=8)\/(4<=c.kind/\¬ c.kind<=8)\/¬ 4<=c.kind by omega) with ⟨g1,g2⟩ | ⟨g1,g2⟩ | g1
  ·
   obtain ⟨hx,hn⟩:=ord_ready hc ⟨g1,g2⟩
   rw [if_pos ⟨g1,g2⟩] at ht
   refine aR_ ?_
   iterate 8
    refine oC_ fun J hJ=>?_
    simp [go_sem,g1,g2]
    refine hJ _ _ _ ?_
    clear hJ J
   refine oN_ ?_
   refine hK8 _ ?_
   clear hK8
   refine aT_ rfl ?_
   refine aQ_ ?_
   iterate 9
    refine oC_ fun J hJ=>?_
    simp [go_sem,ord16S_at b os c ⟨hF,hO,hlen,⟨g1,g2⟩,hx,hn⟩,ht,resR]
    refine hJ _ _ _ ?_
    clear hJ J
   refine oN_ ?_
   refine aQ_ ?_
   iterate 5
    refine oC_ fun J hJ=>?_
    simp [go_sem]
    refine hJ _ _ _ ?_
    clear hJ J
   refine oN_ ?_
   refine aE_ ?_
   rw [doH_ok hd]
   refine fQ_ [] ?_
   simp [go_sem,Tryz.f34,cOc]
  ·
   rw [if_neg (by omega)] at ht
   refine aR_ ?_
   iterate 8
    refine oC_ fun J hJ=>?_
    simp [go_sem,g1,g2]
    refine hJ _ _ _ ?_
    clear hJ J
   refine oN_ ?_
   refine hK8 _ ?_
   clear hK8
   refine aF_ rfl ?_
   refine aK_ ?_
   refine hK7 _ ?_
   clear hK7
   refine aQ_ ?_
   iterate 9
    refine oC_ fun J hJ=>?_
    simp [go_sem,sim16S_at b os c ⟨hF,hlen,sim_ready hc (by omega)⟩,ht,resR]
    refine hJ _ _ _ ?_
    clear hJ J
   refine oN_ ?_
   refine aQ_ ?_
   iterate 5
    refine oC_ fun J hJ=>?_
    simp [go_sem]
    refine hJ _ _ _ ?_
    clear hJ J
   refine oN_ ?_
   refine aE_ ?_
   rw [doH_ok hd]
   refine fQ_ [] ?_
   simp [go_sem,Tryz.f34,cOc]
  ·
   rw [if_neg (by omega)] at ht
   refine aR_ ?_
   iterate 8
    refine oC_ fun J hJ=>?_
    simp [go_sem,g1]
    refine hJ _ _ _ ?_
    clear hJ J
   refine oN_ ?_
   refine hK8 _ ?_
   clear hK8
   refine aF_ rfl ?_
   refine aK_ ?_
   refine hK7 _ ?_
   clear hK7
   refine aQ_ ?_
   iterate 9
    refine oC_ fun J hJ=>?_
    simp [go_sem,sim16S_at b os c ⟨hF,hlen,sim_ready hc (by omega)⟩,ht,resR]
    refine hJ _ _ _ ?_
    clear hJ J
   refine oN_ ?_
   refine aQ_ ?_
   iterate 5
    refine oC_ fun J hJ=>?_
    simp [go_sem]
    refine hJ _ _ _ ?_
    clear hJ J
   refine oN_ ?_
   refine aE_ ?_
   rw [doH_ok hd]
   refine fQ_ [] ?_
   simp [go_sem,Tryz.f34,cOc]
theorem oc_dec (x y:Outc):decide (x=y)=((x.code == y.code) && decide (x.effs=y.effs)):=by
 cases x; cases y
 rw [Bool.eq_iff_iff]
 simp
theorem doW_cases {b d:Bk} {os ps:List Ord} {c:Chg} {l:List Eff} {r:Id} (hF:FairB b) (hO:FairO os) (h:doW b os c=.ok (d,ps,l,r)) :
  (¬ (4<=c.kind/\c.kind<=8)/\simOK b os c/\simR b os c=(d,ps,l))\/((4<=c.kind/\c.kind<=8)/\∃ x,findL os c.ref=some x/\aboutR b c x=0/\ordR b os c x=(d,ps,l)/\(c.kind=4->1<=c.n/\c.n<=1000)):=by
 have q:=doR_eq hF hO (c:=c)
 rw [h] at q
 obtain ⟨hc,ht⟩:=outR_ok q
 by_cases k:4<=c.kind/\c.kind<=8
 ·
  rw [if_pos k] at ht
  obtain ⟨⟨x,hf,hx⟩,hn⟩:=ord_ready hc k
  have he:ordAt os c=x:=by unfold ordAt; rw [hf]; rfl
  rw [he] at ht
  exact .inr ⟨k,x,hf,hx,ht,hn⟩
 ·
  rw [if_neg k] at ht
  exact .inl ⟨k,sim_ready hc k,ht⟩
theorem putL_form (os:List Ord) (x:Ord):(∃ (k:Nat) (y:Ord),k < os.length/\placeL os x.id=(k:Int)/\os[k]?=some y/\findL os x.id=some y/\y.id=x.id/\putL os x=os.set k x) \/
  (findL os x.id=none/\placeL os x.id=-1/\∃ i,putL os x=os.take i++[x]++os.drop i):=by
 rcases place_cases os x.id with ⟨h1,h2⟩ | ⟨k,y,h1,h2,h3,h4,h5⟩
 · exact .inr ⟨h2,h1,_,by unfold putL; rw [if_neg (by omega)]⟩
 ·
  refine .inl ⟨k,y,h1,h2,h3,h5,by simpa [isOrd] using h4,?_⟩
  unfold putL
  rw [if_pos (by omega),h2]
  rfl
theorem putL_mem {os:List Ord} {x o:Ord} (h:o ∈ putL os x):o ∈ os\/o=x:=by
 rcases putL_form os x with ⟨k,y,_,_,_,_,_,he⟩ | ⟨_,_,i,he⟩
 · rw [he] at h; exact List.mem_or_eq_of_mem_set h
 ·
  rw [he] at h
  simp only [List.mem_append,List.mem_singleton] at h
  rcases h with (h | h) | h
  · exact .inl (List.mem_of_mem_take h)
  · exact .inr h
  · exact .inl (List.mem_of_mem_drop h)
theorem fairO_put {os:List Ord} {x:Ord} (h:FairO os) (hx:FairO [x]):FairO (putL os x):=fun o ho=>by
 rcases putL_mem ho with h1 | rfl
 · exact h o h1
 · exact hx o (by simp)
theorem placeL_of_mem {os:List Ord} {o z:Ord} (h:z ∈ os) (hid:z.id=o.id):0<=placeL os o.id:=by
 rw [placeL,idxL_ge0,List.any_eq_true]
 exact ⟨z,h,by simp [isOrd,hid]⟩
def aboutC (c:Chg):Id:=if c.kind=3 then c.id else c.ref
theorem doW_put {b d:Bk} {os ps:List Ord} {c:Chg} {l:List Eff} {r:Id} (hF:FairB b) (hO:FairO os) (h:doW b os c=.ok (d,ps,l,r)) :
  ps=os\/∃ x,ps=putL os x/\x.id=aboutC c/\FairO [x]/\((c.kind=3/\placeL os x.id < 0/\os.length < 32)\/0<=placeL os x.id):=by
 rcases doW_cases hF hO h with ⟨k,hs,ht⟩ | ⟨k,x,hf,ha,ht,hn⟩
 ·
  rcases hs with ⟨k1,_⟩ | ⟨k1,_⟩ | ⟨k1,_⟩ | ⟨k1,q1,q2,q3,q4,q5,q6⟩
  ·
   have e:simR b os c=_:=if_pos k1
   rw [e] at ht; cases ht; exact .inl rfl
  ·
   have e:simR b os c=_:=(if_neg (by omega)).trans (if_pos k1)
   rw [e] at ht; cases ht; exact .inl rfl
  ·
   have e:simR b os c=_:=(if_neg (by omega)).trans ((if_neg (by omega)).trans (if_pos k1))
   rw [e] at ht; cases ht; exact .inl rfl
  ·
   have e:simR b os c=_:=(if_neg (by omega)).trans ((if_neg (by omega)).trans (if_neg (by omega)))
   rw [e] at ht; cases ht
   obtain ⟨i7,_⟩:=itemR_rng (b:=b) (c:=c) q1 q3
   refine .inr ⟨_,rfl,(if_pos k1).symm,fun o ho=>?_,.inl ⟨k1,q5,q6⟩⟩
   rw [List.mem_singleton.1 ho]
   simp only
   omega
 ·
  obtain ⟨hid,hm⟩:=find_id hf
  have hx:=hO x hm
  have hab:aboutC c=c.ref:=if_neg (by omega)
  have hp:0<=placeL os x.id:=placeL_of_mem hm rfl
  obtain ⟨⟨a0,a1⟩,⟨a2,a3⟩,⟨a4,a5⟩,⟨a6,a7⟩,a8,a9⟩:=hx
  obtain ⟨_,_,f3,f4,_,_⟩:=hF x.item.toNat (by omega)
  obtain ⟨m1,m2⟩:=mul_rng a4 a5 f3 f4
  have fin:∀ (y:Ord),y.id=x.id->FairO [y]->ps=putL os y->ps=os\/∃ x,ps=putL os x/\x.id=aboutC c/\FairO [x]/\((c.kind=3/\placeL os x.id < 0/\os.length < 32)\/0<=placeL os x.id):=
   fun y h1 h2 h3=>.inr ⟨y,h3,by rw [h1,hid,hab],h2,.inr (by rw [h1]; exact hp)⟩
  have one:∀ {y:Ord},((0<=y.buyer/\y.buyer<=7)/\(0<=y.item/\y.item<=7)/\(1<=y.qty/\y.qty<=1000)/\(0<=y.cost/\y.cost<=1099511627776)/\1<=y.state/\y.state<=5)->FairO [y]:=fun h o ho=>by rw [List.mem_singleton.1 ho]; exact h
  rcases (show c.kind=4\/c.kind=5\/c.kind=6\/c.kind=7\/c.kind=8 by omega) with k1 | k1 | k1 | k1 | k1
  ·
   have e:ordR b os c x=_:=if_pos k1
   obtain ⟨n1,n2⟩:=hn k1
   rw [e] at ht; cases ht
   exact fin (chgS (chgQ x c.n) 1) rfl (one (by simp only [chgS,chgQ]; omega)) rfl
  ·
   have e:ordR b os c x=_:=(if_neg (by omega)).trans (if_pos k1)
   rw [e] at ht
   split at ht <;> cases ht <;> exact fin (chgS x 4) rfl (one (by simp only [chgS]; omega)) rfl
  ·
   have e:ordR b os c x=_:=(if_neg (by omega)).trans ((if_neg (by omega)).trans (if_pos k1))
   obtain ⟨z0,z1,z2⟩:=about0_6 ha k1
   rw [e] at ht; cases ht
   exact fin (chgS (chgK x (x.qty * b.pr.at x.item.toNat)) 2) rfl (one (by simp only [chgS,chgK]; omega)) rfl
  ·
   have e:ordR b os c x=_:=(if_neg (by omega)).trans ((if_neg (by omega)).trans ((if_neg (by omega)).trans (if_pos k1)))
   rw [e] at ht; cases ht
   exact fin (chgS x 3) rfl (one (by simp only [chgS]; omega)) rfl
  ·
   have e:ordR b os c x=_:=(if_neg (by omega)).trans ((if_neg (by omega)).trans ((if_neg (by omega)).trans (if_neg (by omega))))
   rw [e] at ht; cases ht
   exact fin (chgS x 5) rfl (one (by simp only [chgS]; omega)) rfl
theorem fairB_st {b:Bk} {i:Nat} {v:Int} (hF:FairB b) (h:i < 8) (h0:0<=v) (h1:v<=1099511627776):FairB { b with st:=b.st.put i v }:=fun j hj=>by
 have:=hF j hj
 simp only [put_at _ _ _ _ h]
 split <;> omega
theorem fairB_pu {b:Bk} {i:Nat} {v:Int} (hF:FairB b) (h:i < 8) (h0:0<=v) (h1:v<=1099511627776):FairB { b with pu:=b.pu.put i v }:=fun j hj=>by
 have:=hF j hj
 simp only [put_at _ _ _ _ h]
 split <;> omega
theorem fairB_pr {b:Bk} {i:Nat} {v:Int} (hF:FairB b) (h:i < 8) (h0:0<=v) (h1:v<=1073741824):FairB { b with pr:=b.pr.put i v }:=fun j hj=>by
 have:=hF j hj
 simp only [put_at _ _ _ _ h]
 split <;> omega
def hq (i:Int) (o:Ord):Int:=if o.item=i/\o.state<=2 then o.qty else 0
def heldQ (i:Int):List Ord->Int
 | []=>0
 | o :: r=>hq i o + heldQ i r
theorem heldQ_append (i:Int):∀ (l m:List Ord),heldQ i (l++m)=heldQ i l + heldQ i m
 | [],m=>by simp [heldQ]
 | o :: r,m=>by simp only [List.cons_append,heldQ,heldQ_append i r m]; omega
theorem heldQ_set (i:Int) (x y:Ord):∀ (l:List Ord) (k:Nat),l[k]?=some y->heldQ i (l.set k x)=heldQ i l - hq i y + hq i x
 | [],k,h=>by simp at h
 | z :: r,0,h=>by
  simp at h
  subst h
  simp only [List.set_cons_zero,heldQ]
  omega
 | z :: r,k + 1,h=>by
  simp only [List.set_cons_succ,heldQ,heldQ_set i x y r k (by simpa using h)]
  omega
theorem heldQ_put (i:Int) (os:List Ord) (x:Ord):heldQ i (putL os x)=heldQ i os + hq i x - (match findL os x.id with | some y=>hq i y | none=>0):=by
 rcases putL_form os x with ⟨k,y,_,_,hy,hf,_,he⟩ | ⟨hf,_,j,he⟩
 ·
  rw [he,hf,heldQ_set i x y os k hy]
  simp only
  omega
 ·
  rw [he,hf]
  conv=>rhs; rw [<-List.take_append_drop j os]
  simp only [heldQ_append,heldQ]
  omega
theorem heldQ_old {i:Int} {os:List Ord} {x y:Ord} (hf:findL os y.id=some x):heldQ i (putL os y)=heldQ i os + hq i y - hq i x:=by rw [heldQ_put,hf]
theorem hq_le {i:Int} {o:Ord} (h:o.state<=2):hq i o=if o.item=i then o.qty else 0:=by
 unfold hq
 by_cases h1:o.item=i
 · rw [if_pos ⟨h1,h⟩,if_pos h1]
 · rw [if_neg (fun h2=>h1 h2.1),if_neg h1]
theorem hq_gt {i:Int} {o:Ord} (h:2 < o.state):hq i o=0:=by
 unfold hq
 rw [if_neg (fun h2=>absurd h2.2 (by omega))]
def heldW (b:Bk) (os:List Ord) (i:Nat):Int:=b.st.at i + heldQ i os
theorem doW_keep {b d:Bk} {os ps:List Ord} {c:Chg} {l:List Eff} {r:Id} (hF:FairB b) (hO:FairO os) (h:doW b os c=.ok (d,ps,l,r)) :
  FairB d/\∃ t v:Int,(0<=t/\t<=7)/\(∀ i:Nat,i < 8->heldW d ps i - heldW b os i=if (i:Int)=t then v else 0) /\
   (v=0\/(c.kind=1/\t=c.a/\v=c.n)\/(c.kind=7/\v<=0/\l.length=4/\∃ e,l[0]?=some e/\v=-e.n)):=by
 rcases doW_cases hF hO h with ⟨k,hs,ht⟩ | ⟨k,x,hf,ha,ht,hn⟩
 ·
  rcases hs with ⟨k1,q1,q2,q3⟩ | ⟨k1,q1,q2,q3⟩ | ⟨k1,q1,q2⟩ | ⟨k1,q1,q2,q3,q4,q5,q6⟩
  ·
   have e:simR b os c=_:=if_pos k1
   rw [e] at ht; cases ht
   have f:=hF c.a.toNat (by omega)
   refine ⟨fairB_st hF (by omega) (by omega) (by omega),c.a,c.n,q1,fun i hi=>?_,.inr (.inl ⟨k1,rfl,rfl⟩)⟩
   simp only [heldW,put_at _ _ _ _ (show c.a.toNat < 8 by omega)]
   by_cases hi2:(i:Int)=c.a
   ·
    obtain rfl:i=c.a.toNat:=by omega
    rw [if_pos rfl,if_pos hi2]; omega
   · rw [if_neg (by omega),if_neg hi2]; omega
  ·
   have e:simR b os c=_:=(if_neg (by omega)).trans (if_pos k1)
   rw [e] at ht; cases ht
   have f:=hF c.a.toNat (by omega)
   exact ⟨fairB_pu hF (by omega) (by omega) (by omega),0,0,by omega,fun i hi=>by simp only [heldW]; split <;> omega,.inl rfl⟩
  ·
   have e:simR b os c=_:=(if_neg (by omega)).trans ((if_neg (by omega)).trans (if_pos k1))
   rw [e] at ht; cases ht
   exact ⟨fairB_pr hF (by omega) (by omega) (by omega),0,0,by omega,fun i hi=>by simp only [heldW]; split <;> omega,.inl rfl⟩
  ·
   have e:simR b os c=_:=(if_neg (by omega)).trans ((if_neg (by omega)).trans (if_neg (by omega)))
   rw [e] at ht; cases ht
   obtain ⟨i7,hle⟩:=itemR_rng (b:=b) (c:=c) q1 q3
   have f:=hF (itemR b c).toNat (by omega)
   have hfn:findL os c.id=none:=by
    rcases place_cases os c.id with ⟨_,h2⟩ | ⟨k,y,_,h2,_⟩
    · exact h2
    · omega
   refine ⟨fairB_st hF (by omega) (by omega) (by omega),0,0,by omega,fun i hi=>?_,.inl rfl⟩
   simp only [heldW,put_at _ _ _ _ (show (itemR b c).toNat < 8 by omega),heldQ_put,hfn,hq]
   by_cases hi2:(i:Int)=itemR b c
   ·
    obtain rfl:i=(itemR b c).toNat:=by omega
    rw [if_pos rfl,if_pos ⟨by omega,by omega⟩]; split <;> omega
   · rw [if_neg (by omega),if_neg (by omega)]; split <;> omega
 ·
  obtain ⟨hid,hm⟩:=find_id hf
  obtain ⟨⟨a0,a1⟩,⟨a2,a3⟩,⟨a4,a5⟩,⟨a6,a7⟩,a8,a9⟩:=hO x hm
  obtain ⟨f1,f2,f3,f4,_,_⟩:=hF x.item.toNat (by omega)
  obtain ⟨_,_,_,_,f5,f6⟩:=hF x.buyer.toNat (by omega)
  obtain ⟨m1,m2⟩:=mul_rng a4 a5 f3 f4
  have hfx:findL os x.id=some x:=by rw [hid]; exact hf
  have hold:∀ (i:Int) (y:Ord),y.id=x.id->heldQ i (putL os y)=heldQ i os + hq i y - hq i x:=fun i y hy=>heldQ_old (by rw [hy]; exact hfx)
  rcases (show c.kind=4\/c.kind=5\/c.kind=6\/c.kind=7\/c.kind=8 by omega) with k1 | k1 | k1 | k1 | k1
  ·
   have e:ordR b os c x=_:=if_pos k1
   obtain ⟨n1,n2⟩:=hn k1
   obtain ⟨s1,z1,z2⟩:=about0_4 ha k1
   rw [e] at ht; cases ht
   refine ⟨fairB_st hF (by omega) (by omega) (by omega),0,0,by omega,fun i hi=>?_,.inl rfl⟩
   have e1:hq (i:Int) (chgS (chgQ x c.n) 1)=if x.item=(i:Int) then c.n else 0:=hq_le (o:=chgS (chgQ x c.n) 1) (show (1:Int)<=2 by decide)
   have e2:hq (i:Int) x=if x.item=(i:Int) then x.qty else 0:=hq_le (by omega)
   simp only [heldW,put_at _ _ _ _ (show x.item.toNat < 8 by omega)]
   rw [hold _ (chgS (chgQ x c.n) 1) rfl,e1,e2]
   by_cases hi2:x.item=(i:Int)
   ·
    obtain rfl:i=x.item.toNat:=by omega
    rw [if_pos rfl,if_pos hi2,if_pos hi2]; split <;> omega
   · rw [if_neg (by omega),if_neg hi2,if_neg hi2]; split <;> omega
  ·
   have e:ordR b os c x=_:=(if_neg (by omega)).trans (if_pos k1)
   obtain ⟨s1,z1,z2⟩:=about0_5 ha k1
   rw [e] at ht
   have hh:∀ i:Nat,i < 8->(b.st.put x.item.toNat (b.st.at x.item.toNat + x.qty)).at i + heldQ i (putL os (chgS x 4)) - (b.st.at i + heldQ i os)=if (i:Int)=0 then 0 else 0:=fun i hi=>by
    have e1:hq (i:Int) (chgS x 4)=0:=hq_gt (o:=chgS x 4) (show (2:Int) < 4 by decide)
    have e2:hq (i:Int) x=if x.item=(i:Int) then x.qty else 0:=hq_le (by omega)
    simp only [put_at _ _ _ _ (show x.item.toNat < 8 by omega)]
    rw [hold _ (chgS x 4) rfl,e1,e2]
    by_cases hi2:x.item=(i:Int)
    ·
     obtain rfl:i=x.item.toNat:=by omega
     rw [if_pos rfl,if_pos hi2]; split <;> omega
    · rw [if_neg (by omega),if_neg hi2]; split <;> omega
   by_cases s2:x.state=2
   ·
    rw [if_pos s2] at ht; cases ht
    have h3:¬ 1099511627776 < b.pu.at x.buyer.toNat + x.cost:=fun h=>z2 ⟨s2,h⟩
    exact ⟨fairB_pu (b:={ b with st:=b.st.put x.item.toNat (b.st.at x.item.toNat + x.qty) }) (fairB_st hF (by omega) (by omega) (by omega)) (by omega) (by omega) (by omega),0,0,by omega,fun i hi=>hh i hi,.inl rfl⟩
   ·
    rw [if_neg s2] at ht; cases ht
    exact ⟨fairB_st hF (by omega) (by omega) (by omega),0,0,by omega,fun i hi=>hh i hi,.inl rfl⟩
  ·
   have e:ordR b os c x=_:=(if_neg (by omega)).trans ((if_neg (by omega)).trans (if_pos k1))
   obtain ⟨z0,z1,z2⟩:=about0_6 ha k1
   rw [e] at ht; cases ht
   refine ⟨fairB_pu hF (by omega) (by omega) (by omega),0,0,by omega,fun i hi=>?_,.inl rfl⟩
   have e1:hq (i:Int) (chgS (chgK x (x.qty * b.pr.at x.item.toNat)) 2)=if x.item=(i:Int) then x.qty else 0:=hq_le (o:=chgS (chgK x (x.qty * b.pr.at x.item.toNat)) 2) (show (2:Int)<=2 by decide)
   have e2:hq (i:Int) x=if x.item=(i:Int) then x.qty else 0:=hq_le (by omega)
   simp only [heldW]
   rw [hold _ (chgS (chgK x (x.qty * b.pr.at x.item.toNat)) 2) rfl,e1,e2]
   by_cases hi2:x.item=(i:Int)
   · rw [if_pos hi2]; split <;> omega
   · rw [if_neg hi2]; split <;> omega
  ·
   have e:ordR b os c x=_:=(if_neg (by omega)).trans ((if_neg (by omega)).trans ((if_neg (by omega)).trans (if_pos k1)))
   have s1:=about0_7 ha k1
   rw [e] at ht; cases ht
   refine ⟨hF,x.item,-x.qty,by omega,fun i hi=>?_,.inr (.inr ⟨k1,by omega,rfl,_,rfl,rfl⟩)⟩
   have e1:hq (i:Int) (chgS x 3)=0:=hq_gt (o:=chgS x 3) (show (2:Int) < 3 by decide)
   have e2:hq (i:Int) x=if x.item=(i:Int) then x.qty else 0:=hq_le (by omega)
   simp only [heldW]
   rw [hold _ (chgS x 3) rfl,e1,e2]
   by_cases hi2:x.item=(i:Int)
   · rw [if_pos hi2,if_pos hi2.symm]; omega
   · rw [if_neg hi2,if_neg (fun h=>hi2 h.symm)]; omega
  ·
   have e:ordR b os c x=_:=(if_neg (by omega)).trans ((if_neg (by omega)).trans ((if_neg (by omega)).trans (if_neg (by omega))))
   obtain ⟨z0,z1⟩:=about0_8 ha k1
   rw [e] at ht; cases ht
   refine ⟨fairB_pu hF (by omega) (by omega) (by omega),0,0,by omega,fun i hi=>?_,.inl rfl⟩
   have e1:hq (i:Int) (chgS x 5)=0:=hq_gt (o:=chgS x 5) (show (2:Int) < 5 by decide)
   have e2:hq (i:Int) x=0:=hq_gt (by omega)
   simp only [heldW]
   rw [hold _ (chgS x 5) rfl,e1,e2]
   split <;> omega
theorem doW_fair {b d:Bk} {os ps:List Ord} {c:Chg} {l:List Eff} {r:Id} (hF:FairB b) (hO:FairO os) (h:doW b os c=.ok (d,ps,l,r)):FairB d/\FairO ps:=by
 refine ⟨(doW_keep hF hO h).1,?_⟩
 rcases doW_put hF hO h with rfl | ⟨x,rfl,_,hx,_⟩
 · exact hO
 · exact fairO_put hO hx
end Go.Proofs.YtjoaigccapegpaaGreat.AE
