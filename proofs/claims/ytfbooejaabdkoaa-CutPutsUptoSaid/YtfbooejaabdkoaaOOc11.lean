/-
 Bookings, cuts alike, of any length: contracts. Conditions: none; every contract names its own.
-/
import Derived.Test.YtfbooejaabdkoaaOOc7
import Derived.Test.YtfbooejaabdkoaaPe
set_option linter.constructorNameAsVariable false
namespace Go.Proofs.Ytfbooejaabdkoaa.AE
open Go Go.Proofs Go.RowKit
set_option linter.unusedVariables false
set_option linter.unusedSimpArgs false
set_option maxRecDepth 100000
set_option maxHeartbeats 4000000
structure eqOrdNX where
 L:List Ord
 L':AV
 M:List Ord
 M':AV
 h_L:SlA 7 cOrd L L'
 h_M:SlA 7 cOrd M M'
 hL:L.length<=9223372036854775807
noncomputable def eqOrdNS:HSpec:=mkH (ι:=eqOrdNX) (fun ⟨L,L',M,M',h_L,h_M,hL⟩=>([L',M'],[])) fun ⟨L,L',M,M',h_L,h_M,hL⟩=>⟨.bool (decide (L=M)),[],[]⟩
theorem eqOrdNS_atG (L:List Ord) (L':AV) (M:List Ord) (M':AV) (h_L:SlA 7 cOrd L L') (h_M:SlA 7 cOrd M M') (hL:L.length<=9223372036854775807):eqOrdNS [L',M'] []=some (⟨.bool (decide (L=M)),[],[]⟩):=
 mA_ (ι:=eqOrdNX) (fun i j h=>by obtain ⟨L,L',M,M',h_L,h_M,hL⟩:=i; obtain ⟨L2,L'2,M2,M'2,h_L2,h_M2,hL2⟩:=j; simp [and_assoc,qB_,qI_,qO_,qC_,qE_,qK_,qR_,qV_,qP_,qOc_] at h; obtain ⟨rfl,rfl⟩:=h; obtain rfl:=SlA.inj (fun x y h=>cOrd_inj h) h_L h_L2; obtain rfl:=SlA.inj (fun x y h=>cOrd_inj h) h_M h_M2; rfl) ⟨L,L',M,M',h_L,h_M,hL⟩
theorem eqOrdNS_at (L:List Ord) (M:List Ord) (hL:L.length<=9223372036854775807):eqOrdNS [(.sl 7 (rows cOrd L)),(.sl 7 (rows cOrd M))] []=some (⟨.bool (decide (L=M)),[],[]⟩):=eqOrdNS_atG L _ M _ .sl .sl hL
def eqOrdNI (L M pre _post _q:List Ord):St:=⟨ofL [(0,.sl 7 (rows cOrd L)),(1,.sl 7 (rows cOrd M)),(12,.int .i64 L.length),(13,.int .i64 pre.length)],hOf []⟩
theorem eqOrdN_ok:HSound Try.prog 77 eqOrdNS:=by
 refine sE_ (fn:=Try.f77) rfl rfl (by kernel_rfl) fun args bx hr hS=>?_
 obtain ⟨⟨L,L',M,M',h_L,h_M,hL⟩,rfl,rfl,rfl⟩:=mO_ hS
 clear hS
 refine ⟨_,(eN_ _),by simp [Try.f77],by simp [go_sem],fun w Mx pin=>?_⟩
 simp only [hB_at,lab_nil,lab_cons,hOf_nil,hOf_cons]
 refine aW_ (s':=⟨ofL [(0,(.sl 7 (rows cOrd L))),(1,(.sl 7 (rows cOrd M)))],hOf []⟩) ?_ ?_
 · cases h_L <;> cases h_M <;> exact wO_ [] (by simp [go_sem]) (by simp [go_sem]) (by simp [go_sem])
 clear h_L h_M
 refine aQ_ ?_
 iterate 1
  refine oC_ fun J hJ=>?_
  simp [go_sem]
  refine hJ _ _ _ ?_
 refine oN_ ?_
 refine aS_ fun K2 hK2=>?_
 refine aQ_ ?_
 iterate 5
  refine oC_ fun J hJ=>?_
  simp [go_sem]
  refine hJ _ _ _ ?_
 refine oN_ ?_
 refine aC_ (t:=_) rfl (fun c4=>?_) (fun c4=>?_)
 ·
  simp [go_sem] at c4
  have hne:L ≠ M:=fun h=>c4 (by rw [h])
  refine aQ_ ?_
  iterate 1
   refine oC_ fun J hJ=>?_
   simp [go_sem]
   refine hJ _ _ _ ?_
  refine oN_ ?_
  refine aE_ ?_
  refine fQ_ [] ?_
  simp [go_sem,Try.f77,hne]
 ·
  simp [go_sem] at c4
  refine aK_ ?_
  refine hK2 _ ?_
  refine aS_ fun K6 hK6=>?_
  refine aQ_ ?_
  iterate 3
   refine oC_ fun J hJ=>?_
   simp [go_sem]
   refine hJ _ _ _ ?_
  refine oN_ ?_
  refine aB_ ?_
  refine aL_ (ι:={ q:List Ord × List Ord × List Ord // q.1++q.2.1=L/\q.1++q.2.2=M }) (fun q=>eqOrdNI L M q.1.1 q.1.2.1 q.1.2.2) (fun q=>q.1.2.1.length) ⟨([],L,M),rfl,rfl⟩ ?_ ?_
  · refine wO_ [] (by simp [go_sem]) ?_ ?_ <;> simp [go_sem]
  intro ⟨⟨pre,post,p2⟩,hl,hgo⟩
  simp only at hl hgo
  simp only [eqOrdNI]
  refine aQ_ ?_
  iterate 1
   refine oC_ fun J hJ=>?_
   simp [go_sem]
   refine hJ _ _ _ ?_
  refine oN_ ?_
  refine aS_ fun K9 hK9=>?_
  refine aC_ (t:=_) rfl (fun c10=>?_) (fun c10=>?_)
  ·
   simp [go_sem] at c10
   obtain ⟨x,post,rfl,hx⟩:=mL_ hl c10
   obtain ⟨y,p2,rfl,hy⟩:=mL_ hgo (by omega)
   refine aK_ ?_
   refine hK9 _ ?_
   refine aS_ fun K11 hK11=>?_
   refine aB_ ?_
   refine aQ_ ?_
   iterate 2
    refine oC_ fun J hJ=>?_
    simp [go_sem]
    refine hJ _ _ _ ?_
   refine oN_ ?_
   refine aU_ ?_
   iterate 9
    refine oC_ fun J hJ=>?_
    simp [go_sem,hx,hy]
    refine hJ _ _ _ ?_
   refine oN_ ?_
   refine ⟨rfl,?_⟩
   refine aC_ (t:=_) rfl (fun c14=>?_) (fun c14=>?_)
   ·
    refine aQ_ ?_
    iterate 1
     refine oC_ fun J hJ=>?_
     simp [go_sem]
     refine hJ _ _ _ ?_
    refine oN_ ?_
    refine aE_ ?_
    have hne:L ≠ M:=by
     rintro rfl
     rw [hx] at hy
     cases hy
     simp at c14
    refine fQ_ [] ?_
    simp [go_sem,Try.f77,hne]
   ·
    refine aK_ ?_
    refine hK11 _ ?_
    refine aR_ ?_
    iterate 2
     refine oC_ fun J hJ=>?_
     simp [go_sem]
     refine hJ _ _ _ ?_
    refine oN_ ?_
    obtain rfl:x=y:=by simpa using c14
    refine ⟨⟨(pre++[x],post,p2),by simp [<-hl],by rw [<-hgo]; simp⟩,?_,by simp⟩
    refine wO_ [] (by simp [go_sem]) ?_ ?_ <;> simp [go_sem,wrap_big hx hL]
  ·
   simp [go_sem] at c10
   obtain ⟨rfl,rfl⟩:=mN_ hl c10
   obtain rfl:p2=[]:=by have:=congrArg List.length hgo; simp at this; exact List.eq_nil_of_length_eq_zero (by omega)
   simp at hgo
   refine aX_ ?_
   simp only [go_sem]
   refine hK6 _ ?_
   refine aQ_ ?_
   iterate 1
    refine oC_ fun J hJ=>?_
    simp [go_sem]
    refine hJ _ _ _ ?_
   refine oN_ ?_
   refine aE_ ?_
   refine fQ_ [] ?_
   simp [go_sem,Try.f77,hgo]
structure sameNX where
 b:Bk
 os:List Ord
 os':AV
 d:Bk
 qs:List Ord
 qs':AV
 h_os:SlA 7 cOrd os os'
 h_qs:SlA 7 cOrd qs qs'
 hL:os.length<=9223372036854775807
noncomputable def sameNS:HSpec:=mkH (ι:=sameNX) (fun ⟨b,os,os',d,qs,qs',h_os,h_qs,hL⟩=>([.agg (cBk b os'),.agg (cBk d qs')],[])) fun ⟨b,os,os',d,qs,qs',h_os,h_qs,hL⟩=>⟨.bool (sameB b os d qs),[],[]⟩
theorem sameNS_atG (b:Bk) (os:List Ord) (os':AV) (d:Bk) (qs:List Ord) (qs':AV) (h_os:SlA 7 cOrd os os') (h_qs:SlA 7 cOrd qs qs') (hL:os.length<=9223372036854775807):sameNS [.agg (cBk b os'),.agg (cBk d qs')] []=some (⟨.bool (sameB b os d qs),[],[]⟩):=
 mA_ (ι:=sameNX) (fun i j h=>by obtain ⟨b,os,os',d,qs,qs',h_os,h_qs,hL⟩:=i; obtain ⟨b2,os2,os'2,d2,qs2,qs'2,h_os2,h_qs2,hL2⟩:=j; simp [and_assoc,qB_,qI_,qO_,qC_,qE_,qK_,qR_,qV_,qP_,qOc_,rows_iff_U8,cCut_eq_iff,Int.natCast_inj] at h; obtain ⟨rfl,rfl,rfl,rfl⟩:=h; obtain rfl:=SlA.inj (fun x y h=>cOrd_inj h) h_os h_os2; obtain rfl:=SlA.inj (fun x y h=>cOrd_inj h) h_qs h_qs2; rfl) ⟨b,os,os',d,qs,qs',h_os,h_qs,hL⟩
theorem sameNS_at (b:Bk) (os:List Ord) (d:Bk) (qs:List Ord) (hL:os.length<=9223372036854775807):sameNS [.agg (cBk b (.sl 7 (rows cOrd os))),.agg (cBk d (.sl 7 (rows cOrd qs)))] []=some (⟨.bool (sameB b os d qs),[],[]⟩):=sameNS_atG b os _ d qs _ .sl .sl hL
theorem sameN_ok:HSound Try.prog 52 sameNS:=by
 refine sE_ (fn:=Try.f52) rfl rfl (by kernel_rfl) fun args bx hr hS=>?_
 obtain ⟨⟨b,os,os',d,qs,qs',h_os,h_qs,hL⟩,rfl,rfl,rfl⟩:=mO_ hS
 clear hS
 refine ⟨_,(eV_ (g:=77) (by kernel_rfl) eqOrdN_ok (eN_ _)),by simp [Try.f52],by simp [go_sem],fun w Mx pin=>?_⟩
 simp only [hB_at,lab_nil,lab_cons,hOf_nil,hOf_cons]
 refine aW_ (s':=⟨ofL [(0,.agg (cBk b (.sl 7 (rows cOrd os)))),(1,.agg (cBk d (.sl 7 (rows cOrd qs))))],hOf []⟩) ?_ ?_
 · cases h_os <;> cases h_qs <;> exact wO_ [] (by simp [go_sem]) (by simp [go_sem]) (by simp [go_sem])
 clear h_os h_qs
 refine aQ_ ?_
 iterate 3
  refine oC_ fun J hJ=>?_
  simp [go_sem]
  refine hJ _ _ _ ?_
 refine oN_ ?_
 refine aS_ fun K2 hK2=>?_
 cases h1:decide (b.st=d.st) <;> cases h2:decide (b.pr=d.pr) <;> cases h3:decide (b.pu=d.pu)
 all_goals
  refine aR_ ?_
  iterate 27
   refine oC_ fun J hJ=>?_
   simp [go_sem,h1,h2,h3,eqOrdNS_at os qs hL]
   refine hJ _ _ _ ?_
  refine oN_ ?_
  refine hK2 _ ?_
  refine aE_ ?_
  refine fQ_ [] ?_
  simp at h1 h2 h3
  first
   | (have hbd:b=d:=Bk.ext_all ⟨h1,h2,h3⟩; simp [go_sem,Try.f52,sameB,hbd]; done)
   | (have hbd:b ≠ d:=(by rintro rfl; simp at h1 h2 h3); simp [go_sem,Try.f52,sameB,hbd]; done)
structure cutSameX where
 n:Int
 k:Vn 4
 b:Bk
 os:List Ord
 os':AV
 m:Int
 l:Vn 4
 d:Bk
 qs:List Ord
 qs':AV
 h_os:SlA 7 cOrd os os'
 h_qs:SlA 7 cOrd qs qs'
 hL:os.length<=9223372036854775807
noncomputable def cutSameS:HSpec:=mkH (ι:=cutSameX) (fun ⟨n,k,b,os,os',m,l,d,qs,qs',h_os,h_qs,hL⟩=>([.agg (cCut n k b os'),.agg (cCut m l d qs')],[])) fun ⟨n,k,b,os,os',m,l,d,qs,qs',h_os,h_qs,hL⟩=>⟨.bool (decide (n=m) && (decide (k=l) && sameB b os d qs)),[],[]⟩
theorem cutSameS_atG (n:Int) (k:Vn 4) (b:Bk) (os:List Ord) (os':AV) (m:Int) (l:Vn 4) (d:Bk) (qs:List Ord) (qs':AV) (h_os:SlA 7 cOrd os os') (h_qs:SlA 7 cOrd qs qs') (hL:os.length<=9223372036854775807):cutSameS [.agg (cCut n k b os'),.agg (cCut m l d qs')] []=some (⟨.bool (decide (n=m) && (decide (k=l) && sameB b os d qs)),[],[]⟩):=
 mA_ (ι:=cutSameX) (fun i j h=>by obtain ⟨n,k,b,os,os',m,l,d,qs,qs',h_os,h_qs,hL⟩:=i; obtain ⟨n2,k2,b2,os2,os'2,m2,l2,d2,qs2,qs'2,h_os2,h_qs2,hL2⟩:=j; simp [and_assoc,qB_,qI_,qO_,qC_,qE_,qK_,qR_,qV_,qP_,qOc_,rows_iff_U8,cCut_eq_iff,Int.natCast_inj] at h; obtain ⟨rfl,rfl,rfl,rfl,rfl,rfl,rfl,rfl⟩:=h; obtain rfl:=SlA.inj (fun x y h=>cOrd_inj h) h_os h_os2; obtain rfl:=SlA.inj (fun x y h=>cOrd_inj h) h_qs h_qs2; rfl) ⟨n,k,b,os,os',m,l,d,qs,qs',h_os,h_qs,hL⟩
theorem cutSameS_at (n:Int) (k:Vn 4) (b:Bk) (os:List Ord) (m:Int) (l:Vn 4) (d:Bk) (qs:List Ord) (hL:os.length<=9223372036854775807):cutSameS [.agg (cCut n k b (.sl 7 (rows cOrd os))),.agg (cCut m l d (.sl 7 (rows cOrd qs)))] []=some (⟨.bool (decide (n=m) && (decide (k=l) && sameB b os d qs)),[],[]⟩):=cutSameS_atG n k b os _ m l d qs _ .sl .sl hL
theorem cutSame_ok:HSound Try.prog 27 cutSameS:=by
 refine sE_ (fn:=Try.f27) rfl rfl (by kernel_rfl) fun args bx hr hS=>?_
 obtain ⟨⟨n,k,b,os,os',m,l,d,qs,qs',h_os,h_qs,hL⟩,rfl,rfl,rfl⟩:=mO_ hS
 clear hS
 refine ⟨_,(eV_ (g:=52) (by kernel_rfl) sameN_ok (eN_ _)),by simp [Try.f27],by simp [go_sem],fun w Mx pin=>?_⟩
 simp only [hB_at,lab_nil,lab_cons,hOf_nil,hOf_cons]
 refine aW_ (s':=⟨ofL [(0,.agg (cCut n k b (.sl 7 (rows cOrd os)))),(1,.agg (cCut m l d (.sl 7 (rows cOrd qs))))],hOf []⟩) ?_ ?_
 · cases h_os <;> cases h_qs <;> exact wO_ [] (by simp [go_sem]) (by simp [go_sem]) (by simp [go_sem])
 clear h_os h_qs
 refine aQ_ ?_
 iterate 3
  refine oC_ fun J hJ=>?_
  simp [go_sem]
  refine hJ _ _ _ ?_
 refine oN_ ?_
 refine aS_ fun K2 hK2=>?_
 cases h1:(n == m) <;> cases h2:decide (k=l)
 all_goals
  refine aR_ ?_
  iterate 20
   refine oC_ fun J hJ=>?_
   simp [go_sem,h1,h2,sameNS_at b os d qs hL]
   refine hJ _ _ _ ?_
  refine oN_ ?_
  refine hK2 _ ?_
  refine aE_ ?_
  refine fQ_ [] ?_
  simp at h1
  simp [go_sem,Try.f27,h1,h2]
end Go.Proofs.Ytfbooejaabdkoaa.AE
