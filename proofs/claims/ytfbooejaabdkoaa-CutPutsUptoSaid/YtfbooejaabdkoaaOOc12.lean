/-
 Cuts: More, Of, Run: contracts. Conditions: none; every contract names its own.
-/
import Derived.Test.YtfbooejaabdkoaaOOc10
import Derived.Test.YtfbooejaabdkoaaOOc11
import Derived.Test.YtfbooejaabdkoaaPj
import Derived.Test.YtfbooejaabdkoaaOCt0
set_option linter.constructorNameAsVariable false
namespace Go.Proofs.Ytfbooejaabdkoaa.AE
open Go Go.Proofs Go.RowKit
set_option linter.unusedVariables false
set_option linter.unusedSimpArgs false
set_option maxRecDepth 100000
set_option maxHeartbeats 4000000
theorem CutI_fair {n:Int} {k:Vn 4} {b:Bk} {os:List Ord} (h:FairB b) (h2:FairO os):CutI ⟨n,k,b,os⟩:=by
 refine ⟨fun i hi=>?_,fun i hi=>?_,fun i hi=>?_,fun o ho=>?_⟩
 · have:=h i hi; simp only [I64n]; omega
 · have:=h i hi; simp only [I64n]; omega
 · have:=h i hi; simp only [I64n]; omega
 · have:=h2 o ho; simp only [I64n]; omega
def ofS (l:List Chg):CutS:=⟨l.length,joinK (zV 4) (vecG l (zV 4)) 4,(bkL (zBk,[]) l).1,(bkL (zBk,[]) l).2⟩
def cutK (l:List Chg) (i:Int):Nat:=(clampI i 0 l.length).toNat
theorem cutK_le (l:List Chg) (i:Int):clampI i 0 l.length=(cutK l i:Int)/\cutK l i<=l.length:=by
 unfold cutK clampI
 split
 · simp
 · split <;> constructor <;> omega
structure moreX where
 n:Int
 k:Vn 4
 b:Bk
 os:List Ord
 os':AV
 L:List Chg
 L':AV
 h_os:SlA 7 cOrd os os'
 h_L:SlA 9 cChg L L'
 hL:FairB b/\FairO os/\os.length + L.length<=30000
noncomputable def moreS:HSpec:=mkH (ι:=moreX) (fun ⟨n,k,b,os,os',L,L',h_os,h_L,hL⟩=>([.agg (cCut n k b os'),L'],[])) fun ⟨n,k,b,os,os',L,L',h_os,h_L,hL⟩=>⟨.agg (cCut (IntKind.i64.wrap (n + (L.length:Int))) (joinK k (vecG L (zV 4)) 4) (bkL (b,os) L).1 (.sl 7 (rows cOrd (bkL (b,os) L).2))),[],[]⟩
theorem moreS_atG (n:Int) (k:Vn 4) (b:Bk) (os:List Ord) (os':AV) (L:List Chg) (L':AV) (h_os:SlA 7 cOrd os os') (h_L:SlA 9 cChg L L') (hL:FairB b/\FairO os/\os.length + L.length<=30000):moreS [.agg (cCut n k b os'),L'] []=some (⟨.agg (cCut (IntKind.i64.wrap (n + (L.length:Int))) (joinK k (vecG L (zV 4)) 4) (bkL (b,os) L).1 (.sl 7 (rows cOrd (bkL (b,os) L).2))),[],[]⟩):=
 mA_ (ι:=moreX) (fun i j h=>by obtain ⟨n,k,b,os,os',L,L',h_os,h_L,hL⟩:=i; obtain ⟨n2,k2,b2,os2,os'2,L2,L'2,h_os2,h_L2,hL2⟩:=j; simp [and_assoc,qB_,qI_,qO_,qC_,qE_,qK_,qR_,qV_,qP_,qOc_,rows_iff_U8,cCut_eq_iff,Int.natCast_inj] at h; obtain ⟨rfl,rfl,rfl,rfl,rfl⟩:=h; obtain rfl:=SlA.inj (fun x y h=>cOrd_inj h) h_os h_os2; obtain rfl:=SlA.inj (fun x y h=>cChg_inj h) h_L h_L2; rfl) ⟨n,k,b,os,os',L,L',h_os,h_L,hL⟩
theorem more_ok:HSound Try.prog 38 moreS:=by
 refine sE_ (fn:=Try.f38) rfl rfl (by kernel_rfl) fun args bx hr hS=>?_
 obtain ⟨⟨n,k,b,os,os',L,L',h_os,h_L,hL⟩,rfl,rfl,rfl⟩:=mO_ hS
 clear hS
 refine ⟨_,(eV_ (g:=62) (by kernel_rfl) vof_ok (eV_ (g:=61) (by kernel_rfl) vjoin_ok (eV_ (g:=63) (by kernel_rfl) lastF_ok (eN_ _)))),by simp [Try.f38],by simp [go_sem],fun w Mx pin=>?_⟩
 simp only [hB_at,lab_nil,lab_cons,hOf_nil,hOf_cons]
 refine aW_ (s':=⟨ofL [(0,.agg (cCut n k b (.sl 7 (rows cOrd os)))),(1,(.sl 9 (rows cChg L)))],hOf []⟩) ?_ ?_
 · cases h_os <;> cases h_L <;> exact wO_ [] (by simp [go_sem]) (by simp [go_sem]) (by simp [go_sem])
 clear h_os h_L
 refine aQ_ ?_
 iterate 2
  refine oC_ fun J hJ=>?_
  simp [go_sem]
  refine hJ _ _ _ ?_
 refine oN_ ?_
 refine aS_ fun K2 hK2=>?_
 by_cases hz:(bkL (b,os) L).2=[]
 all_goals
  refine aD_ ?_
  iterate 16
   refine oC_ fun J hJ=>?_
   simp [go_sem,vofS_at L (by omega),vjoinS_at,lastFS_at b os L hL,hz]
   refine hJ _ _ _ ?_
  refine oN_ ?_
  refine ⟨rfl,?_⟩
  refine hK2 _ ?_
  refine aE_ ?_
  refine fQ_ [] ?_
  simp [go_sem,Try.f38,hz]
theorem more_z (L:List Chg) (h:L.length<=20000):moreS [.agg (cCut 0 (zV 4) zBk .nils),.sl 9 (rows cChg L)] []=some ⟨.agg (cCutS (ofS L)),[],[]⟩:=by
 have:=moreS_atG 0 (zV 4) zBk [] .nils L _ .nil .sl ⟨fairZ.1,fairZ.2,by simp; omega⟩
 rw [show IntKind.i64.wrap (0 + (L.length:Int))=(L.length:Int) by rw [Int.zero_add]; exact wA_ (by omega)] at this
 exact this
structure cutOfX where
 l:List Chg
 l':AV
 i:Int
 h_l:SlA 9 cChg l l'
 hL:l.length<=20000
noncomputable def cutOfS:HSpec:=mkH (ι:=cutOfX) (fun ⟨l,l',i,h_l,hL⟩=>([l',.int .i64 i],[])) fun ⟨l,l',i,h_l,hL⟩=>⟨.tup [.agg (cCutS (ofS (l.take (cutK l i)))),.own (2,0) (l.drop (cutK l i)).length],[],[.row 39 9 (rows cChg (l.drop (cutK l i))) false]⟩
theorem cutOfS_atG (l:List Chg) (l':AV) (i:Int) (h_l:SlA 9 cChg l l') (hL:l.length<=20000):cutOfS [l',.int .i64 i] []=some (⟨.tup [.agg (cCutS (ofS (l.take (cutK l i)))),.own (2,0) (l.drop (cutK l i)).length],[],[.row 39 9 (rows cChg (l.drop (cutK l i))) false]⟩):=
 mA_ (ι:=cutOfX) (fun i j h=>by obtain ⟨l,l',i,h_l,hL⟩:=i; obtain ⟨l2,l'2,i2,h_l2,hL2⟩:=j; simp [and_assoc,qB_,qI_,qO_,qC_,qE_,qK_,qR_,qV_,qP_,qOc_,rows_iff_U8,cCut_eq_iff,Int.natCast_inj] at h; obtain ⟨rfl,rfl⟩:=h; obtain rfl:=SlA.inj (fun x y h=>cChg_inj h) h_l h_l2; rfl) ⟨l,l',i,h_l,hL⟩
theorem cutOfS_at (l:List Chg) (i:Int) (hL:l.length<=20000):cutOfS [(.sl 9 (rows cChg l)),.int .i64 i] []=some (⟨.tup [.agg (cCutS (ofS (l.take (cutK l i)))),.own (2,0) (l.drop (cutK l i)).length],[],[.row 39 9 (rows cChg (l.drop (cutK l i))) false]⟩):=cutOfS_atG l _ i .sl hL
theorem cutOf_ok:HSound Try.prog 33 cutOfS:=by
 refine sE_ (fn:=Try.f33) rfl rfl (by kernel_rfl) fun args bx hr hS=>?_
 obtain ⟨⟨l,l',i,h_l,hL⟩,rfl,rfl,rfl⟩:=mO_ hS
 clear hS
 refine ⟨_,(eV_ (g:=60) (by kernel_rfl) clampP_ok (eV_ (g:=38) (by kernel_rfl) more_ok (eN_ _))),by simp [Try.f33],by simp [go_sem],fun w Mx pin=>?_⟩
 simp only [hB_at,lab_nil,lab_cons,hOf_nil,hOf_cons]
 refine aW_ (s':=⟨ofL [(0,(.sl 9 (rows cChg l))),(1,.int .i64 i)],hOf []⟩) ?_ ?_
 · cases h_l <;> exact wO_ [] (by simp [go_sem]) (by simp [go_sem]) (by simp [go_sem])
 clear h_l
 obtain ⟨hk1,hk2⟩:=cutK_le l i
 generalize cutK l i=k at hk1 hk2
 have hm:=more_z (l.take k) (by simp; omega)
 obtain ⟨D,hD⟩:∃ D,D=ofS (l.take k):=⟨_,rfl⟩
 rw [<-hD] at hm
 refine aQ_ ?_
 iterate 2
  refine oC_ fun J hJ=>?_
  simp [go_sem]
  refine hJ _ _ _ ?_
 refine oN_ ?_
 refine aQ_ ?_
 iterate 5
  refine oC_ fun J hJ=>?_
  simp [go_sem,clampPS_at i 0 (l.length:Int),hk1]
  refine hJ _ _ _ ?_
 refine oN_ ?_
 refine aS_ fun K3 hK3=>?_
 by_cases hz:D.os=[]
 all_goals
  refine aD_ ?_
  iterate 12
   refine oC_ fun J hJ=>?_
   simp [go_sem,hk2,↓hm,cCutS,hz,show (l.length - k) * 72<=140737488355328 by omega,show l.length - k<=maxLen by (simp only [maxLen]; omega)]
   refine hJ _ _ _ ?_
  refine oN_ ?_
  refine ⟨rfl,?_⟩
  refine hK3 _ ?_
  refine aE_ ?_
  refine fQ_ [((2,0),some (0,304))] ?_
  simp [go_sem,Try.f33,<-hD,cCutS,hz]
structure cutRunX where
 n:Int
 k:Vn 4
 b:Bk
 os:List Ord
 os':AV
 L:List Chg
 L':AV
 h_os:SlA 7 cOrd os os'
 h_L:SlA 9 cChg L L'
 hL:FairB b/\FairO os/\os.length + L.length<=30000
noncomputable def cutRunS:HSpec:=mkH (ι:=cutRunX) (fun ⟨n,k,b,os,os',L,L',h_os,h_L,hL⟩=>([.agg (cCut n k b os'),L'],[])) fun ⟨n,k,b,os,os',L,L',h_os,h_L,hL⟩=>⟨.tup [.agg (cBk (bkL (b,os) L).1 (.sl 7 (rows cOrd (bkL (b,os) L).2))),.own (2,0) L.length],[],[.row 44 2 (rows cOc (ouL (b,os) L)) false]⟩
theorem cutRunS_atG (n:Int) (k:Vn 4) (b:Bk) (os:List Ord) (os':AV) (L:List Chg) (L':AV) (h_os:SlA 7 cOrd os os') (h_L:SlA 9 cChg L L') (hL:FairB b/\FairO os/\os.length + L.length<=30000):cutRunS [.agg (cCut n k b os'),L'] []=some (⟨.tup [.agg (cBk (bkL (b,os) L).1 (.sl 7 (rows cOrd (bkL (b,os) L).2))),.own (2,0) L.length],[],[.row 44 2 (rows cOc (ouL (b,os) L)) false]⟩):=
 mA_ (ι:=cutRunX) (fun i j h=>by obtain ⟨n,k,b,os,os',L,L',h_os,h_L,hL⟩:=i; obtain ⟨n2,k2,b2,os2,os'2,L2,L'2,h_os2,h_L2,hL2⟩:=j; simp [and_assoc,qB_,qI_,qO_,qC_,qE_,qK_,qR_,qV_,qP_,qOc_,rows_iff_U8,cCut_eq_iff,Int.natCast_inj] at h; obtain ⟨rfl,rfl,rfl,rfl,rfl⟩:=h; obtain rfl:=SlA.inj (fun x y h=>cOrd_inj h) h_os h_os2; obtain rfl:=SlA.inj (fun x y h=>cChg_inj h) h_L h_L2; rfl) ⟨n,k,b,os,os',L,L',h_os,h_L,hL⟩
theorem cutRunS_at (n:Int) (k:Vn 4) (b:Bk) (os:List Ord) (L:List Chg) (hL:FairB b/\FairO os/\os.length + L.length<=30000):cutRunS [.agg (cCut n k b (.sl 7 (rows cOrd os))),(.sl 9 (rows cChg L))] []=some (⟨.tup [.agg (cBk (bkL (b,os) L).1 (.sl 7 (rows cOrd (bkL (b,os) L).2))),.own (2,0) L.length],[],[.row 44 2 (rows cOc (ouL (b,os) L)) false]⟩):=cutRunS_atG n k b os _ L _ .sl .sl hL
theorem cutRun_ok:HSound Try.prog 34 cutRunS:=by
 refine sE_ (fn:=Try.f34) rfl rfl (by kernel_rfl) fun args bx hr hS=>?_
 obtain ⟨⟨n,k,b,os,os',L,L',h_os,h_L,hL⟩,rfl,rfl,rfl⟩:=mO_ hS
 clear hS
 refine ⟨_,(eV_ (g:=39) (by kernel_rfl) runF_ok (eN_ _)),by simp [Try.f34],by simp [go_sem],fun w Mx pin=>?_⟩
 simp only [hB_at,lab_nil,lab_cons,hOf_nil,hOf_cons]
 refine aW_ (s':=⟨ofL [(0,.agg (cCut n k b (.sl 7 (rows cOrd os)))),(1,(.sl 9 (rows cChg L)))],hOf []⟩) ?_ ?_
 · cases h_os <;> cases h_L <;> exact wO_ [] (by simp [go_sem]) (by simp [go_sem]) (by simp [go_sem])
 clear h_os h_L
 refine aQ_ ?_
 iterate 3
  refine oC_ fun J hJ=>?_
  simp [go_sem]
  refine hJ _ _ _ ?_
 refine oN_ ?_
 refine aQ_ ?_
 iterate 8
  refine oC_ fun J hJ=>?_
  simp [go_sem,runFS_at b os L hL]
  refine hJ _ _ _ ?_
 refine oN_ ?_
 refine aE_ ?_
 refine fQ_ [((2,0),some (0,144))] ?_
 simp [go_sem,Try.f34]
end Go.Proofs.Ytfbooejaabdkoaa.AE
