/-
 CutRuns. Conditions: none; every contract names its own.
-/
import Derived.Test.YtfbooejaabdkoaaOAl41
import Derived.Test.YtfbooejaabdkoaaOCt1
import Derived.Test.YtfbooejaabdkoaaPj
import Derived.Test.YtfbooejaabdkoaaPg
set_option linter.constructorNameAsVariable false
namespace Go.Proofs.Ytfbooejaabdkoaa.AE
open Go Go.Proofs Go.RowKit
set_option linter.unusedVariables false
set_option linter.unusedSimpArgs false
set_option maxRecDepth 100000
set_option maxHeartbeats 4000000
theorem sameB_41 (b:Bk) (os:List Ord):sameB b os b os=true:=by simp [sameB]
theorem runRZ_41 (L:List Chg) (h:L.length<=20000):runRS [.agg (cBk zBk .nils),.sl 9 (rows cChg L)] []=some ⟨.tup [.agg (cBk (bkL (zBk,[]) L).1 (.sl 7 (rows cOrd (bkL (zBk,[]) L).2))),.own (2,0) L.length],[],[.row 44 2 (rows cOc (ouL (zBk,[]) L)) false]⟩:=runRS_atG zBk [] .nils L _ .nil .sl ⟨fairZ.1,fairZ.2,by simp; omega⟩
theorem cutRun_of (A B:List Chg) (h:A.length + B.length<=20000):cutRunS [.agg (cCutS (ofS A)),.sl 9 (rows cChg B)] []=some ⟨.tup [.agg (cBk (bkL (zBk,[]) (A++B)).1 (.sl 7 (rows cOrd (bkL (zBk,[]) (A++B)).2))),.own (2,0) B.length],[],[.row 44 2 (rows cOc ((ouL (zBk,[]) (A++B)).drop A.length)) false]⟩:=by
 obtain ⟨h1,h2,h3⟩:=ofS_fair A
 have:=cutRunS_at (ofS A).n (ofS A).k (ofS A).b (ofS A).os B ⟨h1,h2,by omega⟩
 rw [show bkL ((ofS A).b,(ofS A).os) B=bkL (zBk,[]) (A++B) from (bkL_append (zBk,[]) A B).symm] at this
 rw [show ouL ((ofS A).b,(ofS A).os) B=(ouL (zBk,[]) (A++B)).drop A.length by
  rw [ouL_append,List.drop_append_of_le_length (by rw [ouL_len]; exact Nat.le_refl _),List.drop_eq_nil_of_le (by rw [ouL_len]; exact Nat.le_refl _)]; rfl] at this
 exact this
structure cutRunsX where
 l:List Chg
 l':AV
 n:Int
 k:Int
 h_l:SlA 9 cChg l l'
noncomputable def cutRunsS:HSpec:=mkH (ι:=cutRunsX) (fun ⟨l,l',n,k,h_l⟩=>([l',.int .i64 n,.int .i64 k],[])) fun ⟨l,l',n,k,h_l⟩=>⟨.bool true,[],[]⟩
theorem cutRunsS_atG (l:List Chg) (l':AV) (n:Int) (k:Int) (h_l:SlA 9 cChg l l'):cutRunsS [l',.int .i64 n,.int .i64 k] []=some (⟨.bool true,[],[]⟩):=
 mA_ (ι:=cutRunsX) (fun i j h=>by obtain ⟨l,l',n,k,h_l⟩:=i; obtain ⟨l2,l'2,n2,k2,h_l2⟩:=j; simp [and_assoc,qB_,qI_,qO_,qC_,qE_,qK_,qR_,qV_,qP_,qOc_] at h; obtain ⟨rfl,rfl,rfl⟩:=h; obtain rfl:=SlA.inj (fun x y h=>cChg_inj h) h_l h_l2; rfl) ⟨l,l',n,k,h_l⟩
theorem cutRunsS_at (l:List Chg) (n:Int) (k:Int):cutRunsS [(.sl 9 (rows cChg l)),.int .i64 n,.int .i64 k] []=some (⟨.bool true,[],[]⟩):=cutRunsS_atG l _ n k .sl
theorem cutRuns_ok:HSound Try.prog 7 cutRunsS:=by
 refine sE_ (fn:=Try.f7) rfl rfl (by kernel_rfl) fun args bx hr hS=>?_
 obtain ⟨⟨l,l',n,k,h_l⟩,rfl,rfl,rfl⟩:=mO_ hS
 clear hS
 refine ⟨_,(eV_ (g:=24) (by kernel_rfl) alive41_ok (eV_ (g:=31) (by kernel_rfl) few41_ok (eV_ (g:=32) (by kernel_rfl) nearP_ok (eV_ (g:=33) (by kernel_rfl) cutOf_ok (eV_ (g:=34) (by kernel_rfl) cutRun_ok (eV_ (g:=13) (by kernel_rfl) runR_ok (eV_ (g:=35) (by kernel_rfl) plChg_ok (eV_ (g:=36) (by kernel_rfl) plBookN_ok (eV_ (g:=37) (by kernel_rfl) plOcsB_ok (eV_ (g:=38) (by kernel_rfl) more_ok (eV_ (g:=27) (by kernel_rfl) cutSame_ok (eN_ _)))))))))))),by simp [Try.f7],by simp [go_sem],fun w Mx pin=>?_⟩
 simp only [hB_at,lab_nil,lab_cons,hOf_nil,hOf_cons]
 refine aW_ (s':=⟨ofL [(0,(.sl 9 (rows cChg l))),(1,.int .i64 n),(2,.int .i64 k)],hOf []⟩) ?_ ?_
 · cases h_l <;> exact wO_ [] (by simp [go_sem]) (by simp [go_sem]) (by simp [go_sem])
 clear h_l
 obtain ⟨L,hL0⟩:∃ L,L=l.take 40:=⟨_,rfl⟩
 have hL40:L.length<=40:=by rw [hL0]; simp; omega
 obtain ⟨hN1,hN2⟩:=cutK_le L n
 have hN3:=cutK_nat L _ hN2
 generalize cutK L n=N at hN1 hN2 hN3
 have hAB:L.take N++L.drop N=L:=List.take_append_drop N L
 have hAl:(L.take N).length=N:=by simp; omega
 obtain ⟨hq1,hq2⟩:=cutK_le (L.drop N) k
 generalize cutK (L.drop N) k=K0 at hq1 hq2
 have hdl:(L.drop N).length=L.length - N:=by simp
 rw [hdl] at hq1 hq2
 have hNK:N + K0<=L.length:=by omega
 have hq3:=cutK_nat L _ hNK
 have c1:=cutOfS_at L (N:Int) (by omega)
 rw [hN3] at c1
 have c2:=cutRun_of (L.take N) (L.drop N) (by omega)
 rw [hAB,hAl] at c2
 have c3:=runRZ_41 L (by omega)
 have c4:=cutOfS_at L ((N + K0:Nat):Int) (by omega)
 rw [hq3,Int.natCast_add] at c4
 have c5:=more_of (L.take N) ((L.drop N).take K0) (by simp; omega)
 rw [show L.take N++(L.drop N).take K0=L.take (N + K0) from List.take_add.symm] at c5
 have hwk:IntKind.i64.wrap ((N:Int) + (K0:Int))=(N:Int) + (K0:Int):=wA_ (by omega)
 have hn:(ofS (L.take N)).n=(N:Int):=by show ((L.take N).length:Int)=N; rw [hAl]
 have hdos:(ofS (L.take (N + K0))).os.length<=40:=by have:=(ofS_fair (L.take (N + K0))).2.2; simp at this; omega
 have hobig:=effsBig_ou (zBk,[]) fairZ L
 have hol:=ouL_len (zBk,[]) L
 generalize hC:ofS (L.take N)=C at c1 c2 c5 hn
 generalize hD:ofS (L.take (N + K0))=D at c4 c5 hdos
 generalize hO:ouL (zBk,[]) L=O at c2 c3 hobig hol
 have hbl:(bkL (zBk,[]) L).2.length<=40:=by have:=(bkL_fair (p:=(zBk,[])) fairZ L).2; simp at this; omega
 generalize hB:bkL (zBk,[]) L=B at c2 c3 hbl
 have hdt:List.take (L.length - N) (L.drop N)=L.drop N:=List.take_of_length_le (by omega)
 have hdt2:List.take L.length O=O:=List.take_of_length_le (by omega)
 have hdt3:List.take (L.length - N) (O.drop N)=O.drop N:=List.take_of_length_le (by simp; omega)
 simp only [cCutS] at c1 c2 c4 c5
 rw [hn] at c5
 have p1:=plChgS_at (L.drop N) (L.drop N) (by omega)
 have p2:=plBookNS_at B.1 B.2 B.1 B.2 (by omega)
 have p3:=plOcsBS_at (O.drop N) (O.drop N) ⟨by simp; omega,fun x hx=>hobig x (List.mem_of_mem_drop hx)⟩
 rw [sameB_41] at p2
 simp only [decide_true] at p1 p3
 have p4:=cutSameS_at D.n D.k D.b D.os D.n D.k D.b D.os (by omega)
 rw [sameB_41] at p4
 simp only [decide_true,Bool.and_self] at p4
 have hNO:N<=O.length:=by omega
 refine aQ_ ?_
 iterate 1
  refine oC_ fun J hJ=>?_
  simp [go_sem]
  refine hJ _ _ _ ?_
 refine oN_ ?_
 refine aS_ fun K2 hK2=>?_
 refine aQ_ ?_
 iterate 2
  refine oC_ fun J hJ=>?_
  simp [go_sem,alive41S_at]
  refine hJ _ _ _ ?_
 refine oN_ ?_
 refine aF_ rfl ?_
 refine aK_ ?_
 refine hK2 _ ?_
 refine aQ_ ?_
 iterate 3
  refine oC_ fun J hJ=>?_
  simp [go_sem,few41S_at l,<-hL0]
  refine hJ _ _ _ ?_
 refine oN_ ?_
 refine aQ_ ?_
 iterate 5
  refine oC_ fun J hJ=>?_
  simp [go_sem,nearPS_at n 0 (L.length:Int),hN1]
  refine hJ _ _ _ ?_
 refine oN_ ?_
 refine aQ_ ?_
 iterate 9
  refine oC_ fun J hJ=>?_
  simp [go_sem,↓c1]
  refine hJ _ _ _ ?_
 refine oN_ ?_
 refine aS_ fun K9 hK9=>?_
 refine aW_ (s':=⟨ofL [(0,.sl 9 (rows cChg L)),(1,.int .i64 N),(2,.int .i64 k),(7,.ref (0,112) 0),(8,.sl 9 (rows cChg (L.drop N)))],hOf [((0,112),.obj (cCut C.n C.k C.b (.sl 7 (rows cOrd C.os))))]⟩) ?_ ?_
 · refine wO_ [((0,112),some (0,112))] (by simp [go_sem]) ?_ ?_ <;> (simp [go_sem,dropped,cCutS,hdt,hdl]; try rfl)
 refine aR_ ?_
 iterate 9
  refine oC_ fun J hJ=>?_
  simp [go_sem,↓c2]
  refine hJ _ _ _ ?_
 refine oN_ ?_
 refine hK9 _ ?_
 refine aQ_ ?_
 iterate 9
  refine oC_ fun J hJ=>?_
  simp [go_sem,↓c3]
  refine hJ _ _ _ ?_
 refine oN_ ?_
 refine aS_ fun K11 hK11=>?_
 refine aS_ fun K12 hK12=>?_
 refine aW_ (s':=⟨ofL [(0,.sl 9 (rows cChg L)),(1,.int .i64 N),(2,.int .i64 k),(7,.ref (0,112) 0),(8,.sl 9 (rows cChg (L.drop N))),(9,.ref (0,144) 0),(10,.sl 2 (rows cOc (O.drop N))),(11,.ref (0,176) 0),(12,.sl 2 (rows cOc O))],hOf [((0,112),.obj (cCut C.n C.k C.b (.sl 7 (rows cOrd C.os)))),((0,144),.obj (cBk B.1 (.sl 7 (rows cOrd B.2)))),((0,176),.obj (cBk B.1 (.sl 7 (rows cOrd B.2))))]⟩) ?_ ?_
 · refine wO_ [((0,112),some (0,112)),((0,144),some (0,144)),((0,176),some (0,176))] (by simp [go_sem]) ?_ ?_ <;> (simp [go_sem,dropped,cCutS,hol,hdt2,hdt3]; try rfl)
 refine aR_ ?_
 iterate 26
  refine oC_ fun J hJ=>?_
  simp [go_sem,cCutS,hn,hN2,hNO,↓p1,↓p2,↓p3]
  refine hJ _ _ _ ?_
 refine oN_ ?_
 refine hK12 _ ?_
 refine aF_ rfl ?_
 refine aK_ ?_
 refine hK11 _ ?_
 refine aQ_ ?_
 iterate 5
  refine oC_ fun J hJ=>?_
  simp [go_sem,nearPS_at k 0 ((L.length - N:Nat):Int),hq1]
  refine hJ _ _ _ ?_
 refine oN_ ?_
 refine aQ_ ?_
 iterate 11
  refine oC_ fun J hJ=>?_
  simp [go_sem,hwk,↓c4]
  refine hJ _ _ _ ?_
 refine oN_ ?_
 refine aU_ ?_
 iterate 8
  refine oC_ fun J hJ=>?_
  simp [go_sem,hq2,↓c5,↓p4]
  refine hJ _ _ _ ?_
 refine oN_ ?_
 refine ⟨rfl,?_⟩
 refine aE_ ?_
 refine fQ_ [] ?_
 simp [go_sem,Try.f7]
theorem CutRuns_walk (w:World) (a0:Option Addr) (c0:Nat) (L0:List (List Int)) (h0:L0.length<=c0) (m0:c0<=maxLen) (s0:SlK w.heap.size 9 w a0 L0) (i1:Int) (_:I64 i1) (i2:Int) (_:I64 i2) :
  Calls Try.prog 7 #[.slice a0 L0.length c0,.int .i64 i1,.int .i64 i2] w fun e w'=>e=.returned (.bool true)/\Below w.heap.size w w':=by
 obtain ⟨os0,e0,r0⟩:=slk_rows ex_Chg s0 h0 m0
 refine true_walk cutRuns_ok (cutRunsS_at os0 i1 i2) w rfl fun i v hi=>?_
 match i,hi with
 | 0,hi=>cases hi; exact r0
 | 1,hi=>cases hi; exact (.int _ _ _)
 | 2,hi=>cases hi; exact (.int _ _ _)
end Go.Proofs.Ytfbooejaabdkoaa.AE
