/-
 Chapter 41: alive. Conditions: none; every contract names its own.
-/
import Derived.Test.YtfbooejaabdkoaaOOc12
import Derived.Test.YtfbooejaabdkoaaOOc9
set_option linter.constructorNameAsVariable false
namespace Go.Proofs.Ytfbooejaabdkoaa.AE
open Go Go.Proofs Go.RowKit
set_option linter.unusedVariables false
set_option linter.unusedSimpArgs false
set_option maxRecDepth 100000
set_option maxHeartbeats 4000000
def a41:Chg:={ zChg with id:=⟨0,1⟩,time:=1,kind:=2,a:=1,n:=4 }
def b41:Chg:={ zChg with id:=⟨0,2⟩,time:=2,kind:=2,a:=1,n:=5 }
theorem an41:cChg { id:={ rep:=zId.rep,seq:=1 },time:=1,kind:=2,a:=1,b:=zChg.b,n:=4,ref:=zChg.ref }=cChg a41:=rfl
theorem bn41:cChg { id:={ rep:=zId.rep,seq:=2 },time:=2,kind:=2,a:=1,b:=zChg.b,n:=5,ref:=zChg.ref }=cChg b41:=rfl
def c41:CutS:=ofS [a41]
theorem k41n:c41.n=1:=rfl
theorem k41k:c41.k.at 0=1:=by kernel_rfl
theorem k41o:c41.os=[]:=by kernel_rfl
theorem k41c:checkC c41=true:=by kernel_rfl
theorem k41l:(octs c41).length=202:=by rw [octs_len,k41o]; rfl
theorem k41p:(bkL (c41.b,[]) [b41]).1.pu.at 1=9:=by kernel_rfl
theorem f41:FairB c41.b/\FairO c41.os:=by
 have:=(bkL_fair (p:=(zBk,[])) fairZ [a41]).1
 exact this
theorem of41:cutOfS [.sl 9 (rows cChg [a41,b41]),.int .i64 1] []=some ⟨.tup [.agg (cCutS c41),.own (2,0) 1],[],[.row 39 9 (rows cChg [b41]) false]⟩:=by
 have:=cutOfS_at [a41,b41] 1 (by simp)
 rw [show cutK [a41,b41] 1=1 by rfl] at this
 exact this
theorem run41:cutRunS [.agg (cCutS c41),.sl 9 (rows cChg [b41])] []=some ⟨.tup [.agg (cBk (bkL (c41.b,[]) [b41]).1 (.sl 7 (rows cOrd (bkL (c41.b,[]) [b41]).2))),.own (2,0) 1],[],[.row 44 2 (rows cOc (ouL (c41.b,[]) [b41])) false]⟩:=by
 have:=cutRunS_at c41.n c41.k c41.b c41.os [b41] ⟨f41.1,f41.2,by rw [k41o]; simp⟩
 rw [k41o] at this
 rw [cCutS,k41o]
 exact this
theorem put41:cutPutS [.agg (cCutS c41)] []=some ⟨.tup [.sl 1 (rows cU8 (octs c41)),.int .i64 0],[],[]⟩:=by
 have:=cutPutS_at c41.n c41.k c41.b c41.os (by rw [k41o]; simp)
 rw [show octsL ⟨c41.n,c41.k,c41.b,c41.os⟩=octs c41 from if_pos k41c,show octsE ⟨c41.n,c41.k,c41.b,c41.os⟩=0 from if_pos k41c] at this
 exact this
theorem get41:cutGetS [.sl 1 (rows cU8 (octs c41))] []=some ⟨.tup [.agg (cCutS c41),.int .i64 0],[],[]⟩:=by
 have:=cutGetS_at (octs c41) ⟨by rw [k41l]; omega,octs_oct _⟩
 obtain ⟨h1,h2⟩:=getC_back k41c (CutI_fair f41.1 f41.2)
 rw [h2,show getE (octs c41)=0 from if_pos h1] at this
 exact this
theorem same41:cutSameS [.agg (cCutS c41),.agg (cCutS c41)] []=some ⟨.bool true,[],[]⟩:=by
 have:=cutSameS_at c41.n c41.k c41.b c41.os c41.n c41.k c41.b c41.os (by rw [k41o]; simp)
 simp only [sameB,decide_true,Bool.and_self,and_self] at this
 exact this
structure alive41X where
 u:Unit
noncomputable def alive41S:HSpec:=mkH (ι:=alive41X) (fun ⟨_⟩=>([],[])) fun ⟨_⟩=>⟨.bool true,[],[]⟩
theorem alive41S_atG:alive41S [] []=some (⟨.bool true,[],[]⟩):=
 mA_ (ι:=alive41X) (fun i j h=>by obtain ⟨_⟩:=i; obtain ⟨_⟩:=j; rfl) ⟨()⟩
theorem alive41S_at:alive41S [] []=some (⟨.bool true,[],[]⟩):=alive41S_atG
theorem alive41_ok:HSound Try.prog 24 alive41S:=by
 refine sE_ (fn:=Try.f24) rfl rfl (by kernel_rfl) fun args bx hr hS=>?_
 obtain ⟨⟨_⟩,rfl,rfl,rfl⟩:=mO_ hS
 clear hS
 refine ⟨_,(eV_ (g:=33) (by kernel_rfl) cutOf_ok (eV_ (g:=34) (by kernel_rfl) cutRun_ok (eV_ (g:=26) (by kernel_rfl) cutPut_ok (eV_ (g:=25) (by kernel_rfl) cutGet_ok (eV_ (g:=27) (by kernel_rfl) cutSame_ok (eN_ _)))))),by simp [Try.f24],by simp [go_sem],fun w Mx pin=>?_⟩
 simp only [hB_at,lab_nil,lab_cons,hOf_nil,hOf_cons]
 have w41:=k41o
 obtain ⟨C,hC⟩:∃ C,C=c41:=⟨_,rfl⟩
 have e1:=of41
 have e2:=run41
 have e3:=put41
 have e4:=get41
 have e5:=same41
 have e6:=k41n
 have e7:=k41k
 have e8:=k41l
 have e9:=k41p
 rw [<-hC] at e1 e2 e3 e4 e5 e6 e7 e8 e9 w41
 simp only [cCutS,w41,rows_nil] at e1 e2 e3 e4 e5
 rw [e6] at e5
 generalize hP:octs C=P at e3 e4 e8
 generalize hB:bkL (C.b,[]) [b41]=B at e2 e9
 have hOl:(ouL (C.b,[]) [b41]).length=1:=by rw [ouL_len]; rfl
 generalize hO:ouL (C.b,[]) [b41]=O at e2 hOl
 refine aQ_ ?_
 iterate 1
  refine oC_ fun J hJ=>?_
  simp [go_sem]
  refine hJ _ _ _ ?_
 refine oN_ ?_
 refine aQ_ ?_
 iterate 6
  refine oC_ fun J hJ=>?_
  simp [go_sem,an41,bn41]
  refine hJ _ _ _ ?_
 refine oN_ ?_
 refine aS_ fun K3 hK3=>?_
 refine aW_ (s':=⟨ofL [(1,.sl 9 (rows cChg [a41,b41]))],hOf []⟩) ?_ ?_
 · refine wO_ [] (by simp [go_sem]) ?_ ?_ <;> (simp [go_sem,dropped]; try rfl)
 refine aR_ ?_
 iterate 8
  refine oC_ fun J hJ=>?_
  simp [go_sem,↓e1]
  refine hJ _ _ _ ?_
 refine oN_ ?_
 refine hK3 _ ?_
 refine aS_ fun K4 hK4=>?_
 by_cases hz:B.2=[]
 all_goals
  refine aW_ (s':=⟨ofL [(2,.ref (0,32) 0),(3,.sl 9 (rows cChg [b41]))],hOf [((0,32),.obj (cCut C.n C.k C.b (.sl 7 [])))]⟩) ?_ ?_
  · refine wO_ [((0,32),some (0,32))] (by simp [go_sem]) ?_ ?_ <;> (simp [go_sem,dropped]; try rfl)
  refine aR_ ?_
  iterate 9
   refine oC_ fun J hJ=>?_
   simp [go_sem,↓e2,hz]
   refine hJ _ _ _ ?_
  refine oN_ ?_
  refine hK4 _ ?_
  refine aQ_ ?_
  iterate 7
   refine oC_ fun J hJ=>?_
   simp [go_sem,↓e3]
   refine hJ _ _ _ ?_
  refine oN_ ?_
  refine aQ_ ?_
  iterate 8
   refine oC_ fun J hJ=>?_
   simp [go_sem,↓e4]
   refine hJ _ _ _ ?_
  refine oN_ ?_
  refine aQ_ ?_
  iterate 44
   refine oC_ fun J hJ=>?_
   simp [go_sem,e6,e7,e8,e9,↓e5,hOl]
   refine hJ _ _ _ ?_
  refine oN_ ?_
  refine aE_ ?_
  refine fQ_ [] ?_
  simp [go_sem,Try.f24]
end Go.Proofs.Ytfbooejaabdkoaa.AE
