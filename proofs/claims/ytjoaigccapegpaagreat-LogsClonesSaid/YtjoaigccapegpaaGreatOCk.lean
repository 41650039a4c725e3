/-
 Whether a change may be: contracts. Conditions: none; every contract names its own.
-/
import Derived.Test.YtjoaigccapegpaaGreatOFt
set_option linter.constructorNameAsVariable false
namespace Go.Proofs.YtjoaigccapegpaaGreat.AE
open Go Go.Proofs Go.RowKit
set_option linter.unusedVariables false
set_option linter.unusedSimpArgs false
set_option maxRecDepth 100000
set_option maxHeartbeats 4000000
def smallB (x:Int):Bool:=decide (0<=x/\x<=255)
def checkB (c:Chg):Bool:=mayI c.id && (decide (1<=c.time/\c.time<=1073741824) && (smallB c.kind && (smallB c.a && (smallB c.b && (smallB c.ref.rep && decide (0<=c.ref.seq/\c.ref.seq<=65535))))))
def nth4 (c:Chg):Nat->Int
 | 0=>c.kind
 | 1=>c.a
 | 2=>c.b
 | _=>c.ref.rep
def fourB (c:Chg):Nat->Bool
 | 0=>true
 | i + 1=>fourB c i && smallB (nth4 c i)
theorem fourB_1 (c:Chg):fourB c 1=(fourB c 0 && smallB c.kind):=rfl
theorem fourB_2 (c:Chg):fourB c 2=(fourB c 1 && smallB c.a):=rfl
theorem fourB_3 (c:Chg):fourB c 3=(fourB c 2 && smallB c.b):=rfl
theorem fourB_4 (c:Chg):fourB c 4=(fourB c 3 && smallB c.ref.rep):=rfl
theorem check_four (c:Chg):checkB c=(fourB c 4 && (mayI c.id && (decide (1<=c.time/\c.time<=1073741824) && decide (0<=c.ref.seq/\c.ref.seq<=65535)))):=by
 simp only [checkB,fourB,nth4]
 cases mayI c.id <;> cases decide (1<=c.time/\c.time<=1073741824) <;> cases smallB c.kind <;> cases smallB c.a <;> cases smallB c.b <;> cases smallB c.ref.rep <;> cases decide (0<=c.ref.seq/\c.ref.seq<=65535) <;> rfl
def kV (c:Chg):Vn 4:=((((zV 4).put 0 c.kind).put 1 c.a).put 2 c.b).put 3 c.ref.rep
theorem kV_0 (c:Chg):(kV c).at 0=c.kind:=by simp [kV,AE.put_at]
theorem kV_1 (c:Chg):(kV c).at 1=c.a:=by simp [kV,AE.put_at]
theorem kV_2 (c:Chg):(kV c).at 2=c.b:=by simp [kV,AE.put_at]
theorem kV_3 (c:Chg):(kV c).at 3=c.ref.rep:=by simp [kV,AE.put_at]
def chkI (c:Chg) (i:Nat):St:=⟨ofL [(1,.ref (0,16) 0),(3,.bool (fourB c i)),(15,.agg (cV (kV c))),(16,.int .i64 i)],hOf [((0,16),.obj (cChg c))]⟩
theorem smallIn (x:Int):numInS [.int .i64 x,.int .i64 0,.int .i64 255] []=some ⟨.bool (smallB x),[],[]⟩:=numInS_at x 0 255
structure smallX where
 x:Int
noncomputable def smallS:HSpec:=mkH (ι:=smallX) (fun ⟨x⟩=>([.int .i64 x],[])) fun ⟨x⟩=>⟨.bool (smallB x),[],[]⟩
theorem smallS_atG (x:Int):smallS [.int .i64 x] []=some (⟨.bool (smallB x),[],[]⟩):=
 mA_ (ι:=smallX) (fun i j h=>by obtain ⟨x⟩:=i; obtain ⟨x2⟩:=j; simp [and_assoc,qB_,qI_,qO_,qC_,qE_,qK_,qR_,qV_,qP_,qOc_,rows_iff_Chg] at h; obtain rfl:=h; rfl) ⟨x⟩
theorem smallS_at (x:Int):smallS [.int .i64 x] []=some (⟨.bool (smallB x),[],[]⟩):=smallS_atG x
theorem small_ok:HSound Tryz.prog 77 smallS:=by
 refine sE_ (fn:=Tryz.f77) rfl rfl (by kernel_rfl) fun args bx hr hS=>?_
 obtain ⟨⟨x⟩,rfl,rfl,rfl⟩:=mO_ hS
 clear hS
 refine ⟨_,(eN_ _),by simp [Tryz.f77],by simp [go_sem],fun w Mx pin=>?_⟩
 simp only [hB_at,lab_nil,lab_cons,hOf_nil,hOf_cons]
 refine aQ_ ?_
 iterate 1
  refine oC_ fun J hJ=>?_
  simp [go_sem]
  refine hJ _ _ _ ?_
 refine oN_ ?_
 refine aS_ fun K2 hK2=>?_
 by_cases h1:0<=x
 all_goals
  refine aR_ ?_
  iterate 7
   refine oC_ fun J hJ=>?_
   simp [go_sem,h1]
   refine hJ _ _ _ ?_
  refine oN_ ?_
  refine hK2 _ ?_
  refine aE_ ?_
  refine fQ_ [] ?_
  simp [go_sem,Tryz.f77,smallB,h1]
structure checkX where
 c:Chg
noncomputable def checkS:HSpec:=mkH (ι:=checkX) (fun ⟨c⟩=>([.agg (cChg c)],[])) fun ⟨c⟩=>⟨.int .i64 (if checkB c=true then 0 else 4),[],[]⟩
theorem checkS_atG (c:Chg):checkS [.agg (cChg c)] []=some (⟨.int .i64 (if checkB c=true then 0 else 4),[],[]⟩):=
 mA_ (ι:=checkX) (fun i j h=>by obtain ⟨c⟩:=i; obtain ⟨c2⟩:=j; simp [and_assoc,qB_,qI_,qO_,qC_,qE_,qK_,qR_,qV_,qP_,qOc_,rows_iff_Chg] at h; obtain rfl:=h; rfl) ⟨c⟩
theorem checkS_at (c:Chg):checkS [.agg (cChg c)] []=some (⟨.int .i64 (if checkB c=true then 0 else 4),[],[]⟩):=checkS_atG c
theorem check_ok:HSound Tryz.prog 49 checkS:=by
  refine sE_ (fn:=Tryz.f49) rfl rfl (by kernel_rfl) fun args bx hr hS=>?_
  obtain ⟨⟨c⟩,rfl,rfl,rfl⟩:=mO_ hS
  clear hS
  refine ⟨_,(eV_ (g:=70) (by kernel_rfl) numIn_ok (eV_ (g:=68) (by kernel_rfl) mayI_ok (eN_ _))),by simp [Tryz.f49],by simp [go_sem],fun w Mx pin=>?_⟩
  simp only [hB_at,lab_nil,lab_cons,hOf_nil,hOf_cons]
  refine aQ_ ?_
  iterate 2
    refine oC_ fun J hJ=>?_
    simp [go_sem]
    refine hJ _ _ _ ?_
  refine oN_ ?_
  refine aQ_ ?_
  iterate 1
    refine oC_ fun J hJ=>?_
    simp [go_sem]
    refine hJ _ _ _ ?_
  refine oN_ ?_
  refine aS_ fun K3 hK3=>?_
  refine aQ_ ?_
  iterate 11
    refine oC_ fun J hJ=>?_
    simp [go_sem]
    refine hJ _ _ _ ?_
  refine oN_ ?_
  refine aB_ ?_
  refine aL_ (ι:={ i:Nat // i<=4 }) (fun q=>chkI c q.1) (fun q=>4 - q.1) ⟨0,by omega⟩ ?_ ?_
  · refine wO_ [((0,16),some (0,16))] (by simp [go_sem]) ?_ ?_ <;> simp [go_sem,fourB,kV]
  intro ⟨i,hi⟩
  try simp only at hi
  obtain ⟨b,hb⟩:∃ b,b=fourB c i:=⟨_,rfl⟩
  simp only [chkI,<-hb]
  refine aS_ fun K5 hK5=>?_
  rcases (show i=0\/i=1\/i=2\/i=3\/i=4 by omega) with rfl | rfl | rfl | rfl | rfl
  · skip
    refine aR_ ?_
    iterate 1
      refine oC_ fun J hJ=>?_
      simp [go_sem]
      refine hJ _ _ _ ?_
    refine oN_ ?_
    refine hK5 _ ?_
    refine aS_ fun K6 hK6=>?_
    refine aT_ rfl ?_
    refine aK_ ?_
    refine hK6 _ ?_
    refine aS_ fun K8 hK8=>?_
    refine aB_ ?_
    refine aQ_ ?_
    iterate 2
      refine oC_ fun J hJ=>?_
      simp [go_sem,kV_0]
      refine hJ _ _ _ ?_
    refine oN_ ?_
    cases b
    all_goals
      refine aR_ ?_
      iterate 6
        refine oC_ fun J hJ=>?_
        simp [go_sem,smallIn c.kind]
        refine hJ _ _ _ ?_
      refine oN_ ?_
      refine hK8 _ ?_
      refine aR_ ?_
      iterate 2
        refine oC_ fun J hJ=>?_
        simp [go_sem]
        refine hJ _ _ _ ?_
      refine oN_ ?_
      first
        | (refine ⟨⟨1,by omega⟩,?_,by simp⟩
           refine wO_ [((0,16),some (0,16))] (by simp [go_sem]) ?_ ?_ <;> (simp [go_sem,fourB_1,<-hb,show IntKind.i64.wrap (1:Int)=1 from wA_ (by omega)]; done))
        | (refine ⟨⟨2,by omega⟩,?_,by simp⟩
           refine wO_ [((0,16),some (0,16))] (by simp [go_sem]) ?_ ?_ <;> (simp [go_sem,fourB_2,<-hb,show IntKind.i64.wrap (2:Int)=2 from wA_ (by omega)]; done))
        | (refine ⟨⟨3,by omega⟩,?_,by simp⟩
           refine wO_ [((0,16),some (0,16))] (by simp [go_sem]) ?_ ?_ <;> (simp [go_sem,fourB_3,<-hb,show IntKind.i64.wrap (3:Int)=3 from wA_ (by omega)]; done))
        | (refine ⟨⟨4,by omega⟩,?_,by simp⟩
           refine wO_ [((0,16),some (0,16))] (by simp [go_sem]) ?_ ?_ <;> (simp [go_sem,fourB_4,<-hb,show IntKind.i64.wrap (4:Int)=4 from wA_ (by omega)]; done))
  · skip
    refine aR_ ?_
    iterate 1
      refine oC_ fun J hJ=>?_
      simp [go_sem]
      refine hJ _ _ _ ?_
    refine oN_ ?_
    refine hK5 _ ?_
    refine aS_ fun K6 hK6=>?_
    refine aT_ rfl ?_
    refine aK_ ?_
    refine hK6 _ ?_
    refine aS_ fun K8 hK8=>?_
    refine aB_ ?_
    refine aQ_ ?_
    iterate 2
      refine oC_ fun J hJ=>?_
      simp [go_sem,kV_1]
      refine hJ _ _ _ ?_
    refine oN_ ?_
    cases b
    all_goals
      refine aR_ ?_
      iterate 6
        refine oC_ fun J hJ=>?_
        simp [go_sem,smallIn c.a]
        refine hJ _ _ _ ?_
      refine oN_ ?_
      refine hK8 _ ?_
      refine aR_ ?_
      iterate 2
        refine oC_ fun J hJ=>?_
        simp [go_sem]
        refine hJ _ _ _ ?_
      refine oN_ ?_
      first
        | (refine ⟨⟨1,by omega⟩,?_,by simp⟩
           refine wO_ [((0,16),some (0,16))] (by simp [go_sem]) ?_ ?_ <;> (simp [go_sem,fourB_1,<-hb,show IntKind.i64.wrap (1:Int)=1 from wA_ (by omega)]; done))
        | (refine ⟨⟨2,by omega⟩,?_,by simp⟩
           refine wO_ [((0,16),some (0,16))] (by simp [go_sem]) ?_ ?_ <;> (simp [go_sem,fourB_2,<-hb,show IntKind.i64.wrap (2:Int)=2 from wA_ (by omega)]; done))
        | (refine ⟨⟨3,by omega⟩,?_,by simp⟩
           refine wO_ [((0,16),some (0,16))] (by simp [go_sem]) ?_ ?_ <;> (simp [go_sem,fourB_3,<-hb,show IntKind.i64.wrap (3:Int)=3 from wA_ (by omega)]; done))
        | (refine ⟨⟨4,by omega⟩,?_,by simp⟩
           refine wO_ [((0,16),some (0,16))] (by simp [go_sem]) ?_ ?_ <;> (simp [go_sem,fourB_4,<-hb,show IntKind.i64.wrap (4:Int)=4 from wA_ (by omega)]; done))
  · skip
    refine aR_ ?_
    iterate 1
      refine oC_ fun J hJ=>?_
      simp [go_sem]
      refine hJ _ _ _ ?_
    refine oN_ ?_
    refine hK5 _ ?_
    refine aS_ fun K6 hK6=>?_
    refine aT_ rfl ?_
    refine aK_ ?_
    refine hK6 _ ?_
    refine aS_ fun K8 hK8=>?_
    refine aB_ ?_
    refine aQ_ ?_
    iterate 2
      refine oC_ fun J hJ=>?_
      simp [go_sem,kV_2]
      refine hJ _ _ _ ?_
    refine oN_ ?_
    cases b
    all_goals
      refine aR_ ?_
      iterate 6
        refine oC_ fun J hJ=>?_
        simp [go_sem,smallIn c.b]
        refine hJ _ _ _ ?_
      refine oN_ ?_
      refine hK8 _ ?_
      refine aR_ ?_
      iterate 2
        refine oC_ fun J hJ=>?_
        simp [go_sem]
        refine hJ _ _ _ ?_
      refine oN_ ?_
      first
        | (refine ⟨⟨1,by omega⟩,?_,by simp⟩
           refine wO_ [((0,16),some (0,16))] (by simp [go_sem]) ?_ ?_ <;> (simp [go_sem,fourB_1,<-hb,show IntKind.i64.wrap (1:Int)=1 from wA_ (by omega)]; done))
        | (refine ⟨⟨2,by omega⟩,?_,by simp⟩
           refine wO_ [((0,16),some (0,16))] (by simp [go_sem]) ?_ ?_ <;> (simp [go_sem,fourB_2,<-hb,show IntKind.i64.wrap (2:Int)=2 from wA_ (by omega)]; done))
        | (refine ⟨⟨3,by omega⟩,?_,by simp⟩
           refine wO_ [((0,16),some (0,16))] (by simp [go_sem]) ?_ ?_ <;> (simp [go_sem,fourB_3,<-hb,show IntKind.i64.wrap (3:Int)=3 from wA_ (by omega)]; done))
        | (refine ⟨⟨4,by omega⟩,?_,by simp⟩
           refine wO_ [((0,16),some (0,16))] (by simp [go_sem]) ?_ ?_ <;> (simp [go_sem,fourB_4,<-hb,show IntKind.i64.wrap (4:Int)=4 from wA_ (by omega)]; done))
  · skip
    refine aR_ ?_
    iterate 1
      refine oC_ fun J hJ=>?_
      simp [go_sem]
      refine hJ _ _ _ ?_
    refine oN_ ?_
    refine hK5 _ ?_
    refine aS_ fun K6 hK6=>?_
    refine aT_ rfl ?_
    refine aK_ ?_
    refine hK6 _ ?_
    refine aS_ fun K8 hK8=>?_
    refine aB_ ?_
    refine aQ_ ?_
    iterate 2
      refine oC_ fun J hJ=>?_
      simp [go_sem,kV_3]
      refine hJ _ _ _ ?_
    refine oN_ ?_
    cases b
    all_goals
      refine aR_ ?_
      iterate 6
        refine oC_ fun J hJ=>?_
        simp [go_sem,smallIn c.ref.rep]
        refine hJ _ _ _ ?_
      refine oN_ ?_
      refine hK8 _ ?_
      refine aR_ ?_
      iterate 2
        refine oC_ fun J hJ=>?_
        simp [go_sem]
        refine hJ _ _ _ ?_
      refine oN_ ?_
      first
        | (refine ⟨⟨1,by omega⟩,?_,by simp⟩
           refine wO_ [((0,16),some (0,16))] (by simp [go_sem]) ?_ ?_ <;> (simp [go_sem,fourB_1,<-hb,show IntKind.i64.wrap (1:Int)=1 from wA_ (by omega)]; done))
        | (refine ⟨⟨2,by omega⟩,?_,by simp⟩
           refine wO_ [((0,16),some (0,16))] (by simp [go_sem]) ?_ ?_ <;> (simp [go_sem,fourB_2,<-hb,show IntKind.i64.wrap (2:Int)=2 from wA_ (by omega)]; done))
        | (refine ⟨⟨3,by omega⟩,?_,by simp⟩
           refine wO_ [((0,16),some (0,16))] (by simp [go_sem]) ?_ ?_ <;> (simp [go_sem,fourB_3,<-hb,show IntKind.i64.wrap (3:Int)=3 from wA_ (by omega)]; done))
        | (refine ⟨⟨4,by omega⟩,?_,by simp⟩
           refine wO_ [((0,16),some (0,16))] (by simp [go_sem]) ?_ ?_ <;> (simp [go_sem,fourB_4,<-hb,show IntKind.i64.wrap (4:Int)=4 from wA_ (by omega)]; done))
  · skip
    have hq:=check_four c
    rw [<-hb] at hq
    refine aR_ ?_
    iterate 1
      refine oC_ fun J hJ=>?_
      simp [go_sem]
      refine hJ _ _ _ ?_
    refine oN_ ?_
    refine hK5 _ ?_
    refine aS_ fun K6 hK6=>?_
    refine aF_ rfl ?_
    refine aX_ ?_
    simp only [go_sem]
    refine hK3 _ ?_
    refine aS_ fun K10 hK10=>?_
    refine aS_ fun K11 hK11=>?_
    rcases (show b=false\/(b=true/\mayI c.id=false)\/(b=true/\mayI c.id=true/\decide (1<=c.time/\c.time<=1073741824)=false)\/(b=true/\mayI c.id=true/\decide (1<=c.time/\c.time<=1073741824)=true/\decide (0<=c.ref.seq/\c.ref.seq<=65535)=false)\/(b=true/\mayI c.id=true/\decide (1<=c.time/\c.time<=1073741824)=true/\decide (0<=c.ref.seq/\c.ref.seq<=65535)=true) by cases b <;> cases mayI c.id <;> cases decide (1<=c.time/\c.time<=1073741824) <;> cases decide (0<=c.ref.seq/\c.ref.seq<=65535) <;> simp) with g0 | ⟨g0,g1⟩ | ⟨g0,g1,g2⟩ | ⟨g0,g1,g2,g3⟩ | ⟨g0,g1,g2,g3⟩
    · skip
      rw [g0] at hq
      try simp only [Bool.false_and,Bool.true_and,Bool.and_false,Bool.and_true] at hq
      refine aR_ ?_
      iterate 21
        refine oC_ fun J hJ=>?_
        simp [go_sem,mayIS_at c.id,numInS_at c.time 1 1073741824,numInS_at c.ref.seq 0 65535,g0]
        refine hJ _ _ _ ?_
      refine oN_ ?_
      refine hK11 _ ?_
      refine aT_ rfl ?_
      refine aQ_ ?_
      iterate 1
        refine oC_ fun J hJ=>?_
        simp [go_sem]
        refine hJ _ _ _ ?_
      refine oN_ ?_
      refine aE_ ?_
      refine fQ_ [] ?_
      simp [go_sem,Tryz.f49,hq]
    · skip
      rw [g0,g1] at hq
      try simp only [Bool.false_and,Bool.true_and,Bool.and_false,Bool.and_true] at hq
      refine aR_ ?_
      iterate 21
        refine oC_ fun J hJ=>?_
        simp [go_sem,mayIS_at c.id,numInS_at c.time 1 1073741824,numInS_at c.ref.seq 0 65535,g0,g1]
        refine hJ _ _ _ ?_
      refine oN_ ?_
      refine hK11 _ ?_
      refine aT_ rfl ?_
      refine aQ_ ?_
      iterate 1
        refine oC_ fun J hJ=>?_
        simp [go_sem]
        refine hJ _ _ _ ?_
      refine oN_ ?_
      refine aE_ ?_
      refine fQ_ [] ?_
      simp [go_sem,Tryz.f49,hq]
    · skip
      rw [g0,g1,g2] at hq
      try simp only [Bool.false_and,Bool.true_and,Bool.and_false,Bool.and_true] at hq
      refine aR_ ?_
      iterate 21
        refine oC_ fun J hJ=>?_
        simp [go_sem,mayIS_at c.id,numInS_at c.time 1 1073741824,numInS_at c.ref.seq 0 65535,g0,g1,g2]
        refine hJ _ _ _ ?_
      refine oN_ ?_
      refine hK11 _ ?_
      refine aT_ rfl ?_
      refine aQ_ ?_
      iterate 1
        refine oC_ fun J hJ=>?_
        simp [go_sem]
        refine hJ _ _ _ ?_
      refine oN_ ?_
      refine aE_ ?_
      refine fQ_ [] ?_
      simp [go_sem,Tryz.f49,hq]
    · skip
      rw [g0,g1,g2,g3] at hq
      try simp only [Bool.false_and,Bool.true_and,Bool.and_false,Bool.and_true] at hq
      refine aR_ ?_
      iterate 21
        refine oC_ fun J hJ=>?_
        simp [go_sem,mayIS_at c.id,numInS_at c.time 1 1073741824,numInS_at c.ref.seq 0 65535,g0,g1,g2,g3]
        refine hJ _ _ _ ?_
      refine oN_ ?_
      refine hK11 _ ?_
      refine aT_ rfl ?_
      refine aQ_ ?_
      iterate 1
        refine oC_ fun J hJ=>?_
        simp [go_sem]
        refine hJ _ _ _ ?_
      refine oN_ ?_
      refine aE_ ?_
      refine fQ_ [] ?_
      simp [go_sem,Tryz.f49,hq]
    · skip
      rw [g0,g1,g2,g3] at hq
      try simp only [Bool.false_and,Bool.true_and,Bool.and_false,Bool.and_true] at hq
      refine aR_ ?_
      iterate 21
        refine oC_ fun J hJ=>?_
        simp [go_sem,mayIS_at c.id,numInS_at c.time 1 1073741824,numInS_at c.ref.seq 0 65535,g0,g1,g2,g3]
        refine hJ _ _ _ ?_
      refine oN_ ?_
      refine hK11 _ ?_
      refine aF_ rfl ?_
      refine aK_ ?_
      refine hK10 _ ?_
      refine aQ_ ?_
      iterate 1
        refine oC_ fun J hJ=>?_
        simp [go_sem]
        refine hJ _ _ _ ?_
      refine oN_ ?_
      refine aE_ ?_
      refine fQ_ [] ?_
      simp [go_sem,Tryz.f49,hq]
end Go.Proofs.YtjoaigccapegpaaGreat.AE
