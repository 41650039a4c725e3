/-
 Law 41: may: contract. Conditions: none; every contract names its own.
-/
import Derived.Test.YtfbooejaabdkoaaOOc7
set_option linter.constructorNameAsVariable false
namespace Go.Proofs.Ytfbooejaabdkoaa.AE
open Go Go.Proofs Go.RowKit
set_option linter.unusedVariables false
set_option linter.unusedSimpArgs false
set_option maxRecDepth 100000
set_option maxHeartbeats 4000000
theorem less_R (a b:Id):lessRS [.agg (cId a),.agg (cId b)] []=some ⟨.bool (lessId a b),[],[]⟩:=by rw [<-less_eq]; exact lessRS_at a b
theorem checkC_n {c:CutS} (h:checkC c=true):(0<=c.n/\c.n<=48)/\c.os.length<=32/\knB c.k 4=true/\ordsB c.os c.os.length=true:=by
 simp only [checkC,Bool.and_eq_true,decide_eq_true_eq] at h
 exact h
theorem checkC_false {c:CutS} (h:¬ ((0<=c.n/\c.n<=48)/\c.os.length<=32/\knB c.k 4=true/\ordsB c.os c.os.length=true)):checkC c=false:=by
 cases hc:checkC c
 · rfl
 · exact absurd (checkC_n hc) h
theorem checkC_true {c:CutS} (h:(0<=c.n/\c.n<=48)/\c.os.length<=32/\knB c.k 4=true/\ordsB c.os c.os.length=true):checkC c=true:=by
 simp only [checkC,Bool.and_eq_true,decide_eq_true_eq]
 exact h
theorem rises2 {os:List Ord} {i:Nat} {o:Ord} (h:os[i]?=some o) (hl:os.length<=100000):(¬ (0 < i)/\risesB os i o=true/\True/\True/\True/\True)\/(∃ (p:Ord) (j:Nat),0 < i/\risesB os i o=false/\lessId p.id o.id=false/\os[j]?=some p/\IntKind.i64.wrap ((i:Int) - 1)=(j:Int)/\j < os.length)\/(∃ (p:Ord) (j:Nat),0 < i/\risesB os i o=true/\lessId p.id o.id=true/\os[j]?=some p/\IntKind.i64.wrap ((i:Int) - 1)=(j:Int)/\j < os.length):=by
 rcases rises_cases h hl with ⟨hz,r⟩ | ⟨p,j,hz,r⟩ | ⟨p,j,hz,r⟩
 · exact .inl ⟨by simp at hz; omega,r⟩
 · exact .inr (.inl ⟨p,j,by simp at hz; omega,r⟩)
 · exact .inr (.inr ⟨p,j,by simp at hz; omega,r⟩)
theorem tail_cases (x:Ord):(mayC x.id=false/\(mayC x.id && (octB x.buyer && (octB x.item && octB x.state)))=false)\/(mayC x.id=true/\((x.buyer < 0/\(mayC x.id && (octB x.buyer && (octB x.item && octB x.state)))=false)\/(¬ x.buyer < 0/\((255 < x.buyer/\(mayC x.id && (octB x.buyer && (octB x.item && octB x.state)))=false)\/(¬ 255 < x.buyer/\((x.item < 0/\(mayC x.id && (octB x.buyer && (octB x.item && octB x.state)))=false)\/(¬ x.item < 0/\((255 < x.item/\(mayC x.id && (octB x.buyer && (octB x.item && octB x.state)))=false)\/(¬ 255 < x.item/\((x.state < 0/\(mayC x.id && (octB x.buyer && (octB x.item && octB x.state)))=false)\/(¬ x.state < 0/\((255 < x.state/\(mayC x.id && (octB x.buyer && (octB x.item && octB x.state)))=false)\/(¬ 255 < x.state/\(mayC x.id && (octB x.buyer && (octB x.item && octB x.state)))=true))))))))))))):=by
 have e:∀ y:Int,octB y=(!decide (y < 0) && !decide (255 < y)):=fun y=>by
  simp only [octB]
  rw [Bool.eq_iff_iff]
  simp
 rw [e,e,e]
 cases mayC x.id <;> by_cases b1:x.buyer < 0 <;> by_cases b2:255 < x.buyer <;> by_cases b3:x.item < 0 <;> by_cases b4:255 < x.item <;> by_cases b5:x.state < 0 <;> by_cases b6:255 < x.state <;> simp [b1,b2,b3,b4,b5,b6]
def mayKI (c:CutS) (i:Nat):St:=⟨ofL [(1,.ref (0,16) 0),(3,.int .i64 i)],hOf [((0,16),.obj (cCutS c))]⟩
def mayOI (c:CutS) (pre _post:List Ord):St:=⟨ofL [(1,.ref (0,16) 0),(4,.int .i64 pre.length)],hOf [((0,16),.obj (cCutS c))]⟩
structure mayCRX where
 a:Id
noncomputable def mayCRS:HSpec:=mkH (ι:=mayCRX) (fun ⟨a⟩=>([.agg (cId a)],[])) fun ⟨a⟩=>⟨.bool (mayC a),[],[]⟩
theorem mayCRS_atG (a:Id):mayCRS [.agg (cId a)] []=some (⟨.bool (mayC a),[],[]⟩):=
 mA_ (ι:=mayCRX) (fun i j h=>by obtain ⟨a⟩:=i; obtain ⟨a2⟩:=j; simp [and_assoc,qB_,qI_,qO_,qC_,qE_,qK_,qR_,qV_,qP_,qOc_,rows_iff_U8,cCut_eq_iff,Int.natCast_inj] at h; obtain rfl:=h; rfl) ⟨a⟩
theorem mayCRS_at (a:Id):mayCRS [.agg (cId a)] []=some (⟨.bool (mayC a),[],[]⟩):=mayCRS_atG a
theorem mayCR_ok:HSound Try.prog 54 mayCRS:=by
 refine sE_ (fn:=Try.f54) rfl rfl (by kernel_rfl) fun args bx hr hS=>?_
 obtain ⟨⟨a⟩,rfl,rfl,rfl⟩:=mO_ hS
 clear hS
 refine ⟨_,(eN_ _),by simp [Try.f54],by simp [go_sem],fun w Mx pin=>?_⟩
 simp only [hB_at,lab_nil,lab_cons,hOf_nil,hOf_cons]
 refine aQ_ ?_
 iterate 2
  refine oC_ fun J hJ=>?_
  simp [go_sem]
  refine hJ _ _ _ ?_
 refine oN_ ?_
 refine aS_ fun K2 hK2=>?_
 by_cases h1:0<=a.rep
 all_goals by_cases h2:a.rep<=3
 all_goals by_cases h3:1<=a.seq
 all_goals
  refine aR_ ?_
  iterate 19
   refine oC_ fun J hJ=>?_
   simp [go_sem,h1,h2,h3]
   refine hJ _ _ _ ?_
  refine oN_ ?_
  refine hK2 _ ?_
  refine aE_ ?_
  refine fQ_ [] ?_
  have h4:a.rep < 4 ↔ a.rep<=3:=⟨fun h=>by omega,fun h=>by omega⟩
  simp [go_sem,Try.f54,mayC,h1,h2,h3,h4]
structure mayCutX where
 n:Int
 k:Vn 4
 b:Bk
 os:List Ord
 os':AV
 h_os:SlA 7 cOrd os os'
 hL:os.length<=100000
noncomputable def mayCutS:HSpec:=mkH (ι:=mayCutX) (fun ⟨n,k,b,os,os',h_os,hL⟩=>([.agg (cCut n k b os')],[])) fun ⟨n,k,b,os,os',h_os,hL⟩=>⟨.bool (checkC ⟨n,k,b,os⟩),[],[]⟩
theorem mayCutS_atG (n:Int) (k:Vn 4) (b:Bk) (os:List Ord) (os':AV) (h_os:SlA 7 cOrd os os') (hL:os.length<=100000):mayCutS [.agg (cCut n k b os')] []=some (⟨.bool (checkC ⟨n,k,b,os⟩),[],[]⟩):=
 mA_ (ι:=mayCutX) (fun i j h=>by obtain ⟨n,k,b,os,os',h_os,hL⟩:=i; obtain ⟨n2,k2,b2,os2,os'2,h_os2,hL2⟩:=j; simp [and_assoc,qB_,qI_,qO_,qC_,qE_,qK_,qR_,qV_,qP_,qOc_,rows_iff_U8,cCut_eq_iff,Int.natCast_inj] at h; obtain ⟨rfl,rfl,rfl,rfl⟩:=h; obtain rfl:=SlA.inj (fun x y h=>cOrd_inj h) h_os h_os2; rfl) ⟨n,k,b,os,os',h_os,hL⟩
theorem mayCutS_at (n:Int) (k:Vn 4) (b:Bk) (os:List Ord) (hL:os.length<=100000):mayCutS [.agg (cCut n k b (.sl 7 (rows cOrd os)))] []=some (⟨.bool (checkC ⟨n,k,b,os⟩),[],[]⟩):=mayCutS_atG n k b os _ .sl hL
theorem mayCut_ok:HSound Try.prog 28 mayCutS:=by
 refine sE_ (fn:=Try.f28) rfl rfl (by kernel_rfl) fun args bx hr hS=>?_
 obtain ⟨⟨n,k,b,os,os',h_os,hL⟩,rfl,rfl,rfl⟩:=mO_ hS
 clear hS
 refine ⟨_,(eV_ (g:=53) (by kernel_rfl) lessR_ok (eV_ (g:=54) (by kernel_rfl) mayCR_ok (eN_ _))),by simp [Try.f28],by simp [go_sem],fun w Mx pin=>?_⟩
 simp only [hB_at,lab_nil,lab_cons,hOf_nil,hOf_cons]
 refine aW_ (s':=⟨ofL [(0,.agg (cCut n k b (.sl 7 (rows cOrd os))))],hOf []⟩) ?_ ?_
 · cases h_os <;> exact wO_ [] (by simp [go_sem]) (by simp [go_sem]) (by simp [go_sem])
 clear h_os
 refine aQ_ ?_
 iterate 2
  refine oC_ fun J hJ=>?_
  simp [go_sem]
  refine hJ _ _ _ ?_
 refine oN_ ?_
 refine aS_ fun K2 hK2=>?_
 refine aS_ fun K3 hK3=>?_
 rcases (show n < 0\/(¬ n < 0/\48 < n)\/(¬ n < 0/\¬ 48 < n/\(32:Int) < (os.length:Int))\/(¬ n < 0/\¬ 48 < n/\¬ (32:Int) < (os.length:Int)) by omega) with g1 | ⟨g1,g2⟩ | ⟨g1,g2,g3⟩ | ⟨g1,g2,g3⟩
 ·
  have hc:checkC ⟨n,k,b,os⟩=false:=checkC_false (fun h=>by simp only at h; omega)
  refine aR_ ?_
  iterate 15
   refine oC_ fun J hJ=>?_
   simp [go_sem,g1]
   refine hJ _ _ _ ?_
  refine oN_ ?_
  refine hK3 _ ?_
  refine aT_ rfl ?_
  refine aQ_ ?_
  iterate 1
   refine oC_ fun J hJ=>?_
   simp [go_sem]
   refine hJ _ _ _ ?_
  refine oN_ ?_
  refine aE_ ?_
  refine fQ_ [] ?_
  simp [go_sem,Try.f28,hc]
 ·
  have hc:checkC ⟨n,k,b,os⟩=false:=checkC_false (fun h=>by simp only at h; omega)
  refine aR_ ?_
  iterate 15
   refine oC_ fun J hJ=>?_
   simp [go_sem,g1,g2]
   refine hJ _ _ _ ?_
  refine oN_ ?_
  refine hK3 _ ?_
  refine aT_ rfl ?_
  refine aQ_ ?_
  iterate 1
   refine oC_ fun J hJ=>?_
   simp [go_sem]
   refine hJ _ _ _ ?_
  refine oN_ ?_
  refine aE_ ?_
  refine fQ_ [] ?_
  simp [go_sem,Try.f28,hc]
 ·
  have hc:checkC ⟨n,k,b,os⟩=false:=checkC_false (fun h=>by simp only at h; omega)
  refine aR_ ?_
  iterate 15
   refine oC_ fun J hJ=>?_
   simp [go_sem,g1,g2,g3]
   refine hJ _ _ _ ?_
  refine oN_ ?_
  refine hK3 _ ?_
  refine aT_ rfl ?_
  refine aQ_ ?_
  iterate 1
   refine oC_ fun J hJ=>?_
   simp [go_sem]
   refine hJ _ _ _ ?_
  refine oN_ ?_
  refine aE_ ?_
  refine fQ_ [] ?_
  simp [go_sem,Try.f28,hc]
 ·
  refine aR_ ?_
  iterate 15
   refine oC_ fun J hJ=>?_
   simp [go_sem,g1,g2,g3]
   refine hJ _ _ _ ?_
  refine oN_ ?_
  refine hK3 _ ?_
  refine aF_ rfl ?_
  refine aK_ ?_
  refine hK2 _ ?_
  refine aS_ fun K6 hK6=>?_
  refine aQ_ ?_
  iterate 1
   refine oC_ fun J hJ=>?_
   simp [go_sem]
   refine hJ _ _ _ ?_
  refine oN_ ?_
  refine aB_ ?_
  refine aL_ (ι:={ i:Nat // i<=4/\knB k i=true }) (fun s=>mayKI ⟨n,k,b,os⟩ s.1) (fun s=>4 - s.1) ⟨0,by omega,rfl⟩ ?_ ?_
  · refine wO_ [((0,16),some (0,16))] (by simp [go_sem]) ?_ ?_ <;> simp [go_sem,cCutS]
  intro ⟨i,hi,hkn⟩
  try simp only at hi hkn
  simp only [mayKI,cCutS]
  refine aS_ fun K8 hK8=>?_
  refine aQ_ ?_
  iterate 2
   refine oC_ fun J hJ=>?_
   simp [go_sem]
   refine hJ _ _ _ ?_
  refine oN_ ?_
  refine aC_ (t:=_) rfl (fun c10=>?_) (fun c10=>?_)
  ·
   simp [go_sem] at c10
   have hi8:i + 1<=4:=by omega
   have hi7:i < 4:=by omega
   have hi7i:(i:Int) < 4:=by omega
   refine aK_ ?_
   refine hK8 _ ?_
   refine aS_ fun K11 hK11=>?_
   refine aB_ ?_
   refine aS_ fun K12 hK12=>?_
   rcases (show k.at i < 0\/(¬ k.at i < 0/\65535 < k.at i)\/(¬ k.at i < 0/\¬ 65535 < k.at i) by omega) with g4 | ⟨g4,g5⟩ | ⟨g4,g5⟩
   ·
    have hc:checkC ⟨n,k,b,os⟩=false:=checkC_false (fun h=>by have:=knB_at h.2.2.1 i hi7; simp only at this; omega)
    refine aR_ ?_
    iterate 12
     refine oC_ fun J hJ=>?_
     simp [go_sem,hi7,hi7i,g4]
     refine hJ _ _ _ ?_
    refine oN_ ?_
    refine hK12 _ ?_
    refine aT_ rfl ?_
    refine aQ_ ?_
    iterate 1
     refine oC_ fun J hJ=>?_
     simp [go_sem]
     refine hJ _ _ _ ?_
    refine oN_ ?_
    refine aE_ ?_
    refine fQ_ [] ?_
    simp [go_sem,Try.f28,hc]
   ·
    have hc:checkC ⟨n,k,b,os⟩=false:=checkC_false (fun h=>by have:=knB_at h.2.2.1 i hi7; simp only at this; omega)
    refine aR_ ?_
    iterate 12
     refine oC_ fun J hJ=>?_
     simp [go_sem,hi7,hi7i,g4,g5]
     refine hJ _ _ _ ?_
    refine oN_ ?_
    refine hK12 _ ?_
    refine aT_ rfl ?_
    refine aQ_ ?_
    iterate 1
     refine oC_ fun J hJ=>?_
     simp [go_sem]
     refine hJ _ _ _ ?_
    refine oN_ ?_
    refine aE_ ?_
    refine fQ_ [] ?_
    simp [go_sem,Try.f28,hc]
   ·
    refine aR_ ?_
    iterate 12
     refine oC_ fun J hJ=>?_
     simp [go_sem,hi7,hi7i,g4,g5]
     refine hJ _ _ _ ?_
    refine oN_ ?_
    refine hK12 _ ?_
    refine aF_ rfl ?_
    refine aK_ ?_
    refine hK11 _ ?_
    refine aR_ ?_
    iterate 3
     refine oC_ fun J hJ=>?_
     simp [go_sem]
     refine hJ _ _ _ ?_
    refine oN_ ?_
    refine ⟨⟨i + 1,hi8,by simp only [knB,hkn,Bool.true_and,wideB,decide_eq_true_eq]; omega⟩,?_,by simp only; omega⟩
    refine wO_ [((0,16),some (0,16))] (by simp [go_sem]) ?_ ?_ <;> simp [go_sem,cCutS,wN_ (n:=i) (by omega)]
  ·
   simp [go_sem] at c10
   obtain rfl:i=4:=by omega
   refine aX_ ?_
   simp only [go_sem]
   refine hK6 _ ?_
   refine aS_ fun K15 hK15=>?_
   refine aQ_ ?_
   iterate 1
    refine oC_ fun J hJ=>?_
    simp [go_sem]
    refine hJ _ _ _ ?_
   refine oN_ ?_
   refine aB_ ?_
   refine aL_ (ι:={ q:List Ord × List Ord // q.1++q.2=os/\ordsB os q.1.length=true }) (fun q=>mayOI ⟨n,k,b,os⟩ q.1.1 q.1.2) (fun q=>q.1.2.length) ⟨([],os),rfl,rfl⟩ ?_ ?_
   · refine wO_ [((0,16),some (0,16))] (by simp [go_sem]) ?_ ?_ <;> simp [go_sem,cCutS]
   intro ⟨⟨pre,post⟩,hl,hgo⟩
   simp only at hl hgo
   have hpl:=lS_ hl hL
   simp only [mayOI]
   simp only [cCutS]
   refine aS_ fun K17 hK17=>?_
   refine aQ_ ?_
   iterate 6
    refine oC_ fun J hJ=>?_
    simp [go_sem]
    refine hJ _ _ _ ?_
   refine oN_ ?_
   refine aC_ (t:=_) rfl (fun c19=>?_) (fun c19=>?_)
   ·
    simp [go_sem] at c19
    obtain ⟨x,post,rfl,hx⟩:=mL_ hl c19
    have hpL:pre.length < os.length:=by rw [<-hl]; simp
    refine aK_ ?_
    refine hK17 _ ?_
    refine aS_ fun K20 hK20=>?_
    refine aB_ ?_
    refine aQ_ ?_
    iterate 8
     refine oC_ fun J hJ=>?_
     simp [go_sem,hx]
     refine hJ _ _ _ ?_
    refine oN_ ?_
    refine aS_ fun K22 hK22=>?_
    by_cases hob:ordB os pre.length x=true
    ·
     rcases rises2 hx hL with ⟨hi0,hr,hlt,hp,hw,hj⟩ | ⟨p,j,hi0,hr,hlt,hp,hw,hj⟩ | ⟨p,j,hi0,hr,hlt,hp,hw,hj⟩
     all_goals try (exfalso; rw [ordB,hr] at hob; cases hob; done)
     all_goals rcases tail_cases x with ⟨hmm,htl⟩ | ⟨hmm,⟨b1,htl⟩ | ⟨b1,⟨b2,htl⟩ | ⟨b2,⟨b3,htl⟩ | ⟨b3,⟨b4,htl⟩ | ⟨b4,⟨b5,htl⟩ | ⟨b5,⟨b6,htl⟩ | ⟨b6,htl⟩⟩⟩⟩⟩⟩⟩
     all_goals try (exfalso; rw [ordB,hr,htl] at hob; cases hob; done)
     all_goals
      refine aD_ ?_
      iterate 52
       refine oC_ fun J hJ=>?_
       simp [go_sem,hi0,hlt,↓hp,hp,hw,hj,less_R,mayCRS_at,hmm,b1,b2,b3,b4,b5,b6]
       refine hJ _ _ _ ?_
      refine oN_ ?_
      refine ⟨rfl,?_⟩
      refine hK22 _ ?_
      refine aF_ rfl ?_
      refine aK_ ?_
      refine hK20 _ ?_
      refine aR_ ?_
      iterate 3
       refine oC_ fun J hJ=>?_
       simp [go_sem]
       refine hJ _ _ _ ?_
      refine oN_ ?_
      refine ⟨⟨(pre++[x],post),by simp [<-hl],by rw [List.length_append]; simp only [List.length_cons,List.length_nil,ordsB,hgo,hx,ordB,hr,htl,Bool.and_self]⟩,?_,by simp⟩
      refine wO_ [((0,16),some (0,16))] (by simp [go_sem]) ?_ ?_ <;> simp [go_sem,wN_ hpl,cCutS]
    ·
     have hc:checkC ⟨n,k,b,os⟩=false:=checkC_false (fun h=>hob (ordsB_at h.2.2.2 pre.length x (by simp only; omega) hx))
     rcases rises2 hx hL with ⟨hi0,hr,hlt,hp,hw,hj⟩ | ⟨p,j,hi0,hr,hlt,hp,hw,hj⟩ | ⟨p,j,hi0,hr,hlt,hp,hw,hj⟩
     rotate_left
     have bx:True:=trivial
     rotate_left
     all_goals try rcases tail_cases x with ⟨hmm,htl⟩ | ⟨hmm,⟨b1,htl⟩ | ⟨b1,⟨b2,htl⟩ | ⟨b2,⟨b3,htl⟩ | ⟨b3,⟨b4,htl⟩ | ⟨b4,⟨b5,htl⟩ | ⟨b5,⟨b6,htl⟩ | ⟨b6,htl⟩⟩⟩⟩⟩⟩⟩
     all_goals try (exfalso; rw [ordB,hr,htl] at hob; exact hob rfl; done)
     all_goals
      refine aD_ ?_
      iterate 52
       refine oC_ fun J hJ=>?_
       simp [go_sem,hi0,hlt,↓hp,hp,hw,hj,less_R,mayCRS_at,hmm, *]
       refine hJ _ _ _ ?_
      refine oN_ ?_
      refine ⟨rfl,?_⟩
      refine hK22 _ ?_
      refine aT_ rfl ?_
      refine aQ_ ?_
      iterate 1
       refine oC_ fun J hJ=>?_
       simp [go_sem]
       refine hJ _ _ _ ?_
      refine oN_ ?_
      refine aE_ ?_
      refine fQ_ [] ?_
      simp [go_sem,Try.f28,hc]
   ·
    simp [go_sem] at c19
    obtain ⟨rfl,rfl⟩:=mN_ hl c19
    have hc:checkC ⟨n,k,b,os⟩=true:=checkC_true ⟨by simp only; omega,by simp only; omega,hkn,hgo⟩
    refine aX_ ?_
    simp only [go_sem]
    refine hK15 _ ?_
    refine aQ_ ?_
    iterate 1
     refine oC_ fun J hJ=>?_
     simp [go_sem]
     refine hJ _ _ _ ?_
    refine oN_ ?_
    refine aE_ ?_
    refine fQ_ [] ?_
    simp [go_sem,Try.f28,hc]
end Go.Proofs.Ytfbooejaabdkoaa.AE
