/-
 A reader, and a pen: Take, take: contracts. Conditions: none; every contract names its own.
-/
import Derived.Test.YtfbooejaabdkoaaOOc2
import Derived.Test.YtfbooejaabdkoaaOCt0
set_option linter.constructorNameAsVariable false
namespace Go.Proofs.Ytfbooejaabdkoaa.AE
open Go Go.Proofs Go.RowKit
set_option linter.unusedVariables false
set_option linter.unusedSimpArgs false
set_option maxRecDepth 100000
set_option maxHeartbeats 4000000
theorem shl_u64 (x:Int) (h0:0<=x) (h1:x < 72057594037927936):aInt .shl .u64 x 8=some (.int .u64 (x * 256)):=by
 rw [aInt_shl,if_neg (by omega)]
 have:min (8:Int).toNat IntKind.u64.bits=8:=rfl
 rw [this,IntKind.wrap_u64]
 simp only [Int.reducePow]
 congr 2
 omega
structure otakeX where
 p:Bool
 l:List U8
 z:Nat
 hL:l.length<=140737488355328/\Oct l/\1<=z/\z<=8
noncomputable def otakeS:HSpec:=mkH (ι:=otakeX) (fun ⟨p,l,z,hL⟩=>([.ref (1,0) 0,.int .i64 z],[.obj [.bool true,.bool p,.sl 1 (rows cU8 l)]])) fun ⟨p,l,z,hL⟩=>⟨.tup [.int .u64 (rdN z (p,l)),.bool (rdK z (p,l))],[.obj [.bool true,.bool (rdR z (p,l)).1,.sl 1 (rows cU8 (rdR z (p,l)).2)]],[]⟩
theorem otakeS_atG (p:Bool) (l:List U8) (z:Nat) (hL:l.length<=140737488355328/\Oct l/\1<=z/\z<=8):otakeS [.ref (1,0) 0,.int .i64 z] [.obj [.bool true,.bool p,.sl 1 (rows cU8 l)]]=some (⟨.tup [.int .u64 (rdN z (p,l)),.bool (rdK z (p,l))],[.obj [.bool true,.bool (rdR z (p,l)).1,.sl 1 (rows cU8 (rdR z (p,l)).2)]],[]⟩):=
 mA_ (ι:=otakeX) (fun i j h=>by obtain ⟨p,l,z,hL⟩:=i; obtain ⟨p2,l2,z2,hL2⟩:=j; simp [and_assoc,qB_,qI_,qO_,qC_,qE_,qK_,qR_,qV_,qP_,qOc_,rows_iff_U8,cCut_eq_iff,Int.natCast_inj] at h; obtain ⟨rfl,rfl,rfl⟩:=h; rfl) ⟨p,l,z,hL⟩
theorem otakeS_at (p:Bool) (l:List U8) (z:Nat) (hL:l.length<=140737488355328/\Oct l/\1<=z/\z<=8):otakeS [.ref (1,0) 0,.int .i64 z] [.obj [.bool true,.bool p,.sl 1 (rows cU8 l)]]=some (⟨.tup [.int .u64 (rdN z (p,l)),.bool (rdK z (p,l))],[.obj [.bool true,.bool (rdR z (p,l)).1,.sl 1 (rows cU8 (rdR z (p,l)).2)]],[]⟩):=otakeS_atG p l z hL
theorem otake_ok:HSound Try.prog 75 otakeS:=by
 refine sE_ (fn:=Try.f75) rfl rfl (by kernel_rfl) fun args bx hr hS=>?_
 obtain ⟨⟨p,l,z,hL⟩,rfl,rfl,rfl⟩:=mO_ hS
 clear hS
 refine ⟨_,(eH_ (g:=95) (by kernel_rfl) onext_ok (eN_ _)),by simp [Try.f75],by simp [go_sem],fun w Mx pin=>?_⟩
 simp only [hB_at,lab_nil,lab_cons,hOf_nil,hOf_cons]
 obtain ⟨hl1,hl2,hz1,hz8⟩:=hL
 have g1:¬ (z:Int) < 1:=by omega
 have g2:¬ (8:Int) < (z:Int):=by omega
 have hne:=rdN_eq z (p,l)
 have hLo:=rdL_oct (w:=z) (r:=(p,l)) hl2
 have hL8:=rdL_len z (p,l)
 generalize hLL:rdL z (p,l)=L at hne hLo hL8
 have hLl:L.length<=100000:=by omega
 refine aQ_ ?_
 iterate 2
  refine oC_ fun J hJ=>?_
  simp [go_sem]
  refine hJ _ _ _ ?_
 refine oN_ ?_
 refine aS_ fun K2 hK2=>?_
 refine aQ_ ?_
 iterate 6
  refine oC_ fun J hJ=>?_
  simp [go_sem,g1,g2]
  refine hJ _ _ _ ?_
 refine oN_ ?_
 refine aF_ rfl ?_
 refine aK_ ?_
 refine hK2 _ ?_
 refine aQ_ ?_
 iterate 8
  refine oC_ fun J hJ=>?_
  simp [go_sem,onextS_at p l z hl1,hLL]
  refine hJ _ _ _ ?_
 refine oN_ ?_
 refine aQ_ ?_
 iterate 1
  refine oC_ fun J hJ=>?_
  simp [go_sem]
  refine hJ _ _ _ ?_
 refine oN_ ?_
 refine aS_ fun K7 hK7=>?_
 refine aQ_ ?_
 iterate 3
  refine oC_ fun J hJ=>?_
  simp [go_sem]
  refine hJ _ _ _ ?_
 refine oN_ ?_
 refine aB_ ?_
 refine aL_ (ι:={ q:List U8 × List U8 // q.1++q.2=L/\True }) (fun q=>otakeI z (p,l) L q.1.1 q.1.2) (fun q=>q.1.2.length) ⟨([],L),rfl,trivial⟩ ?_ ?_
 · refine wO_ [((1,0),some (1,0))] (by simp [go_sem]) ?_ ?_ <;> simp [go_sem]
 intro ⟨⟨pre,post⟩,hl,hgo⟩
 simp only at hl hgo
 have hpl:=lS_ hl hLl
 simp only [otakeI]
 refine aQ_ ?_
 iterate 1
  refine oC_ fun J hJ=>?_
  simp [go_sem]
  refine hJ _ _ _ ?_
 refine oN_ ?_
 refine aS_ fun K10 hK10=>?_
 refine aC_ (t:=_) rfl (fun c11=>?_) (fun c11=>?_)
 ·
  simp [go_sem] at c11
  obtain ⟨x,post,rfl,hx⟩:=mL_ hl c11
  have hx0:=hLo x (List.mem_of_getElem? hx)
  have hpo:Oct pre:=fun n hn=>hLo n (by rw [<-hl]; simp [hn])
  have hpb:=beN_bound hpo
  have hp7:pre.length<=7:=by have:=congrArg List.length hl; simp at this; omega
  have hlt:beN pre < 72057594037927936:=by
   have h7:(256:Int) ^ pre.length<=256 ^ 7:=by
    rcases (show pre.length=0\/pre.length=1\/pre.length=2\/pre.length=3\/pre.length=4\/pre.length=5\/pre.length=6\/pre.length=7 by omega) with h | h | h | h | h | h | h | h <;> rw [h] <;> simp only [Int.reducePow] <;> omega
   have h8:(256:Int) ^ 7=72057594037927936:=by simp only [Int.reducePow]
   omega
  have hsh:=shl_u64 (beN pre) hpb.1 hlt
  have hcv:IntKind.u64.wrap x=x:=by rw [IntKind.wrap_u64]; omega
  have hor:=or_low (beN pre) x hpb.1 hlt hx0.1 hx0.2
  refine aK_ ?_
  refine hK10 _ ?_
  refine aS_ fun K12 hK12=>?_
  refine aB_ ?_
  refine aQ_ ?_
  iterate 3
   refine oC_ fun J hJ=>?_
   simp [go_sem,hx]
   refine hJ _ _ _ ?_
  refine oN_ ?_
  refine aR_ ?_
  iterate 6
   refine oC_ fun J hJ=>?_
   simp [go_sem,↓hsh,hcv,↓hor]
   refine hJ _ _ _ ?_
  refine oN_ ?_
  refine hK12 _ ?_
  refine aR_ ?_
  iterate 2
   refine oC_ fun J hJ=>?_
   simp [go_sem]
   refine hJ _ _ _ ?_
  refine oN_ ?_
  refine ⟨⟨(pre++[x],post),by simp [<-hl],by exact trivial⟩,?_,by simp⟩
  refine wO_ [((1,0),some (1,0))] (by simp [go_sem]) ?_ ?_ <;> simp [go_sem,wN_ hpl,beN_snoc,hx0]
 ·
  simp [go_sem] at c11
  obtain ⟨rfl,rfl⟩:=mN_ hl c11
  refine aX_ ?_
  simp only [go_sem]
  refine hK7 _ ?_
  refine aQ_ ?_
  iterate 4
   refine oC_ fun J hJ=>?_
   simp [go_sem]
   refine hJ _ _ _ ?_
  refine oN_ ?_
  refine aE_ ?_
  refine fQ_ [((1,0),some (1,0))] ?_
  simp [go_sem,Try.f75,hne]
structure ptakeX where
 p:Bool
 l:List U8
 z:Nat
 hL:l.length<=140737488355328/\Oct l/\1<=z/\z<=8
noncomputable def ptakeS:HSpec:=mkH (ι:=ptakeX) (fun ⟨p,l,z,hL⟩=>([.agg [.ref (1,0) 0],.int .i64 z],[.obj [.bool true,.bool p,.sl 1 (rows cU8 l)]])) fun ⟨p,l,z,hL⟩=>⟨.int .i64 (tk z (p,l)),[.obj [.bool true,.bool (rdR z (p,l)).1,.sl 1 (rows cU8 (rdR z (p,l)).2)]],[]⟩
theorem ptakeS_atG (p:Bool) (l:List U8) (z:Nat) (hL:l.length<=140737488355328/\Oct l/\1<=z/\z<=8):ptakeS [.agg [.ref (1,0) 0],.int .i64 z] [.obj [.bool true,.bool p,.sl 1 (rows cU8 l)]]=some (⟨.int .i64 (tk z (p,l)),[.obj [.bool true,.bool (rdR z (p,l)).1,.sl 1 (rows cU8 (rdR z (p,l)).2)]],[]⟩):=
 mA_ (ι:=ptakeX) (fun i j h=>by obtain ⟨p,l,z,hL⟩:=i; obtain ⟨p2,l2,z2,hL2⟩:=j; simp [and_assoc,qB_,qI_,qO_,qC_,qE_,qK_,qR_,qV_,qP_,qOc_,rows_iff_U8,cCut_eq_iff,Int.natCast_inj] at h; obtain ⟨rfl,rfl,rfl⟩:=h; rfl) ⟨p,l,z,hL⟩
theorem ptakeS_at (p:Bool) (l:List U8) (z:Nat) (hL:l.length<=140737488355328/\Oct l/\1<=z/\z<=8):ptakeS [.agg [.ref (1,0) 0],.int .i64 z] [.obj [.bool true,.bool p,.sl 1 (rows cU8 l)]]=some (⟨.int .i64 (tk z (p,l)),[.obj [.bool true,.bool (rdR z (p,l)).1,.sl 1 (rows cU8 (rdR z (p,l)).2)]],[]⟩):=ptakeS_atG p l z hL
theorem ptake_ok:HSound Try.prog 48 ptakeS:=by
 refine sE_ (fn:=Try.f48) rfl rfl (by kernel_rfl) fun args bx hr hS=>?_
 obtain ⟨⟨p,l,z,hL⟩,rfl,rfl,rfl⟩:=mO_ hS
 clear hS
 refine ⟨_,(eH_ (g:=75) (by kernel_rfl) otake_ok (eN_ _)),by simp [Try.f48],by simp [go_sem],fun w Mx pin=>?_⟩
 simp only [hB_at,lab_nil,lab_cons,hOf_nil,hOf_cons]
 refine aQ_ ?_
 iterate 2
  refine oC_ fun J hJ=>?_
  simp [go_sem]
  refine hJ _ _ _ ?_
 refine oN_ ?_
 refine aQ_ ?_
 iterate 9
  refine oC_ fun J hJ=>?_
  simp [go_sem,otakeS_at p l z hL]
  refine hJ _ _ _ ?_
 refine oN_ ?_
 refine aQ_ ?_
 iterate 3
  refine oC_ fun J hJ=>?_
  simp [go_sem]
  refine hJ _ _ _ ?_
 refine oN_ ?_
 refine aE_ ?_
 refine fQ_ [((1,0),some (1,0))] ?_
 simp [go_sem,Try.f48,tk]
theorem ptake_r (r:Rd) (z:Nat) (x:Int) (hx:x=(z:Int)) (h:(r.2.length<=140737488355328/\Oct r.2)/\1<=z/\z<=8):ptakeS [.agg [.ref (1,0) 0],.int .i64 x] [.obj [.bool true,.bool r.1,.sl 1 (rows cU8 r.2)]]=some ⟨.int .i64 (tk z r),[.obj [.bool true,.bool (rdR z r).1,.sl 1 (rows cU8 (rdR z r).2)]],[]⟩:=hx ▸ ptakeS_at r.1 r.2 z ⟨h.1.1,h.1.2,h.2⟩
theorem rdR_ok {r:Rd} (z:Nat) (h:r.2.length<=140737488355328/\Oct r.2):(rdR z r).2.length<=140737488355328/\Oct (rdR z r).2:=⟨Nat.le_trans (rdR_len _ _) h.1,rdR_oct h.2⟩
end Go.Proofs.Ytfbooejaabdkoaa.AE
