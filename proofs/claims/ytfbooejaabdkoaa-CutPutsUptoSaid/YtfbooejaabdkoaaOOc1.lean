/-
 Package octet: Put, New, fine: contracts. Conditions: none; every contract names its own.
-/
import Derived.Test.YtfbooejaabdkoaaOOc0
import Derived.Test.YtfbooejaabdkoaaPc
set_option linter.constructorNameAsVariable false
namespace Go.Proofs.Ytfbooejaabdkoaa.AE
open Go Go.Proofs Go.RowKit
set_option linter.unusedVariables false
set_option linter.unusedSimpArgs false
set_option maxRecDepth 100000
set_option maxHeartbeats 4000000
def oputI (n:Int) (b X:List U8) (k:Nat):St:=⟨ofL [(1,.int .u64 n),(7,.own (0,999) (b.length + X.length)),(8,.int .i64 ((k:Int) - 1))],hOf [((0,999),.row 5 1 (rows cU8 (b++X)) false)]⟩
theorem shr_be (n:Int) (k:Nat) (hk:k < 8):aInt .shr .u64 n (8 * (k:Int))=some (.int .u64 (n / 256 ^ k)):=by
 have h:¬ (8 * (k:Int) < 0):=by omega
 have h2:min (8 * (k:Int)).toNat IntKind.u64.bits=8 * k:=by simp only [IntKind.bits]; omega
 rw [aInt_shr,if_neg h,h2]
 congr 2
 rw [Int.fdiv_eq_ediv_of_nonneg _ (by exact Int.pow_nonneg (by omega)),Int.pow_mul]
 rfl
structure oputX where
 b:List U8
 b':AV
 n:Int
 z:Nat
 h_b:SlA 1 cU8 b b'
 hL:b.length<=100000/\1<=z/\z<=8
noncomputable def oputS:HSpec:=mkH (ι:=oputX) (fun ⟨b,b',n,z,h_b,hL⟩=>([b',.int .u64 n,.int .i64 z],[])) fun ⟨b,b',n,z,h_b,hL⟩=>⟨.own (2,0) (b.length + z),[],[.row 5 1 (rows cU8 (b++be z n)) false]⟩
theorem oputS_atG (b:List U8) (b':AV) (n:Int) (z:Nat) (h_b:SlA 1 cU8 b b') (hL:b.length<=100000/\1<=z/\z<=8):oputS [b',.int .u64 n,.int .i64 z] []=some (⟨.own (2,0) (b.length + z),[],[.row 5 1 (rows cU8 (b++be z n)) false]⟩):=
 mA_ (ι:=oputX) (fun i j h=>by obtain ⟨b,b',n,z,h_b,hL⟩:=i; obtain ⟨b2,b'2,n2,z2,h_b2,hL2⟩:=j; simp [and_assoc,qB_,qI_,qO_,qC_,qE_,qK_,qR_,qV_,qP_,qOc_,rows_iff_U8,cCut_eq_iff,Int.natCast_inj] at h; obtain ⟨rfl,rfl,rfl⟩:=h; obtain rfl:=SlA.inj (fun x y h=>cU8_inj h) h_b h_b2; rfl) ⟨b,b',n,z,h_b,hL⟩
theorem oputS_at (b:List U8) (n:Int) (z:Nat) (hL:b.length<=100000/\1<=z/\z<=8):oputS [(.sl 1 (rows cU8 b)),.int .u64 n,.int .i64 z] []=some (⟨.own (2,0) (b.length + z),[],[.row 5 1 (rows cU8 (b++be z n)) false]⟩):=oputS_atG b _ n z .sl hL
theorem oput_ok:HSound Try.prog 76 oputS:=by
 refine sE_ (fn:=Try.f76) rfl rfl (by kernel_rfl) fun args bx hr hS=>?_
 obtain ⟨⟨b,b',n,z,h_b,hL⟩,rfl,rfl,rfl⟩:=mO_ hS
 clear hS
 refine ⟨_,(eN_ _),by simp [Try.f76],by simp [go_sem],fun w Mx pin=>?_⟩
 simp only [hB_at,lab_nil,lab_cons,hOf_nil,hOf_cons]
 refine aW_ (s':=⟨ofL [(0,(.sl 1 (rows cU8 b))),(1,.int .u64 n),(2,.int .i64 z)],hOf []⟩) ?_ ?_
 · cases h_b <;> exact wO_ [] (by simp [go_sem]) (by simp [go_sem]) (by simp [go_sem])
 clear h_b
 obtain ⟨hb,hw1,hw8⟩:=hL
 have g1:¬ (z:Int) < 1:=by omega
 have g2:¬ (8:Int) < (z:Int):=by omega
 have ww:IntKind.i64.wrap ((z:Int) - 1)=(z:Int) - 1:=wA_ (by omega)
 refine aQ_ ?_
 iterate 1
  refine oC_ fun J hJ=>?_
  simp [go_sem]
  refine hJ _ _ _ ?_
 refine oN_ ?_
 refine aQ_ ?_
 iterate 4
  refine oC_ fun J hJ=>?_
  simp [go_sem,show (b.length)<=140737488355328 by omega,show (b.length)<=maxLen by (simp only [maxLen]; omega)]
  refine hJ _ _ _ ?_
 refine oN_ ?_
 refine aS_ fun K3 hK3=>?_
 refine aQ_ ?_
 iterate 6
  refine oC_ fun J hJ=>?_
  simp [go_sem,g1,g2]
  refine hJ _ _ _ ?_
 refine oN_ ?_
 refine aF_ rfl ?_
 refine aK_ ?_
 refine hK3 _ ?_
 refine aS_ fun K7 hK7=>?_
 refine aQ_ ?_
 iterate 3
  refine oC_ fun J hJ=>?_
  simp [go_sem,ww]
  refine hJ _ _ _ ?_
 refine oN_ ?_
 refine aB_ ?_
 refine aL_ (ι:={ q:List U8 × Nat // q.1++be q.2 n=be z n/\q.2<=z }) (fun q=>oputI n b q.1.1 q.1.2) (fun q=>q.1.2) ⟨([],z),rfl,Nat.le_refl _⟩ ?_ ?_
 · refine wO_ [((0,999),some (0,176))] (by simp [go_sem]) ?_ ?_ <;> simp [go_sem]
 intro ⟨⟨X,k⟩,hX,hk⟩
 simp only at hX hk
 have hXl:X.length + k=z:=by have:=congrArg List.length hX; simpa [be_len] using this
 simp only [oputI]
 refine aS_ fun K9 hK9=>?_
 refine aQ_ ?_
 iterate 2
  refine oC_ fun J hJ=>?_
  simp [go_sem]
  refine hJ _ _ _ ?_
 refine oN_ ?_
 refine aC_ (t:=_) rfl (fun c11=>?_) (fun c11=>?_)
 ·
  simp [go_sem] at c11
  obtain ⟨k,rfl⟩:∃ k0,k=k0 + 1:=⟨k - 1,by omega⟩
  have wk2:IntKind.i64.wrap ((k:Int) - 1)=(k:Int) - 1:=wA_ (by omega)
  have wk8:IntKind.i64.wrap (8 * (k:Int))=8 * (k:Int):=wA_ (by omega)
  have hsh:=shr_be n k (by omega)
  have htk:List.take (b.length + X.length) (b++X)=b++X:=List.take_of_length_le (by simp)
  refine aK_ ?_
  refine hK9 _ ?_
  refine aS_ fun K12 hK12=>?_
  refine aB_ ?_
  refine aR_ ?_
  iterate 9
   refine oC_ fun J hJ=>?_
   simp [go_sem,wk8,↓hsh,wrap8,htk,show (b.length + X.length + 1)<=140737488355328 by omega,show (b.length + X.length + 1)<=maxLen by (simp only [maxLen]; omega)]
   refine hJ _ _ _ ?_
  refine oN_ ?_
  refine hK12 _ ?_
  refine aR_ ?_
  iterate 3
   refine oC_ fun J hJ=>?_
   simp [go_sem,wk2]
   refine hJ _ _ _ ?_
  refine oN_ ?_
  refine ⟨⟨(X++[n / 256 ^ k % 256],k),by simpa [be] using hX,by omega⟩,?_,by simp⟩
  refine wO_ [((0,999),some (0,512))] (by simp [go_sem]) ?_ ?_ <;> simp [go_sem,wk2,Nat.add_assoc]
 ·
  simp [go_sem] at c11
  obtain rfl:k=0:=by omega
  simp only [be,List.append_nil] at hX
  subst hX
  rw [be_len] at hXl
  refine aX_ ?_
  simp only [go_sem]
  refine hK7 _ ?_
  refine aQ_ ?_
  iterate 2
   refine oC_ fun J hJ=>?_
   simp [go_sem]
   refine hJ _ _ _ ?_
  refine oN_ ?_
  refine aE_ ?_
  refine fQ_ [((2,0),some (0,999))] ?_
  simp [go_sem,Try.f76,be_len]
structure onewX where
 b:List U8
 b':AV
 h_b:SlA 1 cU8 b b'
 hL:b.length<=140737488355328
noncomputable def onewS:HSpec:=mkH (ι:=onewX) (fun ⟨b,b',h_b,hL⟩=>([b'],[])) fun ⟨b,b',h_b,hL⟩=>⟨.ref (2,0) 0,[],[.obj [.bool true,.bool false,.sl 1 (rows cU8 b)]]⟩
theorem onewS_atG (b:List U8) (b':AV) (h_b:SlA 1 cU8 b b') (hL:b.length<=140737488355328):onewS [b'] []=some (⟨.ref (2,0) 0,[],[.obj [.bool true,.bool false,.sl 1 (rows cU8 b)]]⟩):=
 mA_ (ι:=onewX) (fun i j h=>by obtain ⟨b,b',h_b,hL⟩:=i; obtain ⟨b2,b'2,h_b2,hL2⟩:=j; simp [and_assoc,qB_,qI_,qO_,qC_,qE_,qK_,qR_,qV_,qP_,qOc_,rows_iff_U8,cCut_eq_iff,Int.natCast_inj] at h; obtain rfl:=h; obtain rfl:=SlA.inj (fun x y h=>cU8_inj h) h_b h_b2; rfl) ⟨b,b',h_b,hL⟩
theorem onewS_at (b:List U8) (hL:b.length<=140737488355328):onewS [(.sl 1 (rows cU8 b))] []=some (⟨.ref (2,0) 0,[],[.obj [.bool true,.bool false,.sl 1 (rows cU8 b)]]⟩):=onewS_atG b _ .sl hL
theorem onew_ok:HSound Try.prog 47 onewS:=by
 refine sE_ (fn:=Try.f47) rfl rfl (by kernel_rfl) fun args bx hr hS=>?_
 obtain ⟨⟨b,b',h_b,hL⟩,rfl,rfl,rfl⟩:=mO_ hS
 clear hS
 refine ⟨_,(eN_ _),by simp [Try.f47],by simp [go_sem],fun w Mx pin=>?_⟩
 simp only [hB_at,lab_nil,lab_cons,hOf_nil,hOf_cons]
 refine aW_ (s':=⟨ofL [(0,(.sl 1 (rows cU8 b)))],hOf []⟩) ?_ ?_
 · cases h_b <;> exact wO_ [] (by simp [go_sem]) (by simp [go_sem]) (by simp [go_sem])
 clear h_b
 refine aQ_ ?_
 iterate 1
  refine oC_ fun J hJ=>?_
  simp [go_sem]
  refine hJ _ _ _ ?_
 refine oN_ ?_
 refine aQ_ ?_
 iterate 6
  refine oC_ fun J hJ=>?_
  simp [go_sem,show (b.length)<=140737488355328 by omega,show (b.length)<=maxLen by (simp only [maxLen]; omega)]
  refine hJ _ _ _ ?_
 refine oN_ ?_
 refine aE_ ?_
 refine fQ_ [((2,0),some (0,112))] ?_
 simp [go_sem,Try.f47,dropped]
structure ofineX where
 p:Bool
 l:List U8
noncomputable def ofineS:HSpec:=mkH (ι:=ofineX) (fun ⟨p,l⟩=>([.iref [.bool true,.bool p,.sl 1 (rows cU8 l)] 0],[])) fun ⟨p,l⟩=>⟨.bool (!p),[],[]⟩
theorem ofineS_atG (p:Bool) (l:List U8):ofineS [.iref [.bool true,.bool p,.sl 1 (rows cU8 l)] 0] []=some (⟨.bool (!p),[],[]⟩):=
 mA_ (ι:=ofineX) (fun i j h=>by obtain ⟨p,l⟩:=i; obtain ⟨p2,l2⟩:=j; simp [and_assoc,qB_,qI_,qO_,qC_,qE_,qK_,qR_,qV_,qP_,qOc_,rows_iff_U8,cCut_eq_iff,Int.natCast_inj] at h; obtain ⟨rfl,rfl⟩:=h; rfl) ⟨p,l⟩
theorem ofineS_at (p:Bool) (l:List U8):ofineS [.iref [.bool true,.bool p,.sl 1 (rows cU8 l)] 0] []=some (⟨.bool (!p),[],[]⟩):=ofineS_atG p l
theorem ofine_ok:HSound Try.prog 101 ofineS:=by
 refine sE_ (fn:=Try.f101) rfl rfl (by kernel_rfl) fun args bx hr hS=>?_
 obtain ⟨⟨p,l⟩,rfl,rfl,rfl⟩:=mO_ hS
 clear hS
 refine ⟨_,(eN_ _),by simp [Try.f101],by simp [go_sem],fun w Mx pin=>?_⟩
 simp only [hB_at,lab_nil,lab_cons,hOf_nil,hOf_cons]
 refine aQ_ ?_
 iterate 1
  refine oC_ fun J hJ=>?_
  simp [go_sem]
  refine hJ _ _ _ ?_
 refine oN_ ?_
 refine aS_ fun K2 hK2=>?_
 cases p
 all_goals
  refine aR_ ?_
  iterate 16
   refine oC_ fun J hJ=>?_
   simp [go_sem]
   refine hJ _ _ _ ?_
  refine oN_ ?_
  refine hK2 _ ?_
  refine aE_ ?_
  refine fQ_ [] ?_
  simp [go_sem,Try.f101]
end Go.Proofs.Ytfbooejaabdkoaa.AE
