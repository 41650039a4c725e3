/-
 ref02.Put: contract. Conditions: none; every contract names its own.
-/
import Derived.Test.YtfbooejaabdkoaaOOc3
set_option linter.constructorNameAsVariable false
namespace Go.Proofs.Ytfbooejaabdkoaa.AE
open Go Go.Proofs Go.RowKit
set_option linter.unusedVariables false
set_option linter.unusedSimpArgs false
set_option maxRecDepth 100000
set_option maxHeartbeats 4000000
theorem quo256 (n:Int) (h0:0<=n) (h1:n < 18446744073709551616):aInt .quo .u64 n 256=some (.int .u64 (n / 256)):=by
 show (if (256:Int)=0 then none else some (AV.int .u64 (IntKind.u64.wrap (n.tdiv 256))))=_
 rw [if_neg (by omega),Int.tdiv_eq_ediv_of_nonneg h0,IntKind.wrap_u64]
 congr 2
 omega
theorem rem256 (n:Int) (h0:0<=n):aInt .rem .u64 n 256=some (.int .u64 (n % 256)):=by
 show (if (256:Int)=0 then none else some (AV.int .u64 (n.tmod 256)))=_
 rw [if_neg (by omega),Int.tmod_eq_emod_of_nonneg h0]
theorem div_pow (n:Int) (i:Nat):n / 256 ^ i / 256=n / 256 ^ (i + 1):=by
 rw [Int.pow_succ,Int.ediv_ediv_of_nonneg (Int.pow_nonneg (by omega))]
theorem div_rng (n:Int) (i:Nat) (h0:0<=n) (h1:n < 18446744073709551616):0<=n / 256 ^ i/\n / 256 ^ i < 18446744073709551616:=by
 have hp:(0:Int) < 256 ^ i:=Int.pow_pos (by omega)
 exact ⟨Int.ediv_nonneg h0 (by omega),by have:=Int.ediv_le_self (256 ^ i) h0; omega⟩
def oputRI (n:Int) (z:Nat) (b X:List U8) (k:Nat):St:=⟨ofL [(1,.int .u64 n),(2,.int .i64 z),(7,.own (0,999) (b.length + X.length)),(8,.int .i64 ((k:Int) - 1))],hOf [((0,999),.row 5 1 (rows cU8 (b++X)) false)]⟩
def oputRJ (n:Int) (z:Nat) (b X:List U8) (j i:Nat):St:=⟨ofL [(1,.int .u64 n),(2,.int .i64 z),(7,.own (0,999) (b.length + X.length)),(8,.int .i64 j),(9,.int .u64 (n / 256 ^ i)),(10,.int .i64 i)],hOf [((0,999),.row 5 1 (rows cU8 (b++X)) false)]⟩
structure oputRX where
 b:List U8
 b':AV
 n:Int
 z:Nat
 h_b:SlA 1 cU8 b b'
 hL:b.length<=100000/\1<=z/\z<=8/\0<=n/\n < 18446744073709551616
noncomputable def oputRS:HSpec:=mkH (ι:=oputRX) (fun ⟨b,b',n,z,h_b,hL⟩=>([b',.int .u64 n,.int .i64 z],[])) fun ⟨b,b',n,z,h_b,hL⟩=>⟨.own (2,0) (b.length + z),[],[.row 5 1 (rows cU8 (b++be z n)) false]⟩
theorem oputRS_atG (b:List U8) (b':AV) (n:Int) (z:Nat) (h_b:SlA 1 cU8 b b') (hL:b.length<=100000/\1<=z/\z<=8/\0<=n/\n < 18446744073709551616):oputRS [b',.int .u64 n,.int .i64 z] []=some (⟨.own (2,0) (b.length + z),[],[.row 5 1 (rows cU8 (b++be z n)) false]⟩):=
 mA_ (ι:=oputRX) (fun i j h=>by obtain ⟨b,b',n,z,h_b,hL⟩:=i; obtain ⟨b2,b'2,n2,z2,h_b2,hL2⟩:=j; simp [and_assoc,qB_,qI_,qO_,qC_,qE_,qK_,qR_,qV_,qP_,qOc_,rows_iff_U8,cCut_eq_iff,Int.natCast_inj] at h; obtain ⟨rfl,rfl,rfl⟩:=h; obtain rfl:=SlA.inj (fun x y h=>cU8_inj h) h_b h_b2; rfl) ⟨b,b',n,z,h_b,hL⟩
theorem oputRS_at (b:List U8) (n:Int) (z:Nat) (hL:b.length<=100000/\1<=z/\z<=8/\0<=n/\n < 18446744073709551616):oputRS [(.sl 1 (rows cU8 b)),.int .u64 n,.int .i64 z] []=some (⟨.own (2,0) (b.length + z),[],[.row 5 1 (rows cU8 (b++be z n)) false]⟩):=oputRS_atG b _ n z .sl hL
theorem oputR_ok:HSound Try.prog 59 oputRS:=by
 refine sE_ (fn:=Try.f59) rfl rfl (by kernel_rfl) fun args bx hr hS=>?_
 obtain ⟨⟨b,b',n,z,h_b,hL⟩,rfl,rfl,rfl⟩:=mO_ hS
 clear hS
 refine ⟨_,(eN_ _),by simp [Try.f59],by simp [go_sem],fun w Mx pin=>?_⟩
 simp only [hB_at,lab_nil,lab_cons,hOf_nil,hOf_cons]
 refine aW_ (s':=⟨ofL [(0,(.sl 1 (rows cU8 b))),(1,.int .u64 n),(2,.int .i64 z)],hOf []⟩) ?_ ?_
 · cases h_b <;> exact wO_ [] (by simp [go_sem]) (by simp [go_sem]) (by simp [go_sem])
 clear h_b
 obtain ⟨hb,hw1,hw8,hn0,hn1⟩:=hL
 have g2:(z:Int)<=8:=by omega
 have ww:IntKind.i64.wrap ((z:Int) - 1)=(z:Int) - 1:=wA_ (by omega)
 refine aQ_ ?_
 iterate 1
  refine oC_ fun J hJ=>?_
  simp [go_sem]
  refine hJ _ _ _ ?_
 refine oN_ ?_
 refine aQ_ ?_
 iterate 1
  refine oC_ fun J hJ=>?_
  simp [go_sem]
  refine hJ _ _ _ ?_
 refine oN_ ?_
 refine aQ_ ?_
 iterate 4
  refine oC_ fun J hJ=>?_
  simp [go_sem,show (b.length)<=140737488355328 by omega,show (b.length)<=maxLen by (simp only [maxLen]; omega)]
  refine hJ _ _ _ ?_
 refine oN_ ?_
 refine aS_ fun K4 hK4=>?_
 refine aQ_ ?_
 iterate 3
  refine oC_ fun J hJ=>?_
  simp [go_sem,ww]
  refine hJ _ _ _ ?_
 refine oN_ ?_
 refine aB_ ?_
 refine aL_ (ι:={ q:List U8 × Nat // q.1++be q.2 n=be z n/\q.2<=z }) (fun q=>oputRI n z b q.1.1 q.1.2) (fun q=>q.1.2) ⟨([],z),rfl,Nat.le_refl _⟩ ?_ ?_
 · refine wO_ [((0,999),some (0,208))] (by simp [go_sem]) ?_ ?_ <;> simp [go_sem]
 intro ⟨⟨X,k⟩,hX,hk⟩
 simp only at hX hk
 have hXl:X.length + k=z:=by have:=congrArg List.length hX; simpa [be_len] using this
 simp only [oputRI]
 refine aS_ fun K6 hK6=>?_
 refine aS_ fun K7 hK7=>?_
 rcases (show k=0\/∃ j,k=j + 1 from by cases k with | zero=>exact .inl rfl | succ j=>exact .inr ⟨j,rfl⟩) with rfl | ⟨j,rfl⟩
 ·
  simp only [be,List.append_nil] at hX
  subst hX
  rw [be_len] at hXl
  refine aR_ ?_
  iterate 6
   refine oC_ fun J hJ=>?_
   simp [go_sem]
   refine hJ _ _ _ ?_
  refine oN_ ?_
  refine hK7 _ ?_
  refine aF_ rfl ?_
  refine aX_ ?_
  simp only [go_sem]
  refine hK4 _ ?_
  refine aQ_ ?_
  iterate 2
   refine oC_ fun J hJ=>?_
   simp [go_sem]
   refine hJ _ _ _ ?_
  refine oN_ ?_
  refine aE_ ?_
  refine fQ_ [((2,0),some (0,999))] ?_
  simp [go_sem,Try.f59,be_len]
 ·
  have wk2:IntKind.i64.wrap ((j:Int) - 1)=(j:Int) - 1:=wA_ (by omega)
  have htk:List.take (b.length + X.length) (b++X)=b++X:=List.take_of_length_le (by simp)
  have h0j:¬ ((j:Int) + 1 - 1 < 0):=by omega
  refine aR_ ?_
  iterate 6
   refine oC_ fun J hJ=>?_
   simp [go_sem,g2]
   refine hJ _ _ _ ?_
  refine oN_ ?_
  refine hK7 _ ?_
  refine aT_ rfl ?_
  refine aK_ ?_
  refine hK6 _ ?_
  refine aS_ fun K9 hK9=>?_
  refine aB_ ?_
  refine aQ_ ?_
  iterate 2
   refine oC_ fun J hJ=>?_
   simp [go_sem]
   refine hJ _ _ _ ?_
  refine oN_ ?_
  refine aS_ fun K11 hK11=>?_
  refine aQ_ ?_
  iterate 1
   refine oC_ fun J hJ=>?_
   simp [go_sem]
   refine hJ _ _ _ ?_
  refine oN_ ?_
  refine aB_ ?_
  refine aL_ (ι:={ i:Nat // i<=j }) (fun s=>oputRJ n z b X j s.1) (fun s=>j - s.1) ⟨0,by omega⟩ ?_ ?_
  · refine wO_ [((0,999),some (0,999))] (by simp [go_sem]) ?_ ?_ <;> simp [go_sem]
  intro ⟨i,hi⟩
  try simp only at hi
  have hdr:=div_rng n i hn0 hn1
  simp only [oputRJ]
  refine aS_ fun K13 hK13=>?_
  refine aQ_ ?_
  iterate 3
   refine oC_ fun J hJ=>?_
   simp [go_sem]
   refine hJ _ _ _ ?_
  refine oN_ ?_
  refine aC_ (t:=_) rfl (fun c15=>?_) (fun c15=>?_)
  ·
   simp [go_sem] at c15
   have hi8:i + 1<=j:=by omega
   have hq:=quo256 (n / 256 ^ i) hdr.1 hdr.2
   refine aK_ ?_
   refine hK13 _ ?_
   refine aS_ fun K16 hK16=>?_
   refine aB_ ?_
   refine aR_ ?_
   iterate 3
    refine oC_ fun J hJ=>?_
    simp [go_sem,↓hq]
    refine hJ _ _ _ ?_
   refine oN_ ?_
   refine hK16 _ ?_
   refine aR_ ?_
   iterate 3
    refine oC_ fun J hJ=>?_
    simp [go_sem]
    refine hJ _ _ _ ?_
   refine oN_ ?_
   refine ⟨⟨i + 1,hi8⟩,?_,by simp only; omega⟩
   refine wO_ [((0,999),some (0,999))] (by simp [go_sem]) ?_ ?_ <;> simp [go_sem,div_pow,wN_ (n:=i) (by omega)]
  ·
   simp [go_sem] at c15
   obtain rfl:j=i:=by omega
   have hr:=rem256 (n / 256 ^ j) hdr.1
   have hmm:n / 256 ^ j % 256 % 256=n / 256 ^ j % 256:=by omega
   refine aX_ ?_
   simp only [go_sem]
   refine hK11 _ ?_
   refine aR_ ?_
   iterate 7
    refine oC_ fun J hJ=>?_
    simp [go_sem,↓hr,wrap8,hmm,htk,show (b.length + X.length + 1)<=140737488355328 by omega,show (b.length + X.length + 1)<=maxLen by (simp only [maxLen]; omega)]
    refine hJ _ _ _ ?_
   refine oN_ ?_
   refine hK9 _ ?_
   refine aR_ ?_
   iterate 3
    refine oC_ fun J hJ=>?_
    simp [go_sem,wk2]
    refine hJ _ _ _ ?_
   refine oN_ ?_
   refine ⟨⟨(X++[n / 256 ^ j % 256],j),by simpa [be] using hX,by omega⟩,?_,by simp⟩
   refine wO_ [((0,999),some (0,592))] (by simp [go_sem]) ?_ ?_ <;> simp [go_sem,wk2,Nat.add_assoc]
end Go.Proofs.Ytfbooejaabdkoaa.AE
