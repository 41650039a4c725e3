/-
 A sheet: put: contract. Conditions: none; every contract names its own.
-/
import Derived.Test.YtfbooejaabdkoaaOOc1
set_option linter.constructorNameAsVariable false
namespace Go.Proofs.Ytfbooejaabdkoaa.AE
open Go Go.Proofs Go.RowKit
set_option linter.unusedVariables false
set_option linter.unusedSimpArgs false
set_option maxRecDepth 100000
set_option maxHeartbeats 4000000
def shV (z:Nat) (s:List U8) (l:List Int):List U8:=s++l.flatMap (be z)
theorem shV_snoc (z s l x):shV z s (l++[x])=shV z s l++be z x:=by simp [shV]
theorem shV_nil (z s):shV z s []=s:=by simp [shV]
theorem flat_len (z:Nat):∀ l:List Int,(l.flatMap (be z)).length=z * l.length
 | []=>rfl
 | x :: l=>by simp only [List.flatMap_cons,List.length_append,be_len,flat_len z l,List.length_cons,Nat.mul_succ]; omega
structure sputX where
 s:List U8
 z:Nat
 L:List Int
 L':AV
 h_L:SlA 1 cInt L L'
 hL:s.length<=5000/\L.length<=1000/\1<=z/\z<=8
noncomputable def sputS:HSpec:=mkH (ι:=sputX) (fun ⟨s,z,L,L',h_L,hL⟩=>([.ref (1,0) 0,.int .i64 z,L'],[.obj [.sl 1 (rows cU8 s)]])) fun ⟨s,z,L,L',h_L,hL⟩=>⟨.tup [],[.obj [.sl 1 (rows cU8 (shV z s L))]],[]⟩
theorem sputS_atG (s:List U8) (z:Nat) (L:List Int) (L':AV) (h_L:SlA 1 cInt L L') (hL:s.length<=5000/\L.length<=1000/\1<=z/\z<=8):sputS [.ref (1,0) 0,.int .i64 z,L'] [.obj [.sl 1 (rows cU8 s)]]=some (⟨.tup [],[.obj [.sl 1 (rows cU8 (shV z s L))]],[]⟩):=
 mA_ (ι:=sputX) (fun i j h=>by obtain ⟨s,z,L,L',h_L,hL⟩:=i; obtain ⟨s2,z2,L2,L'2,h_L2,hL2⟩:=j; simp [and_assoc,qB_,qI_,qO_,qC_,qE_,qK_,qR_,qV_,qP_,qOc_,rows_iff_U8,cCut_eq_iff,Int.natCast_inj] at h; obtain ⟨rfl,rfl,rfl⟩:=h; obtain rfl:=SlA.inj (fun x y h=>cInt_inj h) h_L h_L2; rfl) ⟨s,z,L,L',h_L,hL⟩
theorem sputS_at (s:List U8) (z:Nat) (L:List Int) (hL:s.length<=5000/\L.length<=1000/\1<=z/\z<=8):sputS [.ref (1,0) 0,.int .i64 z,(.sl 1 (rows cInt L))] [.obj [.sl 1 (rows cU8 s)]]=some (⟨.tup [],[.obj [.sl 1 (rows cU8 (shV z s L))]],[]⟩):=sputS_atG s z L _ .sl hL
def sputI (z:Nat) (s:List U8) (L pre _post:List Int):St:=⟨ofL [(0,.ref (1,0) 0),(1,.int .i64 z),(8,.sl 1 (rows cInt L)),(9,.int .i64 L.length),(10,.int .i64 pre.length)],hOf [((1,0),.obj [.sl 1 (rows cU8 (shV z s pre))])]⟩
theorem sput_ok:HSound Try.prog 51 sputS:=by
 refine sE_ (fn:=Try.f51) rfl rfl (by kernel_rfl) fun args bx hr hS=>?_
 obtain ⟨⟨s,z,L,L',h_L,hL⟩,rfl,rfl,rfl⟩:=mO_ hS
 clear hS
 refine ⟨_,(eV_ (g:=76) (by kernel_rfl) oput_ok (eN_ _)),by simp [Try.f51],by simp [go_sem],fun w Mx pin=>?_⟩
 simp only [hB_at,lab_nil,lab_cons,hOf_nil,hOf_cons]
 refine aW_ (s':=⟨ofL [(0,.ref (1,0) 0),(1,.int .i64 z),(2,(.sl 1 (rows cInt L)))],hOf [((1,0),.obj [.sl 1 (rows cU8 s)])]⟩) ?_ ?_
 · cases h_L <;> exact wO_ [((1,0),some (1,0))] (by simp [go_sem]) (by simp [go_sem]) (by simp [go_sem])
 clear h_L
 obtain ⟨hs,hl1,hz1,hz8⟩:=hL
 have hLl:L.length<=100000:=by omega
 refine aQ_ ?_
 iterate 3
  refine oC_ fun J hJ=>?_
  simp [go_sem]
  refine hJ _ _ _ ?_
 refine oN_ ?_
 refine aB_ ?_
 refine aL_ (ι:={ q:List Int × List Int // q.1++q.2=L/\True }) (fun q=>sputI z s L q.1.1 q.1.2) (fun q=>q.1.2.length) ⟨([],L),rfl,trivial⟩ ?_ ?_
 · refine wO_ [((1,0),some (1,0))] (by simp [go_sem]) ?_ ?_ <;> simp [go_sem,dropped,shV_nil]
 intro ⟨⟨pre,post⟩,hl,hgo⟩
 simp only at hl hgo
 have hpl:=lS_ hl hLl
 simp only [sputI]
 obtain ⟨S,hS⟩:∃ S,S=shV z s pre:=⟨_,rfl⟩
 simp only [<-hS]
 refine aQ_ ?_
 iterate 1
  refine oC_ fun J hJ=>?_
  simp [go_sem]
  refine hJ _ _ _ ?_
 refine oN_ ?_
 refine aS_ fun K3 hK3=>?_
 refine aC_ (t:=_) rfl (fun c4=>?_) (fun c4=>?_)
 ·
  simp [go_sem] at c4
  obtain ⟨x,post,rfl,hx⟩:=mL_ hl c4
  have hfl:=flat_len z pre
  have hpL:pre.length < L.length:=by rw [<-hl]; simp
  have hb:S.length<=100000:=by rw [hS,shV,List.length_append,hfl]; have:z * pre.length<=8 * 1000:=Nat.mul_le_mul hz8 (by omega); omega
  have hop:=oputS_at S (IntKind.u64.wrap x) z ⟨hb,hz1,hz8⟩
  rw [be_wrap z x hz8] at hop
  have htk:List.take (S.length + z) (S++be z x)=S++be z x:=List.take_of_length_le (by simp [be_len])
  refine aK_ ?_
  refine hK3 _ ?_
  refine aS_ fun K5 hK5=>?_
  refine aB_ ?_
  refine aQ_ ?_
  iterate 3
   refine oC_ fun J hJ=>?_
   simp [go_sem,hx]
   refine hJ _ _ _ ?_
  refine oN_ ?_
  refine aR_ ?_
  iterate 10
   refine oC_ fun J hJ=>?_
   simp [go_sem,↓hop,htk]
   refine hJ _ _ _ ?_
  refine oN_ ?_
  refine hK5 _ ?_
  refine aR_ ?_
  iterate 2
   refine oC_ fun J hJ=>?_
   simp [go_sem]
   refine hJ _ _ _ ?_
  refine oN_ ?_
  refine ⟨⟨(pre++[x],post),by simp [<-hl],by exact trivial⟩,?_,by simp⟩
  refine wO_ [((1,0),some (1,0))] (by simp [go_sem]) ?_ ?_ <;> simp [go_sem,wN_ hpl,dropped,shV_snoc,<-hS,htk]
 ·
  simp [go_sem] at c4
  obtain ⟨rfl,rfl⟩:=mN_ hl c4
  subst hS
  refine aX_ ?_
  simp only [go_sem]
  refine fQ_ [((1,0),some (1,0))] ?_
  simp [go_sem,Try.f51]
end Go.Proofs.Ytfbooejaabdkoaa.AE
