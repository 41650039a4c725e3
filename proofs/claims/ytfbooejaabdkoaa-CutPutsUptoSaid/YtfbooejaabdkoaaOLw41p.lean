/-
 CutPuts. Conditions: none; every contract names its own.
-/
import Derived.Test.YtfbooejaabdkoaaOAl41
import Derived.Test.YtfbooejaabdkoaaOOc14
import Derived.Test.YtfbooejaabdkoaaOOc15
import Derived.Test.YtfbooejaabdkoaaPg
set_option linter.constructorNameAsVariable false
namespace Go.Proofs.Ytfbooejaabdkoaa.AE
open Go Go.Proofs Go.RowKit
set_option linter.unusedVariables false
set_option linter.unusedSimpArgs false
set_option maxRecDepth 100000
set_option maxHeartbeats 4000000
theorem same_zero:cutSameS [.agg (cCut 0 (zV 4) zBk (.sl 7 [])),.agg (cCut 0 (zV 4) zBk .nils)] []=some ⟨.bool true,[],[]⟩:=by
 have:=cutSameS_atG 0 (zV 4) zBk [] _ 0 (zV 4) zBk [] _ .sl .nil (by simp)
 simp only [sameB,decide_true,Bool.and_self,and_self] at this
 exact this
theorem getB_at {t:List Int} (h:getB t=true):checkC (getG t)=true/\octs (getG t)=t:=by
 simpa [getB] using h
structure cutPutsX where
 n:Int
 k:Vn 4
 b:Bk
 os:List Ord
 os':AV
 t:List U8
 t':AV
 h_os:SlA 7 cOrd os os'
 h_t:SlA 1 cU8 t t'
 hL:CutI ⟨n,k,b,os⟩/\t.length<=140737488355328/\Oct t
noncomputable def cutPutsS:HSpec:=mkH (ι:=cutPutsX) (fun ⟨n,k,b,os,os',t,t',h_os,h_t,hL⟩=>([.agg (cCut n k b os'),t'],[])) fun ⟨n,k,b,os,os',t,t',h_os,h_t,hL⟩=>⟨.bool true,[],[]⟩
theorem cutPutsS_atG (n:Int) (k:Vn 4) (b:Bk) (os:List Ord) (os':AV) (t:List U8) (t':AV) (h_os:SlA 7 cOrd os os') (h_t:SlA 1 cU8 t t') (hL:CutI ⟨n,k,b,os⟩/\t.length<=140737488355328/\Oct t):cutPutsS [.agg (cCut n k b os'),t'] []=some (⟨.bool true,[],[]⟩):=
 mA_ (ι:=cutPutsX) (fun i j h=>by obtain ⟨n,k,b,os,os',t,t',h_os,h_t,hL⟩:=i; obtain ⟨n2,k2,b2,os2,os'2,t2,t'2,h_os2,h_t2,hL2⟩:=j; simp [and_assoc,qB_,qI_,qO_,qC_,qE_,qK_,qR_,qV_,qP_,qOc_,cCut_eq_iff] at h; obtain ⟨rfl,rfl,rfl,rfl,rfl⟩:=h; obtain rfl:=SlA.inj (fun x y h=>cOrd_inj h) h_os h_os2; obtain rfl:=SlA.inj (fun x y h=>cU8_inj h) h_t h_t2; rfl) ⟨n,k,b,os,os',t,t',h_os,h_t,hL⟩
theorem cutPutsS_at (n:Int) (k:Vn 4) (b:Bk) (os:List Ord) (t:List U8) (hL:CutI ⟨n,k,b,os⟩/\t.length<=140737488355328/\Oct t):cutPutsS [.agg (cCut n k b (.sl 7 (rows cOrd os))),(.sl 1 (rows cU8 t))] []=some (⟨.bool true,[],[]⟩):=cutPutsS_atG n k b os _ t _ .sl .sl hL
theorem cutPuts_ok:HSound Try.prog 6 cutPutsS:=by
 refine sE_ (fn:=Try.f6) rfl rfl (by kernel_rfl) fun args bx hr hS=>?_
 obtain ⟨⟨n,k,b,os,os',t,t',h_os,h_t,hL⟩,rfl,rfl,rfl⟩:=mO_ hS
 clear hS
 refine ⟨_,(eV_ (g:=24) (by kernel_rfl) alive41_ok (eV_ (g:=25) (by kernel_rfl) cutGet_ok (eV_ (g:=26) (by kernel_rfl) cutPut_ok (eV_ (g:=27) (by kernel_rfl) cutSame_ok (eV_ (g:=28) (by kernel_rfl) mayCut_ok (eV_ (g:=29) (by kernel_rfl) cutChk_ok (eV_ (g:=30) (by kernel_rfl) octR_ok (eN_ _)))))))),by simp [Try.f6],by simp [go_sem],fun w Mx pin=>?_⟩
 simp only [hB_at,lab_nil,lab_cons,hOf_nil,hOf_cons]
 refine aW_ (s':=⟨ofL [(0,.agg (cCut n k b (.sl 7 (rows cOrd os)))),(1,(.sl 1 (rows cU8 t)))],hOf []⟩) ?_ ?_
 · cases h_os <;> cases h_t <;> exact wO_ [] (by simp [go_sem]) (by simp [go_sem]) (by simp [go_sem])
 clear h_os h_t
 obtain ⟨hI,ht1,ht2⟩:=hL
 obtain ⟨qs,hqs⟩:∃ qs,qs=os.take 40:=⟨_,rfl⟩
 have hq40:qs.length<=40:=by rw [hqs]; simp; omega
 have hIq:CutI ⟨n,k,b,qs⟩:=⟨hI.1,hI.2.1,hI.2.2.1,fun x hx=>hI.2.2.2 x (by rw [hqs] at hx; exact List.mem_of_mem_take hx)⟩
 have g0:=cutGetS_at t ⟨ht1,ht2⟩
 simp only [cCutS] at g0
 refine aQ_ ?_
 iterate 2
  refine oC_ fun J hJ=>?_
  simp [go_sem]
  refine hJ _ _ _ ?_
 refine oN_ ?_
 refine aS_ fun K2 hK2=>?_
 refine aQ_ ?_
 iterate 2
  refine oC_ fun J hJ=>?_
  simp [go_sem,alive41S_at]
  refine hJ _ _ _ ?_
 refine oN_ ?_
 refine aF_ rfl ?_
 refine aK_ ?_
 refine hK2 _ ?_
 refine aS_ fun K6 hK6=>?_
 have jK6:∀ s,Weak ⟨Try.prog,w,Mx,Try.f6.ntmps,pin,[],true⟩ (⟨ofL [(1,.sl 1 (rows cU8 t)),(2,.ref (0,32) 0)],hOf [((0,32),.obj (cCut n k b (.sl 7 (rows cOrd qs))))]⟩:St) s->K6 s:=by
  intro s0 hw0
  refine hK6 _ (aW_ hw0 ?_)
  refine aS_ fun K9 hK9=>?_
  cases hgb:getB t
  ·
   rw [show getC t=zCut from if_neg (by simp [hgb]),show getE t=16 from if_neg (by simp [hgb])] at g0
   simp only [zCut,rows_nil] at g0
   refine aR_ ?_
   iterate 8
    refine oC_ fun J hJ=>?_
    simp [go_sem,↓g0]
    refine hJ _ _ _ ?_
   refine oN_ ?_
   refine hK9 _ ?_
   refine aS_ fun K10 hK10=>?_
   have jK10:∀ s,Weak ⟨Try.prog,w,Mx,Try.f6.ntmps,pin,[],true⟩ (⟨ofL [(1,.sl 1 (rows cU8 t)),(2,.ref (0,32) 0)],hOf [((0,32),.obj (cCut n k b (.sl 7 (rows cOrd qs))))]⟩:St) s->K10 s:=by
    intro s0 hw0
    refine hK10 _ (aW_ hw0 ?_)
    refine aS_ fun K20 hK20=>?_
    have p0:=cutPutS_at n k b qs (by omega)
    have m0:=mayCutS_at n k b qs (by omega)
    have k0:=cutChkS_at n k b qs (by omega)
    have s0:=cutSameS_at n k b qs n k b qs (by omega)
    simp only [sameB,decide_true,Bool.and_self,and_self] at s0
    have r0:=octRS_at n k b qs hq40
    cases hck:checkC ⟨n,k,b,qs⟩
    ·
     rw [hck] at m0 k0
     rw [show octsL ⟨n,k,b,qs⟩=[] from if_neg (by simp [hck]),show octsE ⟨n,k,b,qs⟩=4 from if_neg (by simp [hck]),rows_nil] at p0
     simp only [Bool.false_eq_true,if_false] at k0
     refine aR_ ?_
     iterate 7
      refine oC_ fun J hJ=>?_
      simp [go_sem,↓p0]
      refine hJ _ _ _ ?_
     refine oN_ ?_
     refine hK20 _ ?_
     refine aS_ fun K21 hK21=>?_
     refine aQ_ ?_
     iterate 3
      refine oC_ fun J hJ=>?_
      simp [go_sem,↓m0]
      refine hJ _ _ _ ?_
     refine oN_ ?_
     refine aT_ rfl ?_
     refine aQ_ ?_
     iterate 13
      refine oC_ fun J hJ=>?_
      simp [go_sem,↓k0]
      refine hJ _ _ _ ?_
     refine oN_ ?_
     refine aE_ ?_
     refine fQ_ [] ?_
     simp [go_sem,Try.f6]
    ·
     rw [hck] at m0 k0
     obtain ⟨hb1,hb2⟩:=getC_back hck hIq
     have ho:=octs_oct ⟨n,k,b,qs⟩
     have hol:=octs_len ⟨n,k,b,qs⟩
     simp only at hol
     rw [show octsL ⟨n,k,b,qs⟩=octs ⟨n,k,b,qs⟩ from if_pos hck,show octsE ⟨n,k,b,qs⟩=0 from if_pos hck] at p0
     simp only [if_true] at k0
     generalize octs ⟨n,k,b,qs⟩=P at p0 r0 hb1 hb2 ho hol
     have y0:=cutGetS_at P ⟨by omega,ho⟩
     rw [hb2,show getE P=0 from if_pos hb1] at y0
     simp only [cCutS] at y0
     refine aR_ ?_
     iterate 7
      refine oC_ fun J hJ=>?_
      simp [go_sem,↓p0]
      refine hJ _ _ _ ?_
     refine oN_ ?_
     refine hK20 _ ?_
     refine aS_ fun K21 hK21=>?_
     refine aQ_ ?_
     iterate 3
      refine oC_ fun J hJ=>?_
      simp [go_sem,↓m0]
      refine hJ _ _ _ ?_
     refine oN_ ?_
     refine aF_ rfl ?_
     refine aK_ ?_
     refine hK21 _ ?_
     refine aQ_ ?_
     iterate 8
      refine oC_ fun J hJ=>?_
      simp [go_sem,↓y0]
      refine hJ _ _ _ ?_
     refine oN_ ?_
     refine aU_ ?_
     iterate 25
      refine oC_ fun J hJ=>?_
      simp [go_sem,↓k0,↓r0,↓s0,bytes_eq ho ho]
      refine hJ _ _ _ ?_
     refine oN_ ?_
     refine ⟨rfl,?_⟩
     refine aE_ ?_
     refine fQ_ [] ?_
     simp [go_sem,Try.f6]
   refine aQ_ ?_
   iterate 2
    refine oC_ fun J hJ=>?_
    simp [go_sem]
    refine hJ _ _ _ ?_
   refine oN_ ?_
   refine aF_ rfl ?_
   refine aQ_ ?_
   iterate 8
    refine oC_ fun J hJ=>?_
    simp [go_sem,same_zero]
    refine hJ _ _ _ ?_
   refine oN_ ?_
   refine aF_ rfl ?_
   refine aK_ ?_
   refine jK10 _ ?_
   refine wO_ [((0,32),some (0,32))] (by simp [go_sem]) ?_ ?_ <;> simp [go_sem,dropped]
  ·
   obtain ⟨hgc,hgo⟩:=getB_at hgb
   rw [show getC t=getG t from if_pos hgb,show getE t=0 from if_pos hgb] at g0
   generalize hG:getG t=G at g0 hgc hgo
   have hG32:=(checkC_n hgc).2.1
   have g1:=cutPutS_at G.n G.k G.b G.os (by omega)
   rw [show octsL ⟨G.n,G.k,G.b,G.os⟩=t from (if_pos hgc).trans hgo,show octsE ⟨G.n,G.k,G.b,G.os⟩=0 from if_pos hgc] at g1
   refine aR_ ?_
   iterate 8
    refine oC_ fun J hJ=>?_
    simp [go_sem,↓g0]
    refine hJ _ _ _ ?_
   refine oN_ ?_
   refine hK9 _ ?_
   refine aS_ fun K10 hK10=>?_
   have jK10:∀ s,Weak ⟨Try.prog,w,Mx,Try.f6.ntmps,pin,[],true⟩ (⟨ofL [(1,.sl 1 (rows cU8 t)),(2,.ref (0,32) 0)],hOf [((0,32),.obj (cCut n k b (.sl 7 (rows cOrd qs))))]⟩:St) s->K10 s:=by
    intro s0 hw0
    refine hK10 _ (aW_ hw0 ?_)
    refine aS_ fun K20 hK20=>?_
    have p0:=cutPutS_at n k b qs (by omega)
    have m0:=mayCutS_at n k b qs (by omega)
    have k0:=cutChkS_at n k b qs (by omega)
    have s0:=cutSameS_at n k b qs n k b qs (by omega)
    simp only [sameB,decide_true,Bool.and_self,and_self] at s0
    have r0:=octRS_at n k b qs hq40
    cases hck:checkC ⟨n,k,b,qs⟩
    ·
     rw [hck] at m0 k0
     rw [show octsL ⟨n,k,b,qs⟩=[] from if_neg (by simp [hck]),show octsE ⟨n,k,b,qs⟩=4 from if_neg (by simp [hck]),rows_nil] at p0
     simp only [Bool.false_eq_true,if_false] at k0
     refine aR_ ?_
     iterate 7
      refine oC_ fun J hJ=>?_
      simp [go_sem,↓p0]
      refine hJ _ _ _ ?_
     refine oN_ ?_
     refine hK20 _ ?_
     refine aS_ fun K21 hK21=>?_
     refine aQ_ ?_
     iterate 3
      refine oC_ fun J hJ=>?_
      simp [go_sem,↓m0]
      refine hJ _ _ _ ?_
     refine oN_ ?_
     refine aT_ rfl ?_
     refine aQ_ ?_
     iterate 13
      refine oC_ fun J hJ=>?_
      simp [go_sem,↓k0]
      refine hJ _ _ _ ?_
     refine oN_ ?_
     refine aE_ ?_
     refine fQ_ [] ?_
     simp [go_sem,Try.f6]
    ·
     rw [hck] at m0 k0
     obtain ⟨hb1,hb2⟩:=getC_back hck hIq
     have ho:=octs_oct ⟨n,k,b,qs⟩
     have hol:=octs_len ⟨n,k,b,qs⟩
     simp only at hol
     rw [show octsL ⟨n,k,b,qs⟩=octs ⟨n,k,b,qs⟩ from if_pos hck,show octsE ⟨n,k,b,qs⟩=0 from if_pos hck] at p0
     simp only [if_true] at k0
     generalize octs ⟨n,k,b,qs⟩=P at p0 r0 hb1 hb2 ho hol
     have y0:=cutGetS_at P ⟨by omega,ho⟩
     rw [hb2,show getE P=0 from if_pos hb1] at y0
     simp only [cCutS] at y0
     refine aR_ ?_
     iterate 7
      refine oC_ fun J hJ=>?_
      simp [go_sem,↓p0]
      refine hJ _ _ _ ?_
     refine oN_ ?_
     refine hK20 _ ?_
     refine aS_ fun K21 hK21=>?_
     refine aQ_ ?_
     iterate 3
      refine oC_ fun J hJ=>?_
      simp [go_sem,↓m0]
      refine hJ _ _ _ ?_
     refine oN_ ?_
     refine aF_ rfl ?_
     refine aK_ ?_
     refine hK21 _ ?_
     refine aQ_ ?_
     iterate 8
      refine oC_ fun J hJ=>?_
      simp [go_sem,↓y0]
      refine hJ _ _ _ ?_
     refine oN_ ?_
     refine aU_ ?_
     iterate 25
      refine oC_ fun J hJ=>?_
      simp [go_sem,↓k0,↓r0,↓s0,bytes_eq ho ho]
      refine hJ _ _ _ ?_
     refine oN_ ?_
     refine ⟨rfl,?_⟩
     refine aE_ ?_
     refine fQ_ [] ?_
     simp [go_sem,Try.f6]
   refine aQ_ ?_
   iterate 2
    refine oC_ fun J hJ=>?_
    simp [go_sem]
    refine hJ _ _ _ ?_
   refine oN_ ?_
   refine aT_ rfl ?_
   refine aQ_ ?_
   iterate 7
    refine oC_ fun J hJ=>?_
    simp [go_sem,↓g1]
    refine hJ _ _ _ ?_
   refine oN_ ?_
   refine aQ_ ?_
   iterate 9
    refine oC_ fun J hJ=>?_
    simp [go_sem,bytes_eq ht2 ht2]
    refine hJ _ _ _ ?_
   refine oN_ ?_
   refine aF_ rfl ?_
   refine aK_ ?_
   refine jK10 _ ?_
   refine wO_ [((0,32),some (0,32))] (by simp [go_sem]) ?_ ?_ <;> simp [go_sem,dropped]
 refine aQ_ ?_
 iterate 5
  refine oC_ fun J hJ=>?_
  simp [go_sem]
  refine hJ _ _ _ ?_
 refine oN_ ?_
 refine aC_ (t:=_) rfl (fun c8=>?_) (fun c8=>?_)
 ·
  simp [go_sem] at c8
  have h40:40<=os.length:=by omega
  refine aR_ ?_
  iterate 7
   refine oC_ fun J hJ=>?_
   simp [go_sem,h40]
   refine hJ _ _ _ ?_
  refine oN_ ?_
  refine jK6 _ ?_
  refine wO_ [((0,32),some (0,32))] (by simp [go_sem]) ?_ ?_ <;> simp [go_sem,dropped,hqs,h40]
 ·
  simp [go_sem] at c8
  have h40:List.take 40 os=os:=List.take_of_length_le (by omega)
  refine aK_ ?_
  refine jK6 _ ?_
  refine wO_ [((0,32),some (0,32))] (by simp [go_sem]) ?_ ?_ <;> simp [go_sem,dropped,hqs,h40]
theorem CutPuts_walk (w:World) (v0:Value) (x0:CutS) (r0:Rep w (fun _=>False) noLay noH (.agg (cCutS x0)) v0) (j0:CutI x0) (v1:Value) (x1:List U8) (r1:Rep w (fun _=>False) noLay noH (.sl 1 (rows cU8 x1)) v1) (b1:x1.length<=140737488355328) (o1:Oct x1) :
  Calls Try.prog 6 #[v0,v1] w fun e w'=>e=.returned (.bool true)/\Below w.heap.size w w':=by
 refine true_walk cutPuts_ok (cutPutsS_at x0.n x0.k x0.b x0.os x1 (⟨j0,b1,o1⟩)) w rfl fun i v hi=>?_
 match i,hi with
 | 0,hi=>cases hi; exact r0
 | 1,hi=>cases hi; exact r1
end Go.Proofs.Ytfbooejaabdkoaa.AE
