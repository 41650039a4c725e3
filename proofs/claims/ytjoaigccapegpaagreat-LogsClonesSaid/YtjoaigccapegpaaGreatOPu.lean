/-
 Package stamp, third part: Put. Conditions: none; every contract names its own.
-/
import Derived.Test.YtjoaigccapegpaaGreatOBw
import Derived.Test.YtjoaigccapegpaaGreatOSt1
set_option linter.constructorNameAsVariable false
namespace Go.Proofs.YtjoaigccapegpaaGreat.AE
open Go Go.Proofs Go.RowKit
set_option linter.unusedVariables false
set_option linter.unusedSimpArgs false
set_option maxRecDepth 100000
set_option maxHeartbeats 4000000
def putG (c:Chg):List Chg->Nat->Nat->Nat
 | [],_,a=>a
 | x :: r,i,a=>putG c r (i + 1) (if lessChg c x=true then a else i + 1)
def putAt (c:Chg) (l:List Chg):Nat:=putG c l 0 0
def cputL (c:Chg) (l:List Chg):List Chg:=l.take (putAt c l)++[c]++l.drop (putAt c l)
theorem putG_le (c:Chg):∀ (l:List Chg) (i a:Nat),a<=i->putG c l i a<=i + l.length
 | [],i,a,h=>by simp [putG]; exact h
 | x :: r,i,a,h=>by
  have:=putG_le c r (i + 1) (if lessChg c x=true then a else i + 1) (by split <;> omega)
  simp only [putG,List.length_cons]
  omega
theorem putAt_le (c:Chg) (l:List Chg):putAt c l<=l.length:=by have:=putG_le c l 0 0 (by omega); simpa [putAt] using this
theorem putG_none (c:Chg):∀ (l:List Chg) (i a:Nat),(∀ (j:Nat) (y:Chg),l[j]?=some y->lessChg c y=true)->putG c l i a=a
 | [],i,a,h=>rfl
 | x :: r,i,a,h=>by
  simp only [putG,h 0 x rfl,if_true]
  exact putG_none c r (i + 1) a fun j y hy=>h (j + 1) y (by simpa using hy)
theorem putG_here (c:Chg):∀ (l:List Chg) (n i a:Nat) (x:Chg),l[n]?=some x->lessChg c x=false->(∀ (j:Nat) (y:Chg),n < j->l[j]?=some y->lessChg c y=true)->putG c l i a=i + n + 1
 | [],n,i,a,x,h,_,_=>by simp at h
 | z :: r,0,i,a,x,h,hx,hj=>by
  simp at h
  subst h
  simp only [putG,hx]
  rw [putG_none c r (i + 1) _ fun j y hy=>hj (j + 1) y (by omega) (by simpa using hy)]
  simp
 | z :: r,n + 1,i,a,x,h,hx,hj=>by
  simp only [putG]
  rw [putG_here c r n (i + 1) _ x (by simpa using h) hx fun j y hn hy=>hj (j + 1) y (by omega) (by simpa using hy)]
  omega
def putJ (l:List Chg) (c:Chg) (k:Nat):Prop:=∀ (j:Nat) (y:Chg),l.length - k<=j->l[j]?=some y->lessChg c y=true
theorem putJ_zero (l:List Chg) (c:Chg):putJ l c 0:=fun j y hj hy=>by
 have:=(List.getElem?_eq_some_iff.1 hy).1
 omega
theorem putJ_next {l:List Chg} {c:Chg} {k:Nat} {y:Chg} (h:putJ l c k) (hk:k < l.length) (hy:l[l.length - 1 - k]?=some y) (hl:lessChg c y=true):putJ l c (k + 1):=fun j z hj hz=>by
 by_cases e:j=l.length - 1 - k
 ·
  subst e
  rw [hy] at hz
  cases hz
  exact hl
 · exact h j z (by omega) hz
theorem putJ_end {l:List Chg} {c:Chg} (h:putJ l c l.length):(0:Int)=(putAt c l:Nat):=by
 rw [putAt,putG_none c l 0 0 fun j y hy=>h j y (by omega) hy]; rfl
theorem putJ_here {l:List Chg} {c:Chg} {k:Nat} {y:Chg} (h:putJ l c k) (hk:k < l.length) (hy:l[l.length - 1 - k]?=some y) (hl:lessChg c y=false):((l.length - 1 - k:Nat):Int) + 1=(putAt c l:Nat):=by
 rw [putAt,putG_here c l _ 0 0 y hy hl fun j z hj hz=>h j z (by omega) hz]
 omega
def cputI (l:List Chg) (c:Chg) (p:Int):St:=⟨ofL [(0,.sl 9 (rows cChg l)),(3,.ref (0,48) 0),(5,.ref (0,80) 0),(9,.fn 97 [.ref (0,144) 0])],hOf [((0,48),.obj (cChg c)),((0,80),.obj [.int .i64 p]),((0,144),.obj [.sl 9 (rows cChg l)])]⟩
structure bwcX where
 l:List Chg
 l':AV
 h_l:SlA 9 cChg l l'
noncomputable def bwcS:HSpec:=mkH (ι:=bwcX) (fun ⟨l,l',h_l⟩=>([l'],[])) fun ⟨l,l',h_l⟩=>⟨.fn 97 [.ref (2,0) 0],[],[.obj [.sl 9 (rows cChg l)]]⟩
theorem bwcS_atG (l:List Chg) (l':AV) (h_l:SlA 9 cChg l l'):bwcS [l'] []=some (⟨.fn 97 [.ref (2,0) 0],[],[.obj [.sl 9 (rows cChg l)]]⟩):=
 mA_ (ι:=bwcX) (fun i j h=>by obtain ⟨l,l',h_l⟩:=i; obtain ⟨l2,l'2,h_l2⟩:=j; simp [and_assoc,qB_,qI_,qO_,qC_,qE_,qK_,qR_,qV_,qP_,qOc_] at h; obtain rfl:=h; obtain rfl:=SlA.inj (fun x y h=>cChg_inj h) h_l h_l2; rfl) ⟨l,l',h_l⟩
theorem bwcS_at (l:List Chg):bwcS [(.sl 9 (rows cChg l))] []=some (⟨.fn 97 [.ref (2,0) 0],[],[.obj [.sl 9 (rows cChg l)]]⟩):=bwcS_atG l _ .sl
theorem bwc_ok:HSound Tryz.prog 89 bwcS:=by
 refine sE_ (fn:=Tryz.f89) rfl rfl (by kernel_rfl) fun args bx hr hS=>?_
 obtain ⟨⟨l,l',h_l⟩,rfl,rfl,rfl⟩:=mO_ hS
 clear hS
 refine ⟨_,(eN_ _),by simp [Tryz.f89],by simp [go_sem],fun w Mx pin=>?_⟩
 simp only [hB_at,lab_nil,lab_cons,hOf_nil,hOf_cons]
 refine aW_ (s':=⟨ofL [(0,(.sl 9 (rows cChg l)))],hOf []⟩) ?_ ?_
 · cases h_l <;> exact wO_ [] (by simp [go_sem]) (by simp [go_sem]) (by simp [go_sem])
 clear h_l
 refine aQ_ ?_
 iterate 2
  refine oC_ fun J hJ=>?_
  simp [go_sem]
  refine hJ _ _ _ ?_
 refine oN_ ?_
 refine aQ_ ?_
 iterate 2
  refine oC_ fun J hJ=>?_
  simp [go_sem]
  refine hJ _ _ _ ?_
 refine oN_ ?_
 refine aE_ ?_
 refine fQ_ [((2,0),some (0,16))] ?_
 simp [go_sem,Tryz.f89]
structure putCX where
 l:List Chg
 l':AV
 c:Chg
 h_l:SlA 9 cChg l l'
 hL:l.length<=99998
noncomputable def putCS:HSpec:=mkH (ι:=putCX) (fun ⟨l,l',c,h_l,hL⟩=>([l',.agg (cChg c)],[])) fun ⟨l,l',c,h_l,hL⟩=>⟨.own (2,0) (cputL c l).length,[],[.row 35 9 (rows cChg (cputL c l)) false]⟩
theorem putCS_atG (l:List Chg) (l':AV) (c:Chg) (h_l:SlA 9 cChg l l') (hL:l.length<=99998):putCS [l',.agg (cChg c)] []=some (⟨.own (2,0) (cputL c l).length,[],[.row 35 9 (rows cChg (cputL c l)) false]⟩):=
 mA_ (ι:=putCX) (fun i j h=>by obtain ⟨l,l',c,h_l,hL⟩:=i; obtain ⟨l2,l'2,c2,h_l2,hL2⟩:=j; simp [and_assoc,qB_,qI_,qO_,qC_,qE_,qK_,qR_,qV_,qP_,qOc_] at h; obtain ⟨rfl,rfl⟩:=h; obtain rfl:=SlA.inj (fun x y h=>cChg_inj h) h_l h_l2; rfl) ⟨l,l',c,h_l,hL⟩
theorem putCS_at (l:List Chg) (c:Chg) (hL:l.length<=99998):putCS [(.sl 9 (rows cChg l)),.agg (cChg c)] []=some (⟨.own (2,0) (cputL c l).length,[],[.row 35 9 (rows cChg (cputL c l)) false]⟩):=putCS_atG l _ c .sl hL
theorem putC_ok:HSound Tryz.prog 71 putCS:=by
 refine sE_ (fn:=Tryz.f71) rfl rfl (by kernel_rfl) fun args bx hr hS=>?_
 obtain ⟨⟨l,l',c,h_l,hL⟩,rfl,rfl,rfl⟩:=mO_ hS
 clear hS
 refine ⟨_,(eV_ (g:=89) (by kernel_rfl) bwc_ok (eV_ (g:=90) (by kernel_rfl) lessChg_ok (eV_ (g:=54) (by kernel_rfl) concatChg_ok (eN_ _)))),by simp [Tryz.f71],by simp [go_sem],fun w Mx pin=>?_⟩
 simp only [hB_at,lab_nil,lab_cons,hOf_nil,hOf_cons]
 refine aW_ (s':=⟨ofL [(0,(.sl 9 (rows cChg l))),(1,.agg (cChg c))],hOf []⟩) ?_ ?_
 · cases h_l <;> exact wO_ [] (by simp [go_sem]) (by simp [go_sem]) (by simp [go_sem])
 clear h_l
 have hle:=putAt_le c l
 refine aQ_ ?_
 iterate 2
  refine oC_ fun J hJ=>?_
  simp [go_sem]
  refine hJ _ _ _ ?_
 refine oN_ ?_
 refine aQ_ ?_
 iterate 2
  refine oC_ fun J hJ=>?_
  simp [go_sem]
  refine hJ _ _ _ ?_
 refine oN_ ?_
 refine aS_ fun K3 hK3=>?_
 have jK3:∀ p:Int,p=(putAt c l:Nat)->K3 (cputI l c p):=by
  intro p hp
  subst hp
  refine hK3 _ ?_
  refine aU_ ?_
  iterate 11
   refine oC_ fun J hJ=>?_
   simp [go_sem,cputI,hle,concatChgS_at3 (l.take (putAt c l)) [c] (l.drop (putAt c l)) (by simp; omega)]
   refine hJ _ _ _ ?_
  refine oN_ ?_
  refine ⟨rfl,?_⟩
  refine aE_ ?_
  refine fQ_ [((2,0),some (0,432))] ?_
  simp [go_sem,Tryz.f71,cputL,Nat.min_eq_left hle]
 refine aQ_ ?_
 iterate 2
  refine oC_ fun J hJ=>?_
  simp [go_sem,bwcS_at l]
  refine hJ _ _ _ ?_
 refine oN_ ?_
 refine aB_ ?_
 refine aW_ (s':=cputI l c 0) ?_ ?_
 · exact wO_ [((0,48),some (0,48)),((0,80),some (0,80)),((0,144),some (0,144))] (by simp [go_sem]) (by simp [go_sem]) (by simp [go_sem])
 refine awp_back (I:=putJ l c) (S:=fun _=>(cputI l c 0).H) (bs:=[(0,48),(0,80)]) (bx:=(0,144)) (c0:=.sl 9 (rows cChg l)) (L:=rows cChg l) (sz:=9) (putJ_zero l c) bw_iter (by omega) (by kernel_rfl) rfl (.inl rfl) (by simp [go_sem]; omega) rfl (by simp) (fun k _=>⟨rfl,⟨by simp,by intro b hb; simp at hb; rcases hb with rfl | rfl <;> exact ⟨_,rfl,rfl⟩⟩⟩) rfl ?_ ?_
 ·
  rintro k x hI hk hx ⟨P1,W1,M1,n1,p1,d1,f1⟩ l1 hP1 hn1
  simp only at hP1 hn1
  subst hP1 hn1
  have hk':k < l.length:=by simpa [rows] using hk
  have hx2:(l[l.length - 1 - k]?).map cChg=some x:=by simpa [rows] using hx
  obtain ⟨y,hy,rfl⟩:=Option.map_eq_some_iff.1 hx2
  clear hx2
  simp only [rows_len]
  refine awpR_weak (s':=⟨ofL [(3,.ref (1,0) 0),(5,.ref (1,1) 0),(10,.int .i64 ((l.length - 1 - k:Nat):Int)),(11,.agg (cChg y))],hOf [((1,0),.obj (cChg c)),((1,1),.obj [.int .i64 0])]⟩) ?_ ?_
  · exact wO_ [((1,0),some (1,0)),((1,1),some (1,1))] (by simp [go_sem]) (by simp [go_sem,cputI,boxC]) (by simp [go_sem,cputI,boxC])
  clear hx hk
  refine awpR_seq fun K5 hK5=>?_
  refine awpR_region ?_
  iterate 1
   refine oC_ fun J hJ=>?_
   simp [go_sem]
   refine hJ _ _ _ ?_
  refine oN_ ?_
  refine hK5 _ ?_
  refine awpR_region ?_
  iterate 2
   refine oC_ fun J hJ=>?_
   simp [go_sem]
   refine hJ _ _ _ ?_
  refine oN_ ?_
  refine fun (Γ2:Ctx) hP2 hn2=>?_
  obtain ⟨P2,W2,M2,n2,p2,d2,f2⟩:=Γ2
  simp only at hP2 hn2
  subst hP2 hn2
  refine awpR_block ?_
  refine awpR_seq fun K6 hK6=>?_
  refine awpR_region ?_
  iterate 4
   refine oC_ fun J hJ=>?_
   simp [go_sem,lessChgS_at]
   refine hJ _ _ _ ?_
  refine oN_ ?_
  refine hK6 _ ?_
  refine awpR_cond (t:=_) rfl (fun c7=>?_) (fun c7=>?_)
  ·
   simp [go_sem] at c7
   refine awpR_seq fun K8 hK8=>?_
   refine awpR_region ?_
   iterate 3
    refine oC_ fun J hJ=>?_
    simp [go_sem,wN_ (n:=l.length - 1 - k) (by omega)]
    refine hJ _ _ _ ?_
   refine oN_ ?_
   refine hK8 _ ?_
   refine awpR_exit ?_
   simp only [go_sem]
   exact ⟨(cputI l c (((l.length - 1 - k:Nat):Int) + 1)).H,⟨[((1,0),some (1,0)),((1,1),some (1,1))],[.obj (cChg c),.obj [.int .i64 (((l.length - 1 - k:Nat):Int) + 1)]],by simp [go_sem],by simp [go_sem],by simp [go_sem,cputI,boxC],After.two (by simp [go_sem,cputI]) (by simp [go_sem,cputI]) (fun b h0 h1=>by simp [cputI,hOf,hput,h0,h1])⟩,jK3 _ (putJ_here hI hk' hy (by simpa using c7))⟩
  ·
   simp [go_sem] at c7
   refine awpR_skip ?_
   exact ⟨⟨[((1,0),some (1,0)),((1,1),some (1,1))],[.obj (cChg c),.obj [.int .i64 (0)]],by simp [go_sem],by simp [go_sem],by simp [go_sem,cputI,boxC],After.two (by simp [go_sem,cputI]) (by simp [go_sem,cputI]) (fun b h0 h1=>by simp [cputI,hOf,hput,h0,h1])⟩,putJ_next hI hk' hy (by simpa using c7)⟩
 ·
  intro hI
  exact jK3 _ (putJ_end (by simpa [rows] using hI))
end Go.Proofs.YtjoaigccapegpaaGreat.AE
