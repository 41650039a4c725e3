/-
 Package countermandref07: contracts. Conditions: none; every contract names its own.
-/
import Derived.Test.YtjoaigccapegpaaGreatOPu
set_option linter.constructorNameAsVariable false
namespace Go.Proofs.YtjoaigccapegpaaGreat.AE
open Go Go.Proofs Go.RowKit
set_option linter.unusedVariables false
set_option linter.unusedSimpArgs false
set_option maxRecDepth 100000
set_option maxHeartbeats 4000000
structure findCRX where
 l:List Chg
 l':AV
 a:Id
 h_l:SlA 9 cChg l l'
 hL:l.length<=100000
noncomputable def findCRS:HSpec:=mkH (ι:=findCRX) (fun ⟨l,l',a,h_l,hL⟩=>([l',.agg (cId a)],[])) fun ⟨l,l',a,h_l,hL⟩=>⟨.int .i64 (placeC l a),[],[]⟩
theorem findCRS_atG (l:List Chg) (l':AV) (a:Id) (h_l:SlA 9 cChg l l') (hL:l.length<=100000):findCRS [l',.agg (cId a)] []=some (⟨.int .i64 (placeC l a),[],[]⟩):=
 mA_ (ι:=findCRX) (fun i j h=>by obtain ⟨l,l',a,h_l,hL⟩:=i; obtain ⟨l2,l'2,a2,h_l2,hL2⟩:=j; simp [and_assoc,qB_,qI_,qO_,qC_,qE_,qK_,qR_,qV_,qP_,qOc_] at h; obtain ⟨rfl,rfl⟩:=h; obtain rfl:=SlA.inj (fun x y h=>cChg_inj h) h_l h_l2; rfl) ⟨l,l',a,h_l,hL⟩
theorem findCRS_at (l:List Chg) (a:Id) (hL:l.length<=100000):findCRS [(.sl 9 (rows cChg l)),.agg (cId a)] []=some (⟨.int .i64 (placeC l a),[],[]⟩):=findCRS_atG l _ a .sl hL
def findCRI (l:List Chg) (a:Id) (pre _post:List Chg):St:=⟨ofL [(0,.sl 9 (rows cChg l)),(3,.ref (0,48) 0),(5,.int .i64 pre.length)],hOf [((0,48),.obj (cId a))]⟩
theorem findCR_ok:HSound Tryz.prog 58 findCRS:=by
 refine sE_ (fn:=Tryz.f58) rfl rfl (by kernel_rfl) fun args bx hr hS=>?_
 obtain ⟨⟨l,l',a,h_l,hL⟩,rfl,rfl,rfl⟩:=mO_ hS
 clear hS
 refine ⟨_,(eN_ _),by simp [Tryz.f58],by simp [go_sem],fun w Mx pin=>?_⟩
 simp only [hB_at,lab_nil,lab_cons,hOf_nil,hOf_cons]
 refine aW_ (s':=⟨ofL [(0,(.sl 9 (rows cChg l))),(1,.agg (cId a))],hOf []⟩) ?_ ?_
 · cases h_l <;> exact wO_ [] (by simp [go_sem]) (by simp [go_sem]) (by simp [go_sem])
 clear h_l
 refine aQ_ ?_
 iterate 2
  refine oC_ fun J hJ=>?_
  simp [go_sem]
  refine hJ _ _ _ ?_
 refine oN_ ?_
 refine aS_ fun K2 hK2=>?_
 refine aQ_ ?_
 iterate 1
  refine oC_ fun J hJ=>?_
  simp [go_sem]
  refine hJ _ _ _ ?_
 refine oN_ ?_
 refine aB_ ?_
 refine aL_ (ι:={ q:List Chg × List Chg // q.1++q.2=l/\idxL (isChg a) q.2 q.1.length=placeC l a }) (fun q=>findCRI l a q.1.1 q.1.2) (fun q=>q.1.2.length) ⟨([],l),rfl,rfl⟩ ?_ ?_
 · refine wO_ [((0,48),some (0,48))] (by simp [go_sem]) ?_ ?_ <;> simp [go_sem]
 intro ⟨⟨pre,post⟩,hl,hgo⟩
 simp only at hl hgo
 have hpl:=lS_ hl hL
 simp only [findCRI]
 refine aS_ fun K4 hK4=>?_
 refine aQ_ ?_
 iterate 4
  refine oC_ fun J hJ=>?_
  simp [go_sem]
  refine hJ _ _ _ ?_
 refine oN_ ?_
 refine aC_ (t:=_) rfl (fun c6=>?_) (fun c6=>?_)
 ·
  simp [go_sem] at c6
  obtain ⟨x,post,rfl,hx⟩:=mL_ hl c6
  refine aK_ ?_
  refine hK4 _ ?_
  refine aS_ fun K7 hK7=>?_
  refine aB_ ?_
  refine aU_ ?_
  iterate 7
   refine oC_ fun J hJ=>?_
   simp [go_sem,hx]
   refine hJ _ _ _ ?_
  refine oN_ ?_
  refine ⟨rfl,?_⟩
  refine aC_ (t:=_) rfl (fun c9=>?_) (fun c9=>?_)
  ·
   simp [go_sem] at c9
   refine aQ_ ?_
   iterate 2
    refine oC_ fun J hJ=>?_
    simp [go_sem]
    refine hJ _ _ _ ?_
   refine oN_ ?_
   refine aE_ ?_
   refine fQ_ [] ?_
   simp [go_sem,Tryz.f58,<-hgo,idxL,isChg,c9]
  ·
   simp [go_sem] at c9
   refine aK_ ?_
   refine hK7 _ ?_
   refine aR_ ?_
   iterate 3
    refine oC_ fun J hJ=>?_
    simp [go_sem]
    refine hJ _ _ _ ?_
   refine oN_ ?_
   refine ⟨⟨(pre++[x],post),by simp [<-hl],by rw [<-hgo]; simp [idxL,isChg,c9]⟩,?_,by simp⟩
   refine wO_ [((0,48),some (0,48))] (by simp [go_sem]) ?_ ?_ <;> simp [go_sem,wN_ hpl]
 ·
  simp [go_sem] at c6
  obtain ⟨rfl,rfl⟩:=mN_ hl c6
  refine aX_ ?_
  simp only [go_sem]
  refine hK2 _ ?_
  refine aQ_ ?_
  iterate 1
   refine oC_ fun J hJ=>?_
   simp [go_sem]
   refine hJ _ _ _ ?_
  refine oN_ ?_
  refine aE_ ?_
  refine fQ_ [] ?_
  simp [go_sem,Tryz.f58,<-hgo,idxL]
structure putCRX where
 l:List Chg
 l':AV
 c:Chg
 h_l:SlA 9 cChg l l'
 hL:l.length<=50000
noncomputable def putCRS:HSpec:=mkH (ι:=putCRX) (fun ⟨l,l',c,h_l,hL⟩=>([l',.agg (cChg c)],[])) fun ⟨l,l',c,h_l,hL⟩=>⟨.own (2,0) (cputL c l).length,[],[.row 35 9 (rows cChg (cputL c l)) false]⟩
theorem putCRS_atG (l:List Chg) (l':AV) (c:Chg) (h_l:SlA 9 cChg l l') (hL:l.length<=50000):putCRS [l',.agg (cChg c)] []=some (⟨.own (2,0) (cputL c l).length,[],[.row 35 9 (rows cChg (cputL c l)) false]⟩):=
 mA_ (ι:=putCRX) (fun i j h=>by obtain ⟨l,l',c,h_l,hL⟩:=i; obtain ⟨l2,l'2,c2,h_l2,hL2⟩:=j; simp [and_assoc,qB_,qI_,qO_,qC_,qE_,qK_,qR_,qV_,qP_,qOc_] at h; obtain ⟨rfl,rfl⟩:=h; obtain rfl:=SlA.inj (fun x y h=>cChg_inj h) h_l h_l2; rfl) ⟨l,l',c,h_l,hL⟩
theorem putCRS_at (l:List Chg) (c:Chg) (hL:l.length<=50000):putCRS [(.sl 9 (rows cChg l)),.agg (cChg c)] []=some (⟨.own (2,0) (cputL c l).length,[],[.row 35 9 (rows cChg (cputL c l)) false]⟩):=putCRS_atG l _ c .sl hL
def putCRI (l:List Chg) (c:Chg) (pre _post:List Chg) (k:Nat):St:=⟨ofL [(0,.sl 9 (rows cChg l)),(3,.ref (0,48) 0),(5,.int .i64 k),(6,.int .i64 pre.length)],hOf [((0,48),.obj (cChg c))]⟩
theorem putCR_ok:HSound Tryz.prog 57 putCRS:=by
 refine sE_ (fn:=Tryz.f57) rfl rfl (by kernel_rfl) fun args bx hr hS=>?_
 obtain ⟨⟨l,l',c,h_l,hL⟩,rfl,rfl,rfl⟩:=mO_ hS
 clear hS
 refine ⟨_,(eV_ (g:=78) (by kernel_rfl) lessCR_ok (eN_ _)),by simp [Tryz.f57],by simp [go_sem],fun w Mx pin=>?_⟩
 simp only [hB_at,lab_nil,lab_cons,hOf_nil,hOf_cons]
 refine aW_ (s':=⟨ofL [(0,(.sl 9 (rows cChg l))),(1,.agg (cChg c))],hOf []⟩) ?_ ?_
 · cases h_l <;> exact wO_ [] (by simp [go_sem]) (by simp [go_sem]) (by simp [go_sem])
 clear h_l
 have hL1:l.length<=100000:=by omega
 refine aQ_ ?_
 iterate 2
  refine oC_ fun J hJ=>?_
  simp [go_sem]
  refine hJ _ _ _ ?_
 refine oN_ ?_
 refine aQ_ ?_
 iterate 1
  refine oC_ fun J hJ=>?_
  simp [go_sem]
  refine hJ _ _ _ ?_
 refine oN_ ?_
 refine aS_ fun K3 hK3=>?_
 refine aQ_ ?_
 iterate 1
  refine oC_ fun J hJ=>?_
  simp [go_sem]
  refine hJ _ _ _ ?_
 refine oN_ ?_
 refine aB_ ?_
 refine aL_ (ι:={ q:List Chg × List Chg × Nat // q.1++q.2.1=l/\q.2.2<=q.1.length/\putG c q.2.1 q.1.length q.2.2=putG c l 0 0 }) (fun q=>putCRI l c q.1.1 q.1.2.1 q.1.2.2) (fun q=>q.1.2.1.length) ⟨([],l,0),rfl,⟨Nat.le_refl _,rfl⟩⟩ ?_ ?_
 · refine wO_ [((0,48),some (0,48))] (by simp [go_sem]) ?_ ?_ <;> simp [go_sem]
 intro ⟨⟨pre,post,k⟩,hl,hgo⟩
 simp only at hl hgo
 have hpl:=lS_ hl hL1
 simp only [putCRI]
 refine aS_ fun K5 hK5=>?_
 refine aQ_ ?_
 iterate 4
  refine oC_ fun J hJ=>?_
  simp [go_sem]
  refine hJ _ _ _ ?_
 refine oN_ ?_
 refine aC_ (t:=_) rfl (fun c7=>?_) (fun c7=>?_)
 ·
  simp [go_sem] at c7
  obtain ⟨x,post,rfl,hx⟩:=mL_ hl c7
  refine aK_ ?_
  refine hK5 _ ?_
  refine aS_ fun K8 hK8=>?_
  refine aB_ ?_
  refine aU_ ?_
  iterate 7
   refine oC_ fun J hJ=>?_
   simp [go_sem,hx,lessCRS_at,lessCR_eq]
   refine hJ _ _ _ ?_
  refine oN_ ?_
  refine ⟨rfl,?_⟩
  refine aC_ (t:=_) rfl (fun c10=>?_) (fun c10=>?_)
  ·
   simp [go_sem] at c10
   refine aR_ ?_
   iterate 3
    refine oC_ fun J hJ=>?_
    simp [go_sem,wN_ hpl]
    refine hJ _ _ _ ?_
   refine oN_ ?_
   refine hK8 _ ?_
   refine aR_ ?_
   iterate 3
    refine oC_ fun J hJ=>?_
    simp [go_sem]
    refine hJ _ _ _ ?_
   refine oN_ ?_
   refine ⟨⟨(pre++[x],post,(if lessChg c x=true then k else pre.length + 1)),by simp [<-hl],by exact ⟨by simp; split <;> omega,by rw [<-hgo.2]; simp [putG]⟩⟩,?_,by simp⟩
   refine wO_ [((0,48),some (0,48))] (by simp [go_sem]) ?_ ?_ <;> simp [go_sem,wN_ hpl,c10]
  ·
   simp [go_sem] at c10
   refine aK_ ?_
   refine hK8 _ ?_
   refine aR_ ?_
   iterate 3
    refine oC_ fun J hJ=>?_
    simp [go_sem]
    refine hJ _ _ _ ?_
   refine oN_ ?_
   refine ⟨⟨(pre++[x],post,(if lessChg c x=true then k else pre.length + 1)),by simp [<-hl],by exact ⟨by simp; split <;> omega,by rw [<-hgo.2]; simp [putG]⟩⟩,?_,by simp⟩
   refine wO_ [((0,48),some (0,48))] (by simp [go_sem]) ?_ ?_ <;> simp [go_sem,wN_ hpl,c10]
 ·
  simp [go_sem] at c7
  obtain ⟨rfl,rfl⟩:=mN_ hl c7
  obtain ⟨hk,hgo⟩:=hgo
  simp only [putG] at hgo
  refine aX_ ?_
  simp only [go_sem]
  refine hK3 _ ?_
  refine aQ_ ?_
  iterate 1
   refine oC_ fun J hJ=>?_
   simp [go_sem]
   refine hJ _ _ _ ?_
  refine oN_ ?_
  refine aQ_ ?_
  iterate 6
   refine oC_ fun J hJ=>?_
   simp [go_sem,hk,Nat.min_eq_left hk,show (k) * 72<=140737488355328 by omega,show k<=maxLen by simp only [maxLen]; omega]
   refine hJ _ _ _ ?_
  refine oN_ ?_
  refine aQ_ ?_
  iterate 5
   refine oC_ fun J hJ=>?_
   simp [go_sem,Nat.min_eq_left hk,show (k + 1) * 72<=140737488355328 by omega,show k + 1<=maxLen by simp only [maxLen]; omega]
   refine hJ _ _ _ ?_
  refine oN_ ?_
  refine aQ_ ?_
  iterate 6
   refine oC_ fun J hJ=>?_
   simp [go_sem,hk,Nat.min_eq_left hk,show (k + 1 + (l.length - k)) * 72<=140737488355328 by omega,show k + 1 + (l.length - k)<=maxLen by simp only [maxLen]; omega]
   refine hJ _ _ _ ?_
  refine oN_ ?_
  refine aQ_ ?_
  iterate 2
   refine oC_ fun J hJ=>?_
   simp [go_sem]
   refine hJ _ _ _ ?_
  refine oN_ ?_
  refine aE_ ?_
  have hp:cputL c l=l.take k++[c]++l.drop k:=by
   unfold cputL putAt
   rw [<-hgo]
  have ht:List.take (k + 1) (List.take k (List.take k l)++[c])=List.take k l++[c]:=by
   rw [List.take_take,Nat.min_self]
   exact List.take_of_length_le (by simp; omega)
  refine fQ_ [((2,0),some (0,576))] ?_
  simp [go_sem,Tryz.f57,hp,ht,Nat.min_eq_left hk]
  try omega
def withG (i:Int):List Chg->Nat->List Chg
 | [],_=>[]
 | x :: r,n=>if (n:Int)=i then withG i r (n + 1) else x :: withG i r (n + 1)
theorem withG_out (i:Int):∀ (l:List Chg) (n:Nat),(i < n\/(n + l.length:Nat)<=i)->withG i l n=l
 | [],n,h=>rfl
 | x :: r,n,h=>by
  simp only [List.length_cons] at h
  rw [withG,if_neg (by omega),withG_out i r (n + 1) (by omega)]
theorem withG_in:∀ (l:List Chg) (n k:Nat),k < l.length->withG ((n + k:Nat):Int) l n=l.take k++l.drop (k + 1)
 | [],n,k,h=>by simp at h
 | x :: r,n,0,h=>by
  rw [withG,if_pos (by simp),withG_out _ r (n + 1) (by omega)]
  simp
 | x :: r,n,k + 1,h=>by
  simp only [List.length_cons] at h
  have:=withG_in r (n + 1) k (by omega)
  rw [show n + 1 + k=n + (k + 1) by omega] at this
  rw [withG,if_neg (by omega),this]
  simp
theorem withG_eq (l:List Chg) (i:Int):withG i l 0=withoutL l i:=by
 unfold withoutL
 split
 ·
  rename_i h
  exact withG_out i l 0 (by omega)
 ·
  rename_i h
  have h1:((0 + i.toNat:Nat):Int)=i:=by omega
  have:=withG_in l 0 i.toNat (by omega)
  rw [h1] at this
  exact this
structure withCRX where
 l:List Chg
 l':AV
 i:Int
 h_l:SlA 9 cChg l l'
 hL:l.length<=100000
noncomputable def withCRS:HSpec:=mkH (ι:=withCRX) (fun ⟨l,l',i,h_l,hL⟩=>([l',.int .i64 i],[])) fun ⟨l,l',i,h_l,hL⟩=>⟨.own (2,0) (withoutL l i).length,[],[.row 35 9 (rows cChg (withoutL l i)) false]⟩
theorem withCRS_atG (l:List Chg) (l':AV) (i:Int) (h_l:SlA 9 cChg l l') (hL:l.length<=100000):withCRS [l',.int .i64 i] []=some (⟨.own (2,0) (withoutL l i).length,[],[.row 35 9 (rows cChg (withoutL l i)) false]⟩):=
 mA_ (ι:=withCRX) (fun i j h=>by obtain ⟨l,l',i,h_l,hL⟩:=i; obtain ⟨l2,l'2,i2,h_l2,hL2⟩:=j; simp [and_assoc,qB_,qI_,qO_,qC_,qE_,qK_,qR_,qV_,qP_,qOc_] at h; obtain ⟨rfl,rfl⟩:=h; obtain rfl:=SlA.inj (fun x y h=>cChg_inj h) h_l h_l2; rfl) ⟨l,l',i,h_l,hL⟩
theorem withCRS_at (l:List Chg) (i:Int) (hL:l.length<=100000):withCRS [(.sl 9 (rows cChg l)),.int .i64 i] []=some (⟨.own (2,0) (withoutL l i).length,[],[.row 35 9 (rows cChg (withoutL l i)) false]⟩):=withCRS_atG l _ i .sl hL
def withCRI (l:List Chg) (i:Int) (pre _post X:List Chg):St:=⟨ofL [(0,.sl 9 (rows cChg l)),(1,.int .i64 i),(5,.own (0,999) X.length),(6,.int .i64 pre.length)],hOf [((0,999),.row 35 9 (rows cChg X) false)]⟩
theorem withCR_ok:HSound Tryz.prog 59 withCRS:=by
  refine sE_ (fn:=Tryz.f59) rfl rfl (by kernel_rfl) fun args bx hr hS=>?_
  obtain ⟨⟨l,l',i,h_l,hL⟩,rfl,rfl,rfl⟩:=mO_ hS
  clear hS
  refine ⟨_,(eN_ _),by simp [Tryz.f59],by simp [go_sem],fun w Mx pin=>?_⟩
  simp only [hB_at,lab_nil,lab_cons,hOf_nil,hOf_cons]
  refine aW_ (s':=⟨ofL [(0,(.sl 9 (rows cChg l))),(1,.int .i64 i)],hOf []⟩) ?_ ?_
  · cases h_l <;> exact wO_ [] (by simp [go_sem]) (by simp [go_sem]) (by simp [go_sem])
  clear h_l
  refine aQ_ ?_
  iterate 1
    refine oC_ fun J hJ=>?_
    simp [go_sem]
    refine hJ _ _ _ ?_
  refine oN_ ?_
  refine aQ_ ?_
  iterate 1
    refine oC_ fun J hJ=>?_
    simp [go_sem]
    refine hJ _ _ _ ?_
  refine oN_ ?_
  refine aS_ fun K3 hK3=>?_
  refine aQ_ ?_
  iterate 1
    refine oC_ fun J hJ=>?_
    simp [go_sem]
    refine hJ _ _ _ ?_
  refine oN_ ?_
  refine aB_ ?_
  refine aL_ (ι:={ q:List Chg × List Chg × List Chg // q.1++q.2.1=l/\q.2.2.length<=q.1.length/\q.2.2++withG i q.2.1 q.1.length=withG i l 0 }) (fun q=>withCRI l i q.1.1 q.1.2.1 q.1.2.2) (fun q=>q.1.2.1.length) ⟨([],l,[]),rfl,⟨by simp,rfl⟩⟩ ?_ ?_
  · refine wO_ [((0,999),none)] (by simp [go_sem]) ?_ ?_ <;> simp [go_sem]
  intro ⟨⟨pre,post,X⟩,hl,hgo⟩
  simp only at hl hgo
  have hpl:=lS_ hl hL
  simp only [withCRI]
  refine aS_ fun K5 hK5=>?_
  refine aQ_ ?_
  iterate 4
    refine oC_ fun J hJ=>?_
    simp [go_sem]
    refine hJ _ _ _ ?_
  refine oN_ ?_
  refine aC_ (t:=_) rfl (fun c7=>?_) (fun c7=>?_)
  · simp [go_sem] at c7
    obtain ⟨x,post,rfl,hx⟩:=mL_ hl c7
    have hlt:=(List.getElem?_eq_some_iff.1 hx).1
    refine aK_ ?_
    refine hK5 _ ?_
    refine aS_ fun K8 hK8=>?_
    refine aB_ ?_
    refine aQ_ ?_
    iterate 3
      refine oC_ fun J hJ=>?_
      simp [go_sem]
      refine hJ _ _ _ ?_
    refine oN_ ?_
    refine aC_ (t:=_) rfl (fun c10=>?_) (fun c10=>?_)
    · simp [go_sem] at c10
      have hX1:=hgo.1
      refine aR_ ?_
      iterate 8
        refine oC_ fun J hJ=>?_
        simp [go_sem,hx,show (X.length + 1) * 72<=140737488355328 by omega,show X.length + 1<=maxLen by simp only [maxLen]; omega]
        refine hJ _ _ _ ?_
      refine oN_ ?_
      refine hK8 _ ?_
      refine aR_ ?_
      iterate 3
        refine oC_ fun J hJ=>?_
        simp [go_sem]
        refine hJ _ _ _ ?_
      refine oN_ ?_
      refine ⟨⟨(pre++[x],post,(if (pre.length:Int)=i then X else X++[x])),by simp [<-hl],?_⟩,?_,by simp⟩
      · rw [<-hgo.2]
        by_cases hn:(pre.length:Int)=i <;> simp [hn,withG,hgo.1] <;> omega
      first
        | (refine wO_ [((0,999),some (0,352))] (by simp [go_sem]) ?_ ?_ <;> (simp [go_sem,wN_ hpl,c10,withCRI]; done))
        | (have wi:IntKind.i64.wrap (i + 1)=i + 1:=by rw [<-c10]; exact wN_ hpl
           refine wO_ [((0,999),some (0,999))] (by simp [go_sem]) ?_ ?_ <;> (simp [go_sem,wi,c10,withCRI]; done))
    · simp [go_sem] at c10
      refine aK_ ?_
      refine hK8 _ ?_
      refine aR_ ?_
      iterate 3
        refine oC_ fun J hJ=>?_
        simp [go_sem]
        refine hJ _ _ _ ?_
      refine oN_ ?_
      refine ⟨⟨(pre++[x],post,(if (pre.length:Int)=i then X else X++[x])),by simp [<-hl],?_⟩,?_,by simp⟩
      · rw [<-hgo.2]
        by_cases hn:(pre.length:Int)=i <;> simp [hn,withG,hgo.1] <;> omega
      first
        | (refine wO_ [((0,999),some (0,352))] (by simp [go_sem]) ?_ ?_ <;> (simp [go_sem,wN_ hpl,c10,withCRI]; done))
        | (have wi:IntKind.i64.wrap (i + 1)=i + 1:=by rw [<-c10]; exact wN_ hpl
           refine wO_ [((0,999),some (0,999))] (by simp [go_sem]) ?_ ?_ <;> (simp [go_sem,wi,c10,withCRI]; done))
  · simp [go_sem] at c7
    obtain ⟨rfl,rfl⟩:=mN_ hl c7
    simp only [withG,List.append_nil] at hgo
    refine aX_ ?_
    simp only [go_sem]
    refine hK3 _ ?_
    refine aQ_ ?_
    iterate 2
      refine oC_ fun J hJ=>?_
      simp [go_sem]
      refine hJ _ _ _ ?_
    refine oN_ ?_
    refine aE_ ?_
    have hX:X=withoutL l i:=by rw [hgo.2,withG_eq]
    subst hX
    refine fQ_ [((2,0),some (0,999))] ?_
    simp [go_sem,Tryz.f59]
end Go.Proofs.YtjoaigccapegpaaGreat.AE
