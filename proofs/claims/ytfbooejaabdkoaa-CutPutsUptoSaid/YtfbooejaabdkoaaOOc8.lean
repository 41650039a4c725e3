/-
 The octets of a cut: contract. Conditions: none; every contract names its own.
-/
import Derived.Test.YtfbooejaabdkoaaOOc7
import Derived.Test.YtfbooejaabdkoaaOOc6
set_option linter.constructorNameAsVariable false
namespace Go.Proofs.Ytfbooejaabdkoaa.AE
open Go Go.Proofs Go.RowKit
set_option linter.unusedVariables false
set_option linter.unusedSimpArgs false
set_option maxRecDepth 100000
set_option maxHeartbeats 4000000
def octsL (c:CutS):List U8:=if checkC c=true then octs c else []
def octsE (c:CutS):Int:=if checkC c=true then 0 else 4
theorem sput1 (s:List U8) (z:Nat) (zi:Int) (x:Int) (hz:zi=(z:Int)) (h:s.length<=5000) (h1:1<=z/\z<=8):sputS [.ref (1,0) 0,.int .i64 zi,.sl 1 (rows cInt [x])] [.obj [.sl 1 (rows cU8 s)]]=some ⟨.tup [],[.obj [.sl 1 (rows cU8 (s++be z x))]],[]⟩:=by
 have:=sputS_at s z [x] ⟨h,by simp,h1⟩
 rw [show shV z s [x]=s++be z x by simp [shV]] at this
 rw [hz]
 exact this
theorem sput2 (s:List U8) (z:Nat) (zi:Int) (x y:Int) (hz:zi=(z:Int)) (h:s.length<=5000) (h1:1<=z/\z<=8):sputS [.ref (1,0) 0,.int .i64 zi,.sl 1 (rows cInt [x,y])] [.obj [.sl 1 (rows cU8 s)]]=some ⟨.tup [],[.obj [.sl 1 (rows cU8 (s++(be z x++be z y)))]],[]⟩:=by
 have:=sputS_at s z [x,y] ⟨h,by simp,h1⟩
 rw [show shV z s [x,y]=s++(be z x++be z y) by simp [shV]] at this
 rw [hz]
 exact this
theorem octV_flat {n:Nat} (z:Nat) (v:Vn n):v.l.flatMap (be z)=octV z v n:=by
 have key:∀ i,i<=n->(v.l.take i).flatMap (be z)=octV z v i:=by
  intro i
  induction i with
  | zero=>intro _; rfl
  | succ i ih=>
   intro hi
   have hl:i < v.l.length:=by rw [v.h]; omega
   rw [List.take_add_one,List.getElem?_eq_getElem hl,List.flatMap_append,ih (by omega),octV]
   congr 1
   simp [Vn.at,List.getD_eq_getElem?_getD,List.getElem?_eq_getElem hl]
 have:=key n (Nat.le_refl _)
 rwa [List.take_of_length_le (by rw [v.h]; exact Nat.le_refl _)] at this
theorem sput8 (s:List U8) (v:Vn 8) (h:s.length<=5000):sputS [.ref (1,0) 0,.int .i64 8,.sl 1 (rows cInt v.l)] [.obj [.sl 1 (rows cU8 s)]]=some ⟨.tup [],[.obj [.sl 1 (rows cU8 (s++octV 8 v 8))]],[]⟩:=by
 have:=sputS_at s 8 v.l ⟨h,by rw [v.h]; omega,by omega,by omega⟩
 rw [show shV 8 s v.l=s++octV 8 v 8 by rw [shV,octV_flat]] at this
 exact this
@[go_sem] theorem cInt_take (n:Int):(cInt n).take 1=cInt n:=rfl
@[go_sem] theorem rows_one_I (n:Int):[cInt n]=rows cInt [n]:=rfl
@[go_sem] theorem cV_cells {n:Nat} (v:Vn n):(cV v).map (fun x=>[x])=rows cInt v.l:=by
 simp only [cV,AI,rows,List.map_map]
 rfl
def putKI (n:Int) (k:Vn 4) (b:Bk) (os:List Ord) (S:List U8) (i:Nat):St:=⟨ofL [(1,.iref (cCut n k b (.sl 7 (rows cOrd os))) 0),(5,.ref (0,80) 0),(20,.agg (cV k)),(21,.int .i64 i)],hOf [((0,80),.obj [.sl 1 (rows cU8 (S++octV 2 k i))])]⟩
def putOI (S:List U8) (os pre _post:List Ord):St:=⟨ofL [(5,.ref (0,80) 0),(48,.sl 7 (rows cOrd os)),(49,.int .i64 os.length),(50,.int .i64 pre.length)],hOf [((0,80),.obj [.sl 1 (rows cU8 (S++pre.flatMap octO))])]⟩
structure cutPutX where
 n:Int
 k:Vn 4
 b:Bk
 os:List Ord
 os':AV
 h_os:SlA 7 cOrd os os'
 hL:os.length<=100000
noncomputable def cutPutS:HSpec:=mkH (ι:=cutPutX) (fun ⟨n,k,b,os,os',h_os,hL⟩=>([.agg (cCut n k b os')],[])) fun ⟨n,k,b,os,os',h_os,hL⟩=>⟨.tup [.sl 1 (rows cU8 (octsL ⟨n,k,b,os⟩)),.int .i64 (octsE ⟨n,k,b,os⟩)],[],[]⟩
theorem cutPutS_atG (n:Int) (k:Vn 4) (b:Bk) (os:List Ord) (os':AV) (h_os:SlA 7 cOrd os os') (hL:os.length<=100000):cutPutS [.agg (cCut n k b os')] []=some (⟨.tup [.sl 1 (rows cU8 (octsL ⟨n,k,b,os⟩)),.int .i64 (octsE ⟨n,k,b,os⟩)],[],[]⟩):=
 mA_ (ι:=cutPutX) (fun i j h=>by obtain ⟨n,k,b,os,os',h_os,hL⟩:=i; obtain ⟨n2,k2,b2,os2,os'2,h_os2,hL2⟩:=j; simp [and_assoc,qB_,qI_,qO_,qC_,qE_,qK_,qR_,qV_,qP_,qOc_,rows_iff_U8,cCut_eq_iff,Int.natCast_inj] at h; obtain ⟨rfl,rfl,rfl,rfl⟩:=h; obtain rfl:=SlA.inj (fun x y h=>cOrd_inj h) h_os h_os2; rfl) ⟨n,k,b,os,os',h_os,hL⟩
theorem cutPutS_at (n:Int) (k:Vn 4) (b:Bk) (os:List Ord) (hL:os.length<=100000):cutPutS [.agg (cCut n k b (.sl 7 (rows cOrd os)))] []=some (⟨.tup [.sl 1 (rows cU8 (octsL ⟨n,k,b,os⟩)),.int .i64 (octsE ⟨n,k,b,os⟩)],[],[]⟩):=cutPutS_atG n k b os _ .sl hL
theorem cutPut_ok:HSound Try.prog 26 cutPutS:=by
 refine sE_ (fn:=Try.f26) rfl rfl (by kernel_rfl) fun args bx hr hS=>?_
 obtain ⟨⟨n,k,b,os,os',h_os,hL⟩,rfl,rfl,rfl⟩:=mO_ hS
 clear hS
 refine ⟨_,(eV_ (g:=29) (by kernel_rfl) cutChk_ok (eH_ (g:=51) (by kernel_rfl) sput_ok (eN_ _))),by simp [Try.f26],by simp [go_sem],fun w Mx pin=>?_⟩
 simp only [hB_at,lab_nil,lab_cons,hOf_nil,hOf_cons]
 refine aW_ (s':=⟨ofL [(0,.agg (cCut n k b (.sl 7 (rows cOrd os))))],hOf []⟩) ?_ ?_
 · cases h_os <;> exact wO_ [] (by simp [go_sem]) (by simp [go_sem]) (by simp [go_sem])
 clear h_os
 refine aQ_ ?_
 iterate 3
  refine oC_ fun J hJ=>?_
  simp [go_sem]
  refine hJ _ _ _ ?_
 refine oN_ ?_
 refine aS_ fun K2 hK2=>?_
 refine aS_ fun K3 hK3=>?_
 cases hck:checkC ⟨n,k,b,os⟩
 ·
  have q1:octsL ⟨n,k,b,os⟩=[]:=by simp [octsL,hck]
  have q2:octsE ⟨n,k,b,os⟩=4:=by simp [octsE,hck]
  refine aR_ ?_
  iterate 3
   refine oC_ fun J hJ=>?_
   simp [go_sem,cutChkS_at n k b os hL,hck]
   refine hJ _ _ _ ?_
  refine oN_ ?_
  refine hK3 _ ?_
  refine aQ_ ?_
  iterate 2
   refine oC_ fun J hJ=>?_
   simp [go_sem]
   refine hJ _ _ _ ?_
  refine oN_ ?_
  refine aT_ rfl ?_
  refine aQ_ ?_
  iterate 3
   refine oC_ fun J hJ=>?_
   simp [go_sem]
   refine hJ _ _ _ ?_
  refine oN_ ?_
  refine aE_ ?_
  refine fQ_ [] ?_
  simp [go_sem,Try.f26,q1,q2]
 ·
  have q1:octsL ⟨n,k,b,os⟩=octs ⟨n,k,b,os⟩:=by simp [octsL,hck]
  have q2:octsE ⟨n,k,b,os⟩=0:=by simp [octsE,hck]
  have h32:os.length<=32:=by simp only [checkC,Bool.and_eq_true,decide_eq_true_eq] at hck; exact hck.2.1
  have hol:os.length<=100000:=by omega
  refine aR_ ?_
  iterate 3
   refine oC_ fun J hJ=>?_
   simp [go_sem,cutChkS_at n k b os hL,hck]
   refine hJ _ _ _ ?_
  refine oN_ ?_
  refine hK3 _ ?_
  refine aQ_ ?_
  iterate 2
   refine oC_ fun J hJ=>?_
   simp [go_sem]
   refine hJ _ _ _ ?_
  refine oN_ ?_
  refine aF_ rfl ?_
  refine aK_ ?_
  refine hK2 _ ?_
  refine aQ_ ?_
  iterate 1
   refine oC_ fun J hJ=>?_
   simp [go_sem]
   refine hJ _ _ _ ?_
  refine oN_ ?_
  refine aS_ fun K8 hK8=>?_
  have hp0:=sput1 [] 1 1 n rfl (by simp) (by omega)
  simp only [rows_nil,List.nil_append] at hp0
  refine aW_ (s':=⟨ofL [(1,.iref (cCut n k b (.sl 7 (rows cOrd os))) 0),(5,.ref (0,80) 0)],hOf [((0,80),.obj [.sl 1 (rows cU8 [])])]⟩) ?_ ?_
  · refine wO_ [((0,80),some (0,80))] (by simp [go_sem]) ?_ ?_ <;> simp [go_sem,dropped,leafV]
  refine awp_regionW ?_
  refine opsW_cons fun J hJ=>?_
  simp [go_sem,hp0]
  refine hJ _ _ _ ?_
  refine opsW_cons fun J hJ=>?_
  simp [go_sem,hp0]
  refine hJ _ _ _ ?_
  refine opsW_cons fun J hJ=>?_
  simp [go_sem,hp0]
  refine hJ _ _ _ ?_
  refine opsW_frz (e:=2) (sz:=1) (L:=rows cInt [n]) (z:=false) (0,272) (by simp [go_sem]) ?_
  refine opsW_cons fun J hJ=>?_
  simp [go_sem,hp0]
  refine hJ _ _ _ ?_
  refine opsW_nil ?_
  refine hK8 _ ?_
  refine aS_ fun K9 hK9=>?_
  refine aS_ fun K10 hK10=>?_
  obtain ⟨S1,e1⟩:∃ S,S=be 1 n:=⟨_,rfl⟩
  have l1:S1.length<=1:=by rw [e1]; simp only [List.length_append,be_len,octV_len,List.length_nil]; omega
  try simp only [List.nil_append,List.append_assoc]
  simp only [<-e1]
  refine aR_ ?_
  iterate 3
   refine oC_ fun J hJ=>?_
   simp [go_sem]
   refine hJ _ _ _ ?_
  refine oN_ ?_
  refine hK10 _ ?_
  refine aB_ ?_
  refine aL_ (ι:={ i:Nat // i<=4 }) (fun s=>putKI n k b os S1 s.1) (fun s=>4 - s.1) ⟨0,by omega⟩ ?_ ?_
  · refine wO_ [((0,80),some (0,80))] (by simp [go_sem]) ?_ ?_ <;> simp [go_sem,octV]
  intro ⟨i,hi⟩
  try simp only at hi
  obtain ⟨S,hS⟩:∃ S,S=S1++octV 2 k i:=⟨_,rfl⟩
  have hSl:S.length<=9:=by rw [hS]; simp only [List.length_append,octV_len]; omega
  simp only [putKI,<-hS]
  refine aQ_ ?_
  iterate 1
   refine oC_ fun J hJ=>?_
   simp [go_sem]
   refine hJ _ _ _ ?_
  refine oN_ ?_
  refine aS_ fun K12 hK12=>?_
  refine aC_ (t:=_) rfl (fun c13=>?_) (fun c13=>?_)
  ·
   simp [go_sem] at c13
   have hi8:i + 1<=4:=by omega
   have hi7:i < 4:=by omega
   have hi7i:(i:Int) < 4:=by omega
   refine aK_ ?_
   refine hK12 _ ?_
   refine aS_ fun K14 hK14=>?_
   refine aB_ ?_
   refine aQ_ ?_
   iterate 2
    refine oC_ fun J hJ=>?_
    simp [go_sem,hi7,hi7i]
    refine hJ _ _ _ ?_
   refine oN_ ?_
   refine awp_regionW ?_
   refine opsW_cons fun J hJ=>?_
   simp [go_sem,sput1 S 2 2 (k.at i) rfl (by omega) (by omega)]
   refine hJ _ _ _ ?_
   refine opsW_cons fun J hJ=>?_
   simp [go_sem,sput1 S 2 2 (k.at i) rfl (by omega) (by omega)]
   refine hJ _ _ _ ?_
   refine opsW_frz (e:=2) (sz:=1) (L:=rows cInt [k.at i]) (z:=false) (0,400) (by simp [go_sem]) ?_
   refine opsW_cons fun J hJ=>?_
   simp [go_sem,sput1 S 2 2 (k.at i) rfl (by omega) (by omega)]
   refine hJ _ _ _ ?_
   refine opsW_nil ?_
   refine hK14 _ ?_
   refine aR_ ?_
   iterate 2
    refine oC_ fun J hJ=>?_
    simp [go_sem]
    refine hJ _ _ _ ?_
   refine oN_ ?_
   refine ⟨⟨i + 1,hi8⟩,?_,by simp only; omega⟩
   refine wO_ [((0,80),some (0,80))] (by simp [go_sem]) ?_ ?_ <;> simp [go_sem,octV,hS,List.append_assoc,wN_ (n:=i) (by omega)]
  ·
   simp [go_sem] at c13
   obtain rfl:i=4:=by omega
   subst hS
   refine aX_ ?_
   simp only [go_sem]
   refine hK9 _ ?_
   refine aS_ fun K16 hK16=>?_
   obtain ⟨S2,e2⟩:∃ S,S=S1++octV 2 k 4:=⟨_,rfl⟩
   have l2:S2.length<=9:=by rw [e2]; simp only [List.length_append,be_len,octV_len,List.length_nil]; omega
   try simp only [List.nil_append,List.append_assoc]
   simp only [<-e2]
   refine aR_ ?_
   iterate 4
    refine oC_ fun J hJ=>?_
    simp [go_sem,sput8 S2 b.st (by omega)]
    refine hJ _ _ _ ?_
   refine oN_ ?_
   refine hK16 _ ?_
   refine aS_ fun K17 hK17=>?_
   obtain ⟨S3,e3⟩:∃ S,S=S2++octV 8 b.st 8:=⟨_,rfl⟩
   have l3:S3.length<=73:=by rw [e3]; simp only [List.length_append,be_len,octV_len,List.length_nil]; omega
   try simp only [List.nil_append,List.append_assoc]
   simp only [<-e3]
   refine aR_ ?_
   iterate 4
    refine oC_ fun J hJ=>?_
    simp [go_sem,sput8 S3 b.pr (by omega)]
    refine hJ _ _ _ ?_
   refine oN_ ?_
   refine hK17 _ ?_
   refine aS_ fun K18 hK18=>?_
   obtain ⟨S4,e4⟩:∃ S,S=S3++octV 8 b.pr 8:=⟨_,rfl⟩
   have l4:S4.length<=137:=by rw [e4]; simp only [List.length_append,be_len,octV_len,List.length_nil]; omega
   try simp only [List.nil_append,List.append_assoc]
   simp only [<-e4]
   refine aR_ ?_
   iterate 4
    refine oC_ fun J hJ=>?_
    simp [go_sem,sput8 S4 b.pu (by omega)]
    refine hJ _ _ _ ?_
   refine oN_ ?_
   refine hK18 _ ?_
   refine aS_ fun K19 hK19=>?_
   obtain ⟨S41,e41⟩:∃ S,S=S4++octV 8 b.pu 8:=⟨_,rfl⟩
   have l41:S41.length<=201:=by rw [e41]; simp only [List.length_append,be_len,octV_len,List.length_nil]; omega
   try simp only [List.nil_append,List.append_assoc]
   simp only [<-e41]
   refine awp_regionW ?_
   refine opsW_cons fun J hJ=>?_
   simp [go_sem,sput1 S41 1 1 (os.length:Int) rfl (by omega) (by omega)]
   refine hJ _ _ _ ?_
   refine opsW_cons fun J hJ=>?_
   simp [go_sem,sput1 S41 1 1 (os.length:Int) rfl (by omega) (by omega)]
   refine hJ _ _ _ ?_
   refine opsW_cons fun J hJ=>?_
   simp [go_sem,sput1 S41 1 1 (os.length:Int) rfl (by omega) (by omega)]
   refine hJ _ _ _ ?_
   refine opsW_cons fun J hJ=>?_
   simp [go_sem,sput1 S41 1 1 (os.length:Int) rfl (by omega) (by omega)]
   refine hJ _ _ _ ?_
   refine opsW_cons fun J hJ=>?_
   simp [go_sem,sput1 S41 1 1 (os.length:Int) rfl (by omega) (by omega)]
   refine hJ _ _ _ ?_
   refine opsW_frz (e:=2) (sz:=1) (L:=rows cInt [(os.length:Int)]) (z:=false) (0,704) (by simp [go_sem]) ?_
   refine opsW_cons fun J hJ=>?_
   simp [go_sem,sput1 S41 1 1 (os.length:Int) rfl (by omega) (by omega)]
   refine hJ _ _ _ ?_
   refine opsW_nil ?_
   refine hK19 _ ?_
   refine aS_ fun K20 hK20=>?_
   refine aS_ fun K21 hK21=>?_
   obtain ⟨S5,e5⟩:∃ S,S=S41++be 1 os.length:=⟨_,rfl⟩
   have l5:S5.length<=202:=by rw [e5]; simp only [List.length_append,be_len,octV_len,List.length_nil]; omega
   try simp only [List.nil_append,List.append_assoc]
   simp only [<-e5]
   refine aR_ ?_
   iterate 5
    refine oC_ fun J hJ=>?_
    simp [go_sem]
    refine hJ _ _ _ ?_
   refine oN_ ?_
   refine hK21 _ ?_
   refine aB_ ?_
   refine aL_ (ι:={ q:List Ord × List Ord // q.1++q.2=os/\True }) (fun q=>putOI S5 os q.1.1 q.1.2) (fun q=>q.1.2.length) ⟨([],os),rfl,trivial⟩ ?_ ?_
   · refine wO_ [((0,80),some (0,80))] (by simp [go_sem]) ?_ ?_ <;> simp [go_sem]
   intro ⟨⟨pre,post⟩,hl,hgo⟩
   simp only at hl hgo
   have hpl:=lS_ hl hol
   simp only [putOI]
   obtain ⟨S,hS⟩:∃ S,S=S5++pre.flatMap octO:=⟨_,rfl⟩
   have hfl:=octOs_len pre
   simp only [<-hS]
   refine aQ_ ?_
   iterate 1
    refine oC_ fun J hJ=>?_
    simp [go_sem]
    refine hJ _ _ _ ?_
   refine oN_ ?_
   refine aS_ fun K23 hK23=>?_
   refine aC_ (t:=_) rfl (fun c24=>?_) (fun c24=>?_)
   ·
    simp [go_sem] at c24
    obtain ⟨x,post,rfl,hx⟩:=mL_ hl c24
    have hpL:pre.length < os.length:=by rw [<-hl]; simp
    have hs0:S.length<=3000:=by rw [hS,List.length_append,hfl]; omega
    refine aK_ ?_
    refine hK23 _ ?_
    refine aS_ fun K25 hK25=>?_
    refine aB_ ?_
    refine aQ_ ?_
    iterate 4
     refine oC_ fun J hJ=>?_
     simp [go_sem,hx]
     refine hJ _ _ _ ?_
    refine oN_ ?_
    refine aS_ fun K27 hK27=>?_
    refine awp_regionW ?_
    refine opsW_cons fun J hJ=>?_
    simp [go_sem,sput1 S 1 1 x.id.rep rfl (by omega) (by omega)]
    refine hJ _ _ _ ?_
    refine opsW_cons fun J hJ=>?_
    simp [go_sem,sput1 S 1 1 x.id.rep rfl (by omega) (by omega)]
    refine hJ _ _ _ ?_
    refine opsW_cons fun J hJ=>?_
    simp [go_sem,sput1 S 1 1 x.id.rep rfl (by omega) (by omega)]
    refine hJ _ _ _ ?_
    refine opsW_cons fun J hJ=>?_
    simp [go_sem,sput1 S 1 1 x.id.rep rfl (by omega) (by omega)]
    refine hJ _ _ _ ?_
    refine opsW_frz (e:=2) (sz:=1) (L:=rows cInt [x.id.rep]) (z:=false) (0,912) (by simp [go_sem]) ?_
    refine opsW_cons fun J hJ=>?_
    simp [go_sem,sput1 S 1 1 x.id.rep rfl (by omega) (by omega)]
    refine hJ _ _ _ ?_
    refine opsW_nil ?_
    refine hK27 _ ?_
    refine aS_ fun K28 hK28=>?_
    obtain ⟨T1s,T1⟩:∃ T,T=S++be 1 x.id.rep:=⟨_,rfl⟩
    have t1:T1s.length<=5000:=by rw [T1]; simp only [List.length_append,be_len]; omega
    simp only [<-T1]
    refine awp_regionW ?_
    refine opsW_cons fun J hJ=>?_
    simp [go_sem,sput1 T1s 2 2 x.id.seq rfl t1 (by omega)]
    refine hJ _ _ _ ?_
    refine opsW_cons fun J hJ=>?_
    simp [go_sem,sput1 T1s 2 2 x.id.seq rfl t1 (by omega)]
    refine hJ _ _ _ ?_
    refine opsW_cons fun J hJ=>?_
    simp [go_sem,sput1 T1s 2 2 x.id.seq rfl t1 (by omega)]
    refine hJ _ _ _ ?_
    refine opsW_cons fun J hJ=>?_
    simp [go_sem,sput1 T1s 2 2 x.id.seq rfl t1 (by omega)]
    refine hJ _ _ _ ?_
    refine opsW_frz (e:=2) (sz:=1) (L:=rows cInt [x.id.seq]) (z:=false) (0,992) (by simp [go_sem]) ?_
    refine opsW_cons fun J hJ=>?_
    simp [go_sem,sput1 T1s 2 2 x.id.seq rfl t1 (by omega)]
    refine hJ _ _ _ ?_
    refine opsW_nil ?_
    refine hK28 _ ?_
    refine aS_ fun K29 hK29=>?_
    obtain ⟨T2s,T2⟩:∃ T,T=T1s++be 2 x.id.seq:=⟨_,rfl⟩
    have t2:T2s.length<=5000:=by rw [T2,T1]; simp only [List.length_append,be_len]; omega
    simp only [<-T2]
    refine awp_regionW ?_
    refine opsW_cons fun J hJ=>?_
    simp [go_sem,sput2 T2s 1 1 x.buyer x.item rfl t2 (by omega)]
    refine hJ _ _ _ ?_
    refine opsW_cons fun J hJ=>?_
    simp [go_sem,sput2 T2s 1 1 x.buyer x.item rfl t2 (by omega)]
    refine hJ _ _ _ ?_
    refine opsW_cons fun J hJ=>?_
    simp [go_sem,sput2 T2s 1 1 x.buyer x.item rfl t2 (by omega)]
    refine hJ _ _ _ ?_
    refine opsW_cons fun J hJ=>?_
    simp [go_sem,sput2 T2s 1 1 x.buyer x.item rfl t2 (by omega)]
    refine hJ _ _ _ ?_
    refine opsW_cons fun J hJ=>?_
    simp [go_sem,sput2 T2s 1 1 x.buyer x.item rfl t2 (by omega)]
    refine hJ _ _ _ ?_
    refine opsW_frz (e:=2) (sz:=1) (L:=rows cInt [x.buyer,x.item]) (z:=false) (0,1088) (by simp [go_sem]) ?_
    refine opsW_cons fun J hJ=>?_
    simp [go_sem,sput2 T2s 1 1 x.buyer x.item rfl t2 (by omega)]
    refine hJ _ _ _ ?_
    refine opsW_nil ?_
    refine hK29 _ ?_
    refine aS_ fun K30 hK30=>?_
    obtain ⟨T3s,T3⟩:∃ T,T=T2s++(be 1 x.buyer++be 1 x.item):=⟨_,rfl⟩
    have t3:T3s.length<=5000:=by rw [T3,T2,T1]; simp only [List.length_append,be_len]; omega
    simp only [<-T3]
    refine awp_regionW ?_
    refine opsW_cons fun J hJ=>?_
    simp [go_sem,sput2 T3s 8 8 x.qty x.cost rfl t3 (by omega)]
    refine hJ _ _ _ ?_
    refine opsW_cons fun J hJ=>?_
    simp [go_sem,sput2 T3s 8 8 x.qty x.cost rfl t3 (by omega)]
    refine hJ _ _ _ ?_
    refine opsW_cons fun J hJ=>?_
    simp [go_sem,sput2 T3s 8 8 x.qty x.cost rfl t3 (by omega)]
    refine hJ _ _ _ ?_
    refine opsW_cons fun J hJ=>?_
    simp [go_sem,sput2 T3s 8 8 x.qty x.cost rfl t3 (by omega)]
    refine hJ _ _ _ ?_
    refine opsW_cons fun J hJ=>?_
    simp [go_sem,sput2 T3s 8 8 x.qty x.cost rfl t3 (by omega)]
    refine hJ _ _ _ ?_
    refine opsW_frz (e:=2) (sz:=1) (L:=rows cInt [x.qty,x.cost]) (z:=false) (0,1184) (by simp [go_sem]) ?_
    refine opsW_cons fun J hJ=>?_
    simp [go_sem,sput2 T3s 8 8 x.qty x.cost rfl t3 (by omega)]
    refine hJ _ _ _ ?_
    refine opsW_nil ?_
    refine hK30 _ ?_
    obtain ⟨T4s,T4⟩:∃ T,T=T3s++(be 8 x.qty++be 8 x.cost):=⟨_,rfl⟩
    have t4:T4s.length<=5000:=by rw [T4,T3,T2,T1]; simp only [List.length_append,be_len]; omega
    simp only [<-T4]
    refine awp_regionW ?_
    refine opsW_cons fun J hJ=>?_
    simp [go_sem,sput1 T4s 1 1 x.state rfl t4 (by omega)]
    refine hJ _ _ _ ?_
    refine opsW_cons fun J hJ=>?_
    simp [go_sem,sput1 T4s 1 1 x.state rfl t4 (by omega)]
    refine hJ _ _ _ ?_
    refine opsW_cons fun J hJ=>?_
    simp [go_sem,sput1 T4s 1 1 x.state rfl t4 (by omega)]
    refine hJ _ _ _ ?_
    refine opsW_frz (e:=2) (sz:=1) (L:=rows cInt [x.state]) (z:=false) (0,1248) (by simp [go_sem]) ?_
    refine opsW_cons fun J hJ=>?_
    simp [go_sem,sput1 T4s 1 1 x.state rfl t4 (by omega)]
    refine hJ _ _ _ ?_
    refine opsW_nil ?_
    refine hK25 _ ?_
    obtain ⟨T5s,T5⟩:∃ T,T=T4s++be 1 x.state:=⟨_,rfl⟩
    simp only [<-T5]
    refine aR_ ?_
    iterate 2
     refine oC_ fun J hJ=>?_
     simp [go_sem]
     refine hJ _ _ _ ?_
    refine oN_ ?_
    refine ⟨⟨(pre++[x],post),by simp [<-hl],by exact trivial⟩,?_,by simp⟩
    refine wO_ [((0,80),some (0,80))] (by simp [go_sem]) ?_ ?_ <;> simp [go_sem,wN_ hpl,T5,T4,T3,T2,T1,hS,octO,List.append_assoc]
   ·
    simp [go_sem] at c24
    obtain ⟨rfl,rfl⟩:=mN_ hl c24
    subst hS
    refine aX_ ?_
    simp only [go_sem]
    refine hK20 _ ?_
    refine aQ_ ?_
    iterate 3
     refine oC_ fun J hJ=>?_
     simp [go_sem]
     refine hJ _ _ _ ?_
    refine oN_ ?_
    refine aE_ ?_
    refine fQ_ [] ?_
    simp [go_sem,Try.f26,q1,q2,dropped,e5,e41,e4,e3,e2,e1,octs,List.append_assoc]
end Go.Proofs.Ytfbooejaabdkoaa.AE
