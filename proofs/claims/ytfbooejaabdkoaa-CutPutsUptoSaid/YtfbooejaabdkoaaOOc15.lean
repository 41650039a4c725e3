/-
 Law 41: octets: contract. Conditions: none; every contract names its own.
-/
import Derived.Test.YtfbooejaabdkoaaOOc13
import Derived.Test.YtfbooejaabdkoaaOOc7
set_option linter.constructorNameAsVariable false
namespace Go.Proofs.Ytfbooejaabdkoaa.AE
open Go Go.Proofs Go.RowKit
set_option linter.unusedVariables false
set_option linter.unusedSimpArgs false
set_option maxRecDepth 100000
set_option maxHeartbeats 4000000
theorem be1 (x:Int):be 1 x=[x % 256]:=by simp [be]
@[go_sem] theorem be1_take (x:Int):List.take 1 (be 1 x)=be 1 x:=rfl
@[go_sem] theorem be11_take (x y:Int):List.take 2 (be 1 x++be 1 y)=be 1 x++be 1 y:=rfl
@[go_sem] theorem rows_cons_U8 (n:Int) (L:List U8):[.int .u8 n] :: rows cU8 L=rows cU8 (n :: L):=rfl
theorem be1_two (x y:Int):[x % 256,y % 256]=be 1 x++be 1 y:=by rw [be1,be1]; rfl
theorem u64_rng (x:Int):0<=IntKind.u64.wrap x/\IntKind.u64.wrap x < 18446744073709551616:=by rw [IntKind.wrap_u64]; omega
theorem oputR_w (b:List U8) (x:Int) (z:Nat) (zi:Int) (hz:zi=(z:Int)) (h:b.length<=100000) (h1:1<=z/\z<=8):oputRS [.sl 1 (rows cU8 b),.int .u64 (IntKind.u64.wrap x),.int .i64 zi] []=some ⟨.own (2,0) (b.length + z),[],[.row 5 1 (rows cU8 (b++be z x)) false]⟩:=by
 have:=oputRS_at b (IntKind.u64.wrap x) z ⟨h,h1.1,h1.2,u64_rng x⟩
 rw [be_wrap z x h1.2] at this
 rw [hz]
 exact this
def ocI (t:Nat) (c:CutS) (S:List U8) (i:Nat):St:=⟨ofL [(1,.ref (0,16) 0),(3,.own (0,999) S.length),(t,.int .i64 i)],hOf [((0,16),.obj (cCutS c)),((0,999),.row 5 1 (rows cU8 S) false)]⟩
def ocV (S:List U8) (l:List Ord):List U8:=S++l.flatMap octO
theorem ocV_nil (S:List U8):ocV S []=S:=by simp [ocV]
def ocO (n:Int) (k:Vn 4) (b:Bk) (os:List Ord) (S:List U8) (pre _post:List Ord):St:=⟨ofL [(1,.ref (0,16) 0),(3,.own (0,999) (ocV S pre).length),(8,.int .i64 pre.length)],hOf [((0,16),.obj (cCut n k b (.sl 7 (rows cOrd os)))),((0,999),.row 5 1 (rows cU8 (ocV S pre)) false)]⟩
structure octRX where
 n:Int
 k:Vn 4
 b:Bk
 os:List Ord
 os':AV
 h_os:SlA 7 cOrd os os'
 hL:os.length<=40
noncomputable def octRS:HSpec:=mkH (ι:=octRX) (fun ⟨n,k,b,os,os',h_os,hL⟩=>([.agg (cCut n k b os')],[])) fun ⟨n,k,b,os,os',h_os,hL⟩=>⟨.sl 1 (rows cU8 (octs ⟨n,k,b,os⟩)),[],[]⟩
theorem octRS_atG (n:Int) (k:Vn 4) (b:Bk) (os:List Ord) (os':AV) (h_os:SlA 7 cOrd os os') (hL:os.length<=40):octRS [.agg (cCut n k b os')] []=some (⟨.sl 1 (rows cU8 (octs ⟨n,k,b,os⟩)),[],[]⟩):=
 mA_ (ι:=octRX) (fun i j h=>by obtain ⟨n,k,b,os,os',h_os,hL⟩:=i; obtain ⟨n2,k2,b2,os2,os'2,h_os2,hL2⟩:=j; simp [and_assoc,qB_,qI_,qO_,qC_,qE_,qK_,qR_,qV_,qP_,qOc_,rows_iff_U8,cCut_eq_iff,Int.natCast_inj] at h; obtain ⟨rfl,rfl,rfl,rfl⟩:=h; obtain rfl:=SlA.inj (fun x y h=>cOrd_inj h) h_os h_os2; rfl) ⟨n,k,b,os,os',h_os,hL⟩
theorem octRS_at (n:Int) (k:Vn 4) (b:Bk) (os:List Ord) (hL:os.length<=40):octRS [.agg (cCut n k b (.sl 7 (rows cOrd os)))] []=some (⟨.sl 1 (rows cU8 (octs ⟨n,k,b,os⟩)),[],[]⟩):=octRS_atG n k b os _ .sl hL
theorem octR_ok:HSound Try.prog 30 octRS:=by
 refine sE_ (fn:=Try.f30) rfl rfl (by kernel_rfl) fun args bx hr hS=>?_
 obtain ⟨⟨n,k,b,os,os',h_os,hL⟩,rfl,rfl,rfl⟩:=mO_ hS
 clear hS
 refine ⟨_,(eV_ (g:=59) (by kernel_rfl) oputR_ok (eN_ _)),by simp [Try.f30],by simp [go_sem],fun w Mx pin=>?_⟩
 simp only [hB_at,lab_nil,lab_cons,hOf_nil,hOf_cons]
 refine aW_ (s':=⟨ofL [(0,.agg (cCut n k b (.sl 7 (rows cOrd os))))],hOf []⟩) ?_ ?_
 · cases h_os <;> exact wO_ [] (by simp [go_sem]) (by simp [go_sem]) (by simp [go_sem])
 clear h_os
 have hol:os.length<=100000:=by omega
 refine aQ_ ?_
 iterate 2
  refine oC_ fun J hJ=>?_
  simp [go_sem]
  refine hJ _ _ _ ?_
 refine oN_ ?_
 refine aQ_ ?_
 iterate 5
  refine oC_ fun J hJ=>?_
  simp [go_sem,wrap8,<-be1]
  refine hJ _ _ _ ?_
 refine oN_ ?_
 refine aS_ fun K3 hK3=>?_
 refine aQ_ ?_
 iterate 1
  refine oC_ fun J hJ=>?_
  simp [go_sem]
  refine hJ _ _ _ ?_
 refine oN_ ?_
 refine aB_ ?_
 refine aL_ (ι:={ i:Nat // i<=4 }) (fun s=>ocI 4 ⟨n,k,b,os⟩ (be 1 n++octV 2 k s.1) s.1) (fun s=>4 - s.1) ⟨0,by omega⟩ ?_ ?_
 · refine wO_ [((0,16),some (0,16)),((0,999),some (0,208))] (by simp [go_sem]) ?_ ?_ <;> simp [go_sem,cCutS,octV]
 intro ⟨i,hi⟩
 try simp only at hi
 obtain ⟨S,hS⟩:∃ S,S=be 1 n++octV 2 k i:=⟨_,rfl⟩
 have hSl:S.length<=9:=by rw [hS]; simp only [List.length_append,be_len,octV_len]; omega
 simp only [ocI,cCutS,<-hS]
 refine aS_ fun K5 hK5=>?_
 refine aQ_ ?_
 iterate 2
  refine oC_ fun J hJ=>?_
  simp [go_sem]
  refine hJ _ _ _ ?_
 refine oN_ ?_
 refine aC_ (t:=_) rfl (fun c7=>?_) (fun c7=>?_)
 ·
  simp [go_sem] at c7
  have hi8:i + 1<=4:=by omega
  have hi7:i < 4:=by omega
  have hi7i:(i:Int) < 4:=by omega
  have hop:=oputR_w S (k.at i) 2 2 rfl (by omega) (by omega)
  have htk:List.take (S.length + 2) (S++be 2 (k.at i))=S++be 2 (k.at i):=List.take_of_length_le (by simp [be_len])
  refine aK_ ?_
  refine hK5 _ ?_
  refine aS_ fun K8 hK8=>?_
  refine aB_ ?_
  refine aR_ ?_
  iterate 8
   refine oC_ fun J hJ=>?_
   simp [go_sem,hi7,hi7i,↓hop]
   refine hJ _ _ _ ?_
  refine oN_ ?_
  refine hK8 _ ?_
  refine aR_ ?_
  iterate 3
   refine oC_ fun J hJ=>?_
   simp [go_sem]
   refine hJ _ _ _ ?_
  refine oN_ ?_
  refine ⟨⟨i + 1,hi8⟩,?_,by simp only; omega⟩
  have hs1:be 1 n++octV 2 k (i + 1)=S++be 2 (k.at i):=by rw [octV,hS,List.append_assoc]
  show Weak _ (ocI 4 ⟨n,k,b,os⟩ (be 1 n++octV 2 k (i + 1)) (i + 1)) _
  rw [hs1]
  refine wO_ [((0,16),some (0,16)),((0,999),some (0,384))] (by simp [go_sem]) ?_ ?_ <;> simp [go_sem,cCutS,htk,be_len,wN_ (n:=i) (by omega)]
 ·
  simp [go_sem] at c7
  obtain rfl:i=4:=by omega
  subst hS
  obtain ⟨S1,e1⟩:∃ S,S=be 1 n++octV 2 k 4:=⟨_,rfl⟩
  have l1:S1.length=9:=by rw [e1]; simp only [List.length_append,be_len,octV_len]
  simp only [<-e1]
  refine aX_ ?_
  simp only [go_sem]
  refine hK3 _ ?_
  refine aS_ fun K9 hK9=>?_
  refine aQ_ ?_
  iterate 1
   refine oC_ fun J hJ=>?_
   simp [go_sem]
   refine hJ _ _ _ ?_
  refine oN_ ?_
  refine aB_ ?_
  refine aL_ (ι:={ i:Nat // i<=8 }) (fun s=>ocI 5 ⟨n,k,b,os⟩ (S1++octV 8 b.st s.1) s.1) (fun s=>8 - s.1) ⟨0,by omega⟩ ?_ ?_
  · refine wO_ [((0,16),some (0,16)),((0,999),some (0,999))] (by simp [go_sem]) ?_ ?_ <;> simp [go_sem,cCutS,octV]
  intro ⟨i,hi⟩
  try simp only at hi
  obtain ⟨S,hS⟩:∃ S,S=S1++octV 8 b.st i:=⟨_,rfl⟩
  have hSl:S.length<=73:=by rw [hS]; simp only [List.length_append,be_len,octV_len]; omega
  simp only [ocI,cCutS,<-hS]
  refine aS_ fun K11 hK11=>?_
  refine aQ_ ?_
  iterate 2
   refine oC_ fun J hJ=>?_
   simp [go_sem]
   refine hJ _ _ _ ?_
  refine oN_ ?_
  refine aC_ (t:=_) rfl (fun c13=>?_) (fun c13=>?_)
  ·
   simp [go_sem] at c13
   have hi8:i + 1<=8:=by omega
   have hi7:i < 8:=by omega
   have hi7i:(i:Int) < 8:=by omega
   have hop:=oputR_w S (b.st.at i) 8 8 rfl (by omega) (by omega)
   have htk:List.take (S.length + 8) (S++be 8 (b.st.at i))=S++be 8 (b.st.at i):=List.take_of_length_le (by simp [be_len])
   refine aK_ ?_
   refine hK11 _ ?_
   refine aS_ fun K14 hK14=>?_
   refine aB_ ?_
   refine aR_ ?_
   iterate 9
    refine oC_ fun J hJ=>?_
    simp [go_sem,hi7,hi7i,↓hop]
    refine hJ _ _ _ ?_
   refine oN_ ?_
   refine hK14 _ ?_
   refine aR_ ?_
   iterate 3
    refine oC_ fun J hJ=>?_
    simp [go_sem]
    refine hJ _ _ _ ?_
   refine oN_ ?_
   refine ⟨⟨i + 1,hi8⟩,?_,by simp only; omega⟩
   have hs1:S1++octV 8 b.st (i + 1)=S++be 8 (b.st.at i):=by rw [octV,hS,List.append_assoc]
   show Weak _ (ocI 5 ⟨n,k,b,os⟩ (S1++octV 8 b.st (i + 1)) (i + 1)) _
   rw [hs1]
   refine wO_ [((0,16),some (0,16)),((0,999),some (0,576))] (by simp [go_sem]) ?_ ?_ <;> simp [go_sem,cCutS,htk,be_len,wN_ (n:=i) (by omega)]
  ·
   simp [go_sem] at c13
   obtain rfl:i=8:=by omega
   subst hS
   obtain ⟨S2,e2⟩:∃ S,S=S1++octV 8 b.st 8:=⟨_,rfl⟩
   have l2:S2.length=73:=by rw [e2]; simp only [List.length_append,be_len,octV_len,l1]
   simp only [<-e2]
   refine aX_ ?_
   simp only [go_sem]
   refine hK9 _ ?_
   refine aS_ fun K15 hK15=>?_
   refine aQ_ ?_
   iterate 1
    refine oC_ fun J hJ=>?_
    simp [go_sem]
    refine hJ _ _ _ ?_
   refine oN_ ?_
   refine aB_ ?_
   refine aL_ (ι:={ i:Nat // i<=8 }) (fun s=>ocI 6 ⟨n,k,b,os⟩ (S2++octV 8 b.pr s.1) s.1) (fun s=>8 - s.1) ⟨0,by omega⟩ ?_ ?_
   · refine wO_ [((0,16),some (0,16)),((0,999),some (0,999))] (by simp [go_sem]) ?_ ?_ <;> simp [go_sem,cCutS,octV]
   intro ⟨i,hi⟩
   try simp only at hi
   obtain ⟨S,hS⟩:∃ S,S=S2++octV 8 b.pr i:=⟨_,rfl⟩
   have hSl:S.length<=137:=by rw [hS]; simp only [List.length_append,be_len,octV_len]; omega
   simp only [ocI,cCutS,<-hS]
   refine aS_ fun K17 hK17=>?_
   refine aQ_ ?_
   iterate 2
    refine oC_ fun J hJ=>?_
    simp [go_sem]
    refine hJ _ _ _ ?_
   refine oN_ ?_
   refine aC_ (t:=_) rfl (fun c19=>?_) (fun c19=>?_)
   ·
    simp [go_sem] at c19
    have hi8:i + 1<=8:=by omega
    have hi7:i < 8:=by omega
    have hi7i:(i:Int) < 8:=by omega
    have hop:=oputR_w S (b.pr.at i) 8 8 rfl (by omega) (by omega)
    have htk:List.take (S.length + 8) (S++be 8 (b.pr.at i))=S++be 8 (b.pr.at i):=List.take_of_length_le (by simp [be_len])
    refine aK_ ?_
    refine hK17 _ ?_
    refine aS_ fun K20 hK20=>?_
    refine aB_ ?_
    refine aR_ ?_
    iterate 9
     refine oC_ fun J hJ=>?_
     simp [go_sem,hi7,hi7i,↓hop]
     refine hJ _ _ _ ?_
    refine oN_ ?_
    refine hK20 _ ?_
    refine aR_ ?_
    iterate 3
     refine oC_ fun J hJ=>?_
     simp [go_sem]
     refine hJ _ _ _ ?_
    refine oN_ ?_
    refine ⟨⟨i + 1,hi8⟩,?_,by simp only; omega⟩
    have hs1:S2++octV 8 b.pr (i + 1)=S++be 8 (b.pr.at i):=by rw [octV,hS,List.append_assoc]
    show Weak _ (ocI 6 ⟨n,k,b,os⟩ (S2++octV 8 b.pr (i + 1)) (i + 1)) _
    rw [hs1]
    refine wO_ [((0,16),some (0,16)),((0,999),some (0,768))] (by simp [go_sem]) ?_ ?_ <;> simp [go_sem,cCutS,htk,be_len,wN_ (n:=i) (by omega)]
   ·
    simp [go_sem] at c19
    obtain rfl:i=8:=by omega
    subst hS
    obtain ⟨S3,e3⟩:∃ S,S=S2++octV 8 b.pr 8:=⟨_,rfl⟩
    have l3:S3.length=137:=by rw [e3]; simp only [List.length_append,be_len,octV_len,l2]
    simp only [<-e3]
    refine aX_ ?_
    simp only [go_sem]
    refine hK15 _ ?_
    refine aS_ fun K21 hK21=>?_
    refine aQ_ ?_
    iterate 1
     refine oC_ fun J hJ=>?_
     simp [go_sem]
     refine hJ _ _ _ ?_
    refine oN_ ?_
    refine aB_ ?_
    refine aL_ (ι:={ i:Nat // i<=8 }) (fun s=>ocI 7 ⟨n,k,b,os⟩ (S3++octV 8 b.pu s.1) s.1) (fun s=>8 - s.1) ⟨0,by omega⟩ ?_ ?_
    · refine wO_ [((0,16),some (0,16)),((0,999),some (0,999))] (by simp [go_sem]) ?_ ?_ <;> simp [go_sem,cCutS,octV]
    intro ⟨i,hi⟩
    try simp only at hi
    obtain ⟨S,hS⟩:∃ S,S=S3++octV 8 b.pu i:=⟨_,rfl⟩
    have hSl:S.length<=201:=by rw [hS]; simp only [List.length_append,be_len,octV_len]; omega
    simp only [ocI,cCutS,<-hS]
    refine aS_ fun K23 hK23=>?_
    refine aQ_ ?_
    iterate 2
     refine oC_ fun J hJ=>?_
     simp [go_sem]
     refine hJ _ _ _ ?_
    refine oN_ ?_
    refine aC_ (t:=_) rfl (fun c25=>?_) (fun c25=>?_)
    ·
     simp [go_sem] at c25
     have hi8:i + 1<=8:=by omega
     have hi7:i < 8:=by omega
     have hi7i:(i:Int) < 8:=by omega
     have hop:=oputR_w S (b.pu.at i) 8 8 rfl (by omega) (by omega)
     have htk:List.take (S.length + 8) (S++be 8 (b.pu.at i))=S++be 8 (b.pu.at i):=List.take_of_length_le (by simp [be_len])
     refine aK_ ?_
     refine hK23 _ ?_
     refine aS_ fun K26 hK26=>?_
     refine aB_ ?_
     refine aR_ ?_
     iterate 9
      refine oC_ fun J hJ=>?_
      simp [go_sem,hi7,hi7i,↓hop]
      refine hJ _ _ _ ?_
     refine oN_ ?_
     refine hK26 _ ?_
     refine aR_ ?_
     iterate 3
      refine oC_ fun J hJ=>?_
      simp [go_sem]
      refine hJ _ _ _ ?_
     refine oN_ ?_
     refine ⟨⟨i + 1,hi8⟩,?_,by simp only; omega⟩
     have hs1:S3++octV 8 b.pu (i + 1)=S++be 8 (b.pu.at i):=by rw [octV,hS,List.append_assoc]
     show Weak _ (ocI 7 ⟨n,k,b,os⟩ (S3++octV 8 b.pu (i + 1)) (i + 1)) _
     rw [hs1]
     refine wO_ [((0,16),some (0,16)),((0,999),some (0,960))] (by simp [go_sem]) ?_ ?_ <;> simp [go_sem,cCutS,htk,be_len,wN_ (n:=i) (by omega)]
    ·
     simp [go_sem] at c25
     obtain rfl:i=8:=by omega
     subst hS
     obtain ⟨S4,e4⟩:∃ S,S=S3++octV 8 b.pu 8:=⟨_,rfl⟩
     have l4:S4.length=201:=by rw [e4]; simp only [List.length_append,be_len,octV_len,l3]
     simp only [<-e4]
     have hts4:List.take 201 S4=S4:=List.take_of_length_le (by omega)
     refine aX_ ?_
     simp only [go_sem]
     refine hK21 _ ?_
     refine aQ_ ?_
     iterate 9
      refine oC_ fun J hJ=>?_
      simp [go_sem,wrap8,<-be1,l4,hts4,show (201 + 1)<=140737488355328 by omega,show (201 + 1)<=maxLen by (simp only [maxLen]; omega)]
      refine hJ _ _ _ ?_
     refine oN_ ?_
     refine aS_ fun K28 hK28=>?_
     refine aS_ fun K29 hK29=>?_
     obtain ⟨S5,e5⟩:∃ S,S=S4++be 1 os.length:=⟨_,rfl⟩
     have l5:S5.length=202:=by rw [e5]; simp only [List.length_append,be_len,l4]
     simp only [<-e5]
     refine aR_ ?_
     iterate 1
      refine oC_ fun J hJ=>?_
      simp [go_sem]
      refine hJ _ _ _ ?_
     refine oN_ ?_
     refine hK29 _ ?_
     refine aB_ ?_
     refine aL_ (ι:={ q:List Ord × List Ord // q.1++q.2=os/\True }) (fun q=>ocO n k b os S5 q.1.1 q.1.2) (fun q=>q.1.2.length) ⟨([],os),rfl,trivial⟩ ?_ ?_
     · refine wO_ [((0,16),some (0,16)),((0,999),some (0,1088))] (by simp [go_sem]) ?_ ?_ <;> simp [go_sem,ocO,cCutS,ocV_nil,l5]
     intro ⟨⟨pre,post⟩,hl,hgo⟩
     simp only at hl hgo
     have hpl:=lS_ hl hol
     simp only [ocO]
     obtain ⟨S,hS⟩:∃ S,S=ocV S5 pre:=⟨_,rfl⟩
     have hfl:=octOs_len pre
     simp only [ocO,<-hS]
     refine aS_ fun K30 hK30=>?_
     refine aQ_ ?_
     iterate 6
      refine oC_ fun J hJ=>?_
      simp [go_sem]
      refine hJ _ _ _ ?_
     refine oN_ ?_
     refine aC_ (t:=_) rfl (fun c32=>?_) (fun c32=>?_)
     ·
      simp [go_sem] at c32
      obtain ⟨x,post,rfl,hx⟩:=mL_ hl c32
      have hpL:pre.length < os.length:=by rw [<-hl]; simp
      have hSb:S.length<=3000:=by rw [hS,ocV,List.length_append,hfl]; omega
      obtain ⟨T1,eT1⟩:∃ T,T=S++be 1 x.id.rep:=⟨_,rfl⟩
      have lT1:T1.length=S.length + 1:=by rw [eT1,List.length_append]; simp only [be_len,List.length_append]
      have ht1:List.take (S.length + 1) T1=T1:=List.take_of_length_le (by omega)
      obtain ⟨T2,eT2⟩:∃ T,T=T1++be 2 x.id.seq:=⟨_,rfl⟩
      have lT2:T2.length=S.length + 3:=by rw [eT2,List.length_append]; simp only [be_len,List.length_append,lT1]
      have ht2:List.take (S.length + 3) T2=T2:=List.take_of_length_le (by omega)
      obtain ⟨T3,eT3⟩:∃ T,T=T2++(be 1 x.buyer++be 1 x.item):=⟨_,rfl⟩
      have lT3:T3.length=S.length + 5:=by rw [eT3,List.length_append]; simp only [be_len,List.length_append,lT2]
      have ht3:List.take (S.length + 5) T3=T3:=List.take_of_length_le (by omega)
      obtain ⟨T4,eT4⟩:∃ T,T=T3++be 8 x.qty:=⟨_,rfl⟩
      have lT4:T4.length=S.length + 13:=by rw [eT4,List.length_append]; simp only [be_len,List.length_append,lT3]
      have ht4:List.take (S.length + 13) T4=T4:=List.take_of_length_le (by omega)
      obtain ⟨T5,eT5⟩:∃ T,T=T4++be 8 x.cost:=⟨_,rfl⟩
      have lT5:T5.length=S.length + 21:=by rw [eT5,List.length_append]; simp only [be_len,List.length_append,lT4]
      have ht5:List.take (S.length + 21) T5=T5:=List.take_of_length_le (by omega)
      obtain ⟨T6,eT6⟩:∃ T,T=T5++be 1 x.state:=⟨_,rfl⟩
      have lT6:T6.length=S.length + 22:=by rw [eT6,List.length_append]; simp only [be_len,List.length_append,lT5]
      have ht6:List.take (S.length + 22) T6=T6:=List.take_of_length_le (by omega)
      have hp1:=oputR_w T1 x.id.seq 2 2 rfl (by omega) (by omega)
      have hp2:=oputR_w T3 x.qty 8 8 rfl (by omega) (by omega)
      have hp3:=oputR_w T4 x.cost 8 8 rfl (by omega) (by omega)
      refine aK_ ?_
      refine hK30 _ ?_
      refine aS_ fun K33 hK33=>?_
      refine aB_ ?_
      refine aQ_ ?_
      iterate 8
       refine oC_ fun J hJ=>?_
       simp [go_sem,↓hx,hx,hpL]
       refine hJ _ _ _ ?_
      refine oN_ ?_
      refine aU_ ?_
      iterate 13
       refine oC_ fun J hJ=>?_
       simp [go_sem,wrap8,<-be1,<-eT1,↓hp1,lT1,ht1,<-eT2,show (S.length + 1)<=140737488355328 by omega,show (S.length + 1)<=maxLen by (simp only [maxLen]; omega)]
       refine hJ _ _ _ ?_
      refine oN_ ?_
      refine ⟨rfl,?_⟩
      refine aU_ ?_
      iterate 14
       refine oC_ fun J hJ=>?_
       simp [go_sem,wrap8,be1_two,<-eT3,↓hp2,lT2,lT3,ht2,ht3,<-eT4,Nat.add_assoc,show (S.length + 5)<=140737488355328 by omega,show (S.length + 5)<=maxLen by (simp only [maxLen]; omega)]
       refine hJ _ _ _ ?_
      refine oN_ ?_
      refine ⟨rfl,?_⟩
      refine aD_ ?_
      iterate 11
       refine oC_ fun J hJ=>?_
       simp [go_sem,wrap8,<-be1,↓hp3,lT4,lT5,ht4,ht5,<-eT5,<-eT6,Nat.add_assoc,show (S.length + 22)<=140737488355328 by omega,show (S.length + 22)<=maxLen by (simp only [maxLen]; omega)]
       refine hJ _ _ _ ?_
      refine oN_ ?_
      refine ⟨rfl,?_⟩
      refine hK33 _ ?_
      refine aR_ ?_
      iterate 3
       refine oC_ fun J hJ=>?_
       simp [go_sem]
       refine hJ _ _ _ ?_
      refine oN_ ?_
      have hs2:ocV S5 (pre++[x])=T6:=by rw [eT6,eT5,eT4,eT3,eT2,eT1,hS]; simp [ocV,octO]
      refine ⟨⟨(pre++[x],post),by simp [<-hl],by exact trivial⟩,?_,by simp⟩
      refine wO_ [((0,16),some (0,16)),((0,999),some (0,1872))] (by simp [go_sem]) ?_ ?_ <;> simp [go_sem,wN_ hpl,ocO,cCutS,hs2,lT6]
     ·
      simp [go_sem] at c32
      obtain ⟨rfl,rfl⟩:=mN_ hl c32
      have ho:octs ⟨n,k,b,os⟩=S:=by rw [hS,ocV,e5,e4,e3,e2,e1]; simp only [octs,List.append_assoc]
      refine aX_ ?_
      simp only [go_sem]
      refine hK28 _ ?_
      refine aQ_ ?_
      iterate 2
       refine oC_ fun J hJ=>?_
       simp [go_sem]
       refine hJ _ _ _ ?_
      refine oN_ ?_
      refine aE_ ?_
      refine fQ_ [] ?_
      simp [go_sem,Try.f30,dropped,ho]
end Go.Proofs.Ytfbooejaabdkoaa.AE
