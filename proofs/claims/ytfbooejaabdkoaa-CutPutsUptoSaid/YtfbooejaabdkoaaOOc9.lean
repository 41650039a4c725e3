/-
 The cut of octets: contract. Conditions: none; every contract names its own.
-/
import Derived.Test.YtfbooejaabdkoaaOOc8
import Derived.Test.YtfbooejaabdkoaaOOc4
import Derived.Test.YtfbooejaabdkoaaOOc5
set_option linter.constructorNameAsVariable false
namespace Go.Proofs.Ytfbooejaabdkoaa.AE
open Go Go.Proofs Go.RowKit
set_option linter.unusedVariables false
set_option linter.unusedSimpArgs false
set_option maxRecDepth 100000
set_option maxHeartbeats 4000000
theorem mkH_nope {ι:Type} {A:ι->List AV × List Box} {R:ι->HR} {args:List AV} {bx:List Box} (h:∀ i,(A i).1 ≠ args):mkH A R args bx=none:=by
 unfold mkH
 rw [dif_neg]
 rintro ⟨i,hi⟩
 exact h i (by rw [hi])
noncomputable def fillS:HSpec:=fun args bx=>match fillstS args bx with
 | some r=>some r
 | none=>match fillprS args bx with
  | some r=>some r
  | none=>fillpuS args bx
theorem fill_ok:HSound Try.prog 49 fillS:=by
 intro args bx hr h
 unfold fillS at h
 cases h1:fillstS args bx with
 | some r=>rw [h1] at h; cases h; exact fillst_ok args bx _ h1
 | none=>
  rw [h1] at h
  simp only at h
  cases h2:fillprS args bx with
  | some r=>rw [h2] at h; cases h; exact fillpr_ok args bx _ h2
  | none=>rw [h2] at h; exact fillpu_ok args bx _ h
theorem fillst_g (r:Rd) (n:Int) (k:Vn 4) (b:Bk) (h:r.2.length<=140737488355328/\Oct r.2):fillS [.agg [.ref (1,0) 0],.ref (1,1) 5] [.obj [.bool true,.bool r.1,.sl 1 (rows cU8 r.2)],.obj (cCut n k b .nils)]=some ⟨.tup [],[.obj [.bool true,.bool (rdRs 8 r 8).1,.sl 1 (rows cU8 (rdRs 8 r 8).2)],.obj (cCut n k { b with st:=fillV b.st r 8 } .nils)],[]⟩:=by
 have h0:=fillstS_at r.1 r.2 n k b h
 unfold fillS
 rw [h0]
theorem fillpr_g (r:Rd) (n:Int) (k:Vn 4) (b:Bk) (h:r.2.length<=140737488355328/\Oct r.2):fillS [.agg [.ref (1,0) 0],.ref (1,1) 13] [.obj [.bool true,.bool r.1,.sl 1 (rows cU8 r.2)],.obj (cCut n k b .nils)]=some ⟨.tup [],[.obj [.bool true,.bool (rdRs 8 r 8).1,.sl 1 (rows cU8 (rdRs 8 r 8).2)],.obj (cCut n k { b with pr:=fillV b.pr r 8 } .nils)],[]⟩:=by
 have h0:=fillprS_at r.1 r.2 n k b h
 unfold fillS
 rw [show fillstS [.agg [.ref (1,0) 0],.ref (1,1) 13] _=none from mkH_nope (fun i hi=>by simp at hi),h0]
theorem fillpu_g (r:Rd) (n:Int) (k:Vn 4) (b:Bk) (h:r.2.length<=140737488355328/\Oct r.2):fillS [.agg [.ref (1,0) 0],.ref (1,1) 21] [.obj [.bool true,.bool r.1,.sl 1 (rows cU8 r.2)],.obj (cCut n k b .nils)]=some ⟨.tup [],[.obj [.bool true,.bool (rdRs 8 r 8).1,.sl 1 (rows cU8 (rdRs 8 r 8).2)],.obj (cCut n k { b with pu:=fillV b.pu r 8 } .nils)],[]⟩:=by
 have h0:=fillpuS_at r.1 r.2 n k b h
 unfold fillS
 rw [show fillstS [.agg [.ref (1,0) 0],.ref (1,1) 21] _=none from mkH_nope (fun i hi=>by simp at hi),show fillprS [.agg [.ref (1,0) 0],.ref (1,1) 21] _=none from mkH_nope (fun i hi=>by simp at hi),h0]
theorem porder_r (r:Rd) (h:r.2.length<=140737488355328/\Oct r.2):porderS [.agg [.ref (1,0) 0]] [.obj [.bool true,.bool r.1,.sl 1 (rows cU8 r.2)]]=some ⟨.agg (cOrd (ordG r).1),[.obj [.bool true,.bool (ordG r).2.1,.sl 1 (rows cU8 (ordG r).2.2)]],[]⟩:=porderS_at r.1 r.2 h
def getE (b:List Int):Int:=if getB b=true then 0 else 16
def getKI (t:List Int) (n:Int) (r:Rd) (i:Nat):St:=⟨ofL [(0,.sl 1 (rows cU8 t)),(2,.ref (0,32) 0),(4,.ref (0,64) 0),(5,.ref (0,80) 0),(15,.int .i64 i)],hOf [((0,32),.obj (cCut 0 (zV 4) zBk .nils)),((0,64),.obj [.ref (0,160) 0]),((0,160),.obj [.bool true,.bool (rdRs 2 r i).1,.sl 1 (rows cU8 (rdRs 2 r i).2)]),((0,80),.obj (cCut n (fillK r i) zBk .nils))]⟩
def getOI (t:List Int) (n:Int) (k:Vn 4) (b:Bk) (r:Rd) (m:Int) (i:Nat):St:=⟨ofL [(0,.sl 1 (rows cU8 t)),(2,.ref (0,32) 0),(4,.ref (0,64) 0),(5,.ref (0,80) 0),(38,.int .i64 m),(39,.int .i64 i)],hOf [((0,32),.obj (cCut 0 (zV 4) zBk .nils)),((0,64),.obj [.ref (0,160) 0]),((0,160),.obj [.bool true,.bool (ordsG r i).2.1,.sl 1 (rows cU8 (ordsG r i).2.2)]),((0,80),.obj (cCut n k b (.own (0,999) i))),((0,999),.row 84 7 (rows cOrd (ordsG r i).1) false)]⟩
theorem takeM {r:Rd} (h:Oct r.2):0<=mn (tk 1 r) 32/\mn (tk 1 r) 32<=32:=by
 have hb:=beN_bound (rdL_oct (w:=1) h)
 have hl:=rdL_len 1 r
 rw [<-rdN_eq] at hb
 have h2:(256:Int) ^ (rdL 1 r).length<=256:=by
  rcases (show (rdL 1 r).length=0\/(rdL 1 r).length=1 by omega) with h | h <;> rw [h] <;> simp
 have ht:tk 1 r=rdN 1 r:=wA_ (by omega)
 unfold mn
 split <;> omega
structure cutGetX where
 t:List U8
 t':AV
 h_t:SlA 1 cU8 t t'
 hL:t.length<=140737488355328/\Oct t
noncomputable def cutGetS:HSpec:=mkH (ι:=cutGetX) (fun ⟨t,t',h_t,hL⟩=>([t'],[])) fun ⟨t,t',h_t,hL⟩=>⟨.tup [.agg (cCutS (getC t)),.int .i64 (getE t)],[],[]⟩
theorem cutGetS_atG (t:List U8) (t':AV) (h_t:SlA 1 cU8 t t') (hL:t.length<=140737488355328/\Oct t):cutGetS [t'] []=some (⟨.tup [.agg (cCutS (getC t)),.int .i64 (getE t)],[],[]⟩):=
 mA_ (ι:=cutGetX) (fun i j h=>by obtain ⟨t,t',h_t,hL⟩:=i; obtain ⟨t2,t'2,h_t2,hL2⟩:=j; simp [and_assoc,qB_,qI_,qO_,qC_,qE_,qK_,qR_,qV_,qP_,qOc_,rows_iff_U8,cCut_eq_iff,Int.natCast_inj] at h; obtain rfl:=h; obtain rfl:=SlA.inj (fun x y h=>cU8_inj h) h_t h_t2; rfl) ⟨t,t',h_t,hL⟩
theorem cutGetS_at (t:List U8) (hL:t.length<=140737488355328/\Oct t):cutGetS [(.sl 1 (rows cU8 t))] []=some (⟨.tup [.agg (cCutS (getC t)),.int .i64 (getE t)],[],[]⟩):=cutGetS_atG t _ .sl hL
theorem cutGet_ok:HSound Try.prog 25 cutGetS:=by
 refine sE_ (fn:=Try.f25) rfl rfl (by kernel_rfl) fun args bx hr hS=>?_
 obtain ⟨⟨t,t',h_t,hL⟩,rfl,rfl,rfl⟩:=mO_ hS
 clear hS
 refine ⟨_,(eV_ (g:=47) (by kernel_rfl) onew_ok (eH_ (g:=48) (by kernel_rfl) ptake_ok (eH_ (g:=49) (by kernel_rfl) fill_ok (eH_ (g:=50) (by kernel_rfl) porder_ok (eV_ (g:=26) (by kernel_rfl) cutPut_ok (eN_ _)))))),by simp [Try.f25],by simp [go_sem],fun w Mx pin=>?_⟩
 simp only [hB_at,lab_nil,lab_cons,hOf_nil,hOf_cons]
 refine aW_ (s':=⟨ofL [(0,(.sl 1 (rows cU8 t)))],hOf []⟩) ?_ ?_
 · cases h_t <;> exact wO_ [] (by simp [go_sem]) (by simp [go_sem]) (by simp [go_sem])
 clear h_t
 have g0:((false,t):Rd).2.length<=140737488355328/\Oct ((false,t):Rd).2:=hL
 obtain ⟨ra,era⟩:∃ r,r=rdR 1 (false,t):=⟨_,rfl⟩
 have ga:ra.2.length<=140737488355328/\Oct ra.2:=era ▸ rdR_ok 1 g0
 obtain ⟨rb,erb⟩:∃ r,r=rdRs 2 ra 4:=⟨_,rfl⟩
 have gb:rb.2.length<=140737488355328/\Oct rb.2:=by rw [erb]; exact ⟨(rdRs_good ga.2 ga.1 _).2,(rdRs_good ga.2 ga.1 _).1⟩
 obtain ⟨rc,erc⟩:∃ r,r=rdRs 8 rb 8:=⟨_,rfl⟩
 have gc:rc.2.length<=140737488355328/\Oct rc.2:=by rw [erc]; exact ⟨(rdRs_good gb.2 gb.1 _).2,(rdRs_good gb.2 gb.1 _).1⟩
 obtain ⟨rd,erd⟩:∃ r,r=rdRs 8 rc 8:=⟨_,rfl⟩
 have gd:rd.2.length<=140737488355328/\Oct rd.2:=by rw [erd]; exact ⟨(rdRs_good gc.2 gc.1 _).2,(rdRs_good gc.2 gc.1 _).1⟩
 obtain ⟨re,ere⟩:∃ r,r=rdRs 8 rd 8:=⟨_,rfl⟩
 have ge:re.2.length<=140737488355328/\Oct re.2:=by rw [ere]; exact ⟨(rdRs_good gd.2 gd.1 _).2,(rdRs_good gd.2 gd.1 _).1⟩
 obtain ⟨rf,erf⟩:∃ r,r=rdR 1 re:=⟨_,rfl⟩
 have gf:rf.2.length<=140737488355328/\Oct rf.2:=erf ▸ rdR_ok 1 ge
 obtain ⟨n0,en⟩:∃ n,n=tk 1 (false,t):=⟨_,rfl⟩
 obtain ⟨k0,ek⟩:∃ k,k=fillK ra 4:=⟨_,rfl⟩
 obtain ⟨M,eM⟩:∃ M,M=mn (tk 1 re) 32:=⟨_,rfl⟩
 have hM:=takeM ge.2
 rw [<-eM] at hM
 obtain ⟨b0,eb⟩:∃ b:Bk,b=⟨fillV (zV 8) rb 8,fillV (zV 8) rc 8,fillV (zV 8) rd 8⟩:=⟨_,rfl⟩
 obtain ⟨os,eo⟩:∃ os,os=(ordsG rf M.toNat).1:=⟨_,rfl⟩
 have hol:os.length<=32:=by rw [eo,ordsG_len]; omega
 have hto:List.take M.toNat os=os:=List.take_of_length_le (by rw [eo,ordsG_len]; omega)
 have hG:getG t=⟨n0,k0,b0,os⟩:=by simp only [getG,<-era,<-erb,<-erc,<-erd,<-ere,<-erf,<-en,<-ek,<-eb,<-eM,<-eo]
 have p0:=ptake_r (false,t) 1 1 rfl ⟨g0,by omega,by omega⟩
 rw [<-era,<-en] at p0
 have pe:=ptake_r re 1 1 rfl ⟨ge,by omega,by omega⟩
 rw [<-erf] at pe
 have f1:=fillst_g rb n0 k0 zBk gb
 have f2:=fillpr_g rc n0 k0 ⟨fillV (zV 8) rb 8,zV 8,zV 8⟩ gc
 have f3:=fillpu_g rd n0 k0 ⟨fillV (zV 8) rb 8,fillV (zV 8) rc 8,zV 8⟩ gd
 simp only [zBk] at f1 f2 f3
 rw [<-erc] at f1
 rw [<-erd] at f2
 rw [<-ere,<-eb] at f3
 refine aQ_ ?_
 iterate 2
  refine oC_ fun J hJ=>?_
  simp [go_sem]
  refine hJ _ _ _ ?_
 refine oN_ ?_
 refine aQ_ ?_
 iterate 5
  refine oC_ fun J hJ=>?_
  simp [go_sem,onewS_at t hL.1]
  refine hJ _ _ _ ?_
 refine oN_ ?_
 refine aQ_ ?_
 iterate 5
  refine oC_ fun J hJ=>?_
  simp [go_sem,↓p0]
  refine hJ _ _ _ ?_
 refine oN_ ?_
 refine aS_ fun K4 hK4=>?_
 refine aQ_ ?_
 iterate 1
  refine oC_ fun J hJ=>?_
  simp [go_sem]
  refine hJ _ _ _ ?_
 refine oN_ ?_
 refine aB_ ?_
 refine aL_ (ι:={ i:Nat // i<=4 }) (fun s=>getKI t n0 ra s.1) (fun s=>4 - s.1) ⟨0,by omega⟩ ?_ ?_
 · refine wO_ [((0,32),some (0,32)),((0,64),some (0,64)),((0,160),some (0,160)),((0,80),some (0,80))] (by simp [go_sem]) ?_ ?_ <;> simp [go_sem,rdRs_zero,fillK]
 intro ⟨i,hi⟩
 try simp only at hi
 obtain ⟨rr,hrr⟩:∃ rr,rr=rdRs 2 ra i:=⟨_,rfl⟩
 obtain ⟨vv,hvv⟩:∃ vv,vv=fillK ra i:=⟨_,rfl⟩
 have hgd:rr.2.length<=140737488355328/\Oct rr.2:=by rw [hrr]; exact ⟨(rdRs_good ga.2 ga.1 i).2,(rdRs_good ga.2 ga.1 i).1⟩
 simp only [getKI,<-hrr,<-hvv]
 refine aQ_ ?_
 iterate 1
  refine oC_ fun J hJ=>?_
  simp [go_sem]
  refine hJ _ _ _ ?_
 refine oN_ ?_
 refine aS_ fun K7 hK7=>?_
 refine aC_ (t:=_) rfl (fun c8=>?_) (fun c8=>?_)
 ·
  simp [go_sem] at c8
  have hi8:i + 1<=4:=by omega
  have hi7:i < 4:=by omega
  have hi7i:(i:Int) < 4:=by omega
  have hpt:=ptake_r rr 2 2 rfl ⟨hgd,by omega,by omega⟩
  refine aK_ ?_
  refine hK7 _ ?_
  refine aS_ fun K9 hK9=>?_
  refine aB_ ?_
  refine aQ_ ?_
  iterate 2
   refine oC_ fun J hJ=>?_
   simp [go_sem]
   refine hJ _ _ _ ?_
  refine oN_ ?_
  refine aR_ ?_
  iterate 6
   refine oC_ fun J hJ=>?_
   simp [go_sem,↓hpt,hi7,hi7i,show 1 + i<=29 by omega]
   refine hJ _ _ _ ?_
  refine oN_ ?_
  refine hK9 _ ?_
  refine aR_ ?_
  iterate 2
   refine oC_ fun J hJ=>?_
   simp [go_sem]
   refine hJ _ _ _ ?_
  refine oN_ ?_
  refine ⟨⟨i + 1,hi8⟩,?_,by simp only; omega⟩
  refine wO_ [((0,32),some (0,32)),((0,64),some (0,64)),((0,160),some (0,160)),((0,80),some (0,80))] (by simp [go_sem]) ?_ ?_ <;> simp [go_sem,rdRs_succ,fillK,<-hrr,<-hvv,wN_ (n:=i) (by omega)]
 ·
  simp [go_sem] at c8
  obtain rfl:i=4:=by omega
  refine aX_ ?_
  simp only [go_sem]
  refine hK4 _ ?_
  refine aS_ fun K11 hK11=>?_
  subst hrr hvv
  rw [<-ek,<-erb]
  refine aR_ ?_
  iterate 4
   refine oC_ fun J hJ=>?_
   simp [go_sem,zBk,↓f1]
   refine hJ _ _ _ ?_
  refine oN_ ?_
  refine hK11 _ ?_
  refine aQ_ ?_
  iterate 4
   refine oC_ fun J hJ=>?_
   simp [go_sem,zBk,↓f2]
   refine hJ _ _ _ ?_
  refine oN_ ?_
  refine aQ_ ?_
  iterate 4
   refine oC_ fun J hJ=>?_
   simp [go_sem,zBk,↓f3]
   refine hJ _ _ _ ?_
  refine oN_ ?_
  refine aS_ fun K14 hK14=>?_
  refine aQ_ ?_
  iterate 4
   refine oC_ fun J hJ=>?_
   simp [go_sem,↓pe,<-eM]
   refine hJ _ _ _ ?_
  refine oN_ ?_
  refine aB_ ?_
  refine aL_ (ι:={ i:Nat // i<=M.toNat }) (fun s=>getOI t n0 k0 b0 rf M s.1) (fun s=>M.toNat - s.1) ⟨0,by omega⟩ ?_ ?_
  · refine wO_ [((0,32),some (0,32)),((0,64),some (0,64)),((0,160),some (0,160)),((0,80),some (0,80)),((0,999),none)] (by simp [go_sem]) ?_ ?_ <;> simp [go_sem,ordsG,dropped,zBk]
  intro ⟨i,hi⟩
  try simp only at hi
  obtain ⟨rr,hrr⟩:∃ rr,rr=(ordsG rf i).2:=⟨_,rfl⟩
  obtain ⟨L,hL0⟩:∃ L,L=(ordsG rf i).1:=⟨_,rfl⟩
  have hLl:L.length=i:=by rw [hL0,ordsG_len]
  have htl:List.take i L=L:=List.take_of_length_le (by omega)
  have hgd:rr.2.length<=140737488355328/\Oct rr.2:=by rw [hrr]; exact ⟨(ordsG_good gf.2 gf.1 i).2,(ordsG_good gf.2 gf.1 i).1⟩
  simp only [getOI,<-hrr,<-hL0]
  refine aQ_ ?_
  iterate 1
   refine oC_ fun J hJ=>?_
   simp [go_sem]
   refine hJ _ _ _ ?_
  refine oN_ ?_
  refine aS_ fun K17 hK17=>?_
  refine aC_ (t:=_) rfl (fun c18=>?_) (fun c18=>?_)
  ·
   simp [go_sem] at c18
   have hi8:i + 1<=M.toNat:=by omega
   have hpo:=porder_r rr hgd
   refine aK_ ?_
   refine hK17 _ ?_
   refine aS_ fun K19 hK19=>?_
   refine aB_ ?_
   refine aD_ ?_
   iterate 10
    refine oC_ fun J hJ=>?_
    simp [go_sem,↓hpo,hLl,show (i + 1) * 56<=140737488355328 by omega,show i + 1<=maxLen by (simp only [maxLen]; omega)]
    refine hJ _ _ _ ?_
   refine oN_ ?_
   refine ⟨rfl,?_⟩
   refine hK19 _ ?_
   refine aR_ ?_
   iterate 2
    refine oC_ fun J hJ=>?_
    simp [go_sem]
    refine hJ _ _ _ ?_
   refine oN_ ?_
   refine ⟨⟨i + 1,hi8⟩,?_,by simp only; omega⟩
   refine wO_ [((0,32),some (0,32)),((0,64),some (0,64)),((0,160),some (0,160)),((0,80),some (0,80)),((0,999),some (0,752))] (by simp [go_sem]) ?_ ?_ <;> simp [go_sem,ordsG,<-hrr,<-hL0,hLl,htl,wN_ (n:=i) (by omega)]
  ·
   simp [go_sem] at c18
   obtain rfl:i=M.toNat:=by omega
   refine aX_ ?_
   simp only [go_sem]
   refine hK14 _ ?_
   refine aS_ fun K20 hK20=>?_
   refine aS_ fun K21 hK21=>?_
   cases hck:checkC ⟨n0,k0,b0,os⟩
   rotate_left
   by_cases hoc:octs ⟨n0,k0,b0,os⟩=t
   rotate_left 2
   ·
    have hb:getB t=false:=by rw [getB,hG,hck]; rfl
    have q1:getC t=zCut:=by rw [getC,if_neg (by simp [hb])]
    have q2:getE t=16:=by rw [getE,if_neg (by simp [hb])]
    refine aW_ (s':=⟨ofL [(0,.sl 1 (rows cU8 t)),(2,.ref (0,32) 0),(5,.ref (0,80) 0)],hOf [((0,32),.obj (cCut 0 (zV 4) zBk .nils)),((0,80),.obj (cCut n0 k0 b0 (.sl 7 (rows cOrd os))))]⟩) ?_ ?_
    · refine wO_ [((0,32),some (0,32)),((0,80),some (0,80))] (by simp [go_sem]) ?_ ?_ <;> simp [go_sem,dropped,hLl,hL0,<-eo,hto,zBk]
    refine aR_ ?_
    iterate 7
     refine oC_ fun J hJ=>?_
     simp [go_sem,cutPutS_at n0 k0 b0 os (by omega),octsL,octsE,hck]
     refine hJ _ _ _ ?_
    refine oN_ ?_
    refine hK21 _ ?_
    refine aQ_ ?_
    iterate 9
     refine oC_ fun J hJ=>?_
     simp [go_sem]
     refine hJ _ _ _ ?_
    refine oN_ ?_
    refine aT_ rfl ?_
    refine aQ_ ?_
    iterate 3
     refine oC_ fun J hJ=>?_
     simp [go_sem]
     refine hJ _ _ _ ?_
    refine oN_ ?_
    refine aE_ ?_
    refine fQ_ [] ?_
    simp [go_sem,Try.f25,q1,q2,cCutS,zCut]
   ·
    have hb:getB t=true:=by rw [getB,hG,hck]; simp [hoc]
    have q1:getC t=⟨n0,k0,b0,os⟩:=by rw [getC,if_pos hb,hG]
    have q2:getE t=0:=by rw [getE,if_pos hb]
    refine aW_ (s':=⟨ofL [(0,.sl 1 (rows cU8 t)),(2,.ref (0,32) 0),(5,.ref (0,80) 0)],hOf [((0,32),.obj (cCut 0 (zV 4) zBk .nils)),((0,80),.obj (cCut n0 k0 b0 (.sl 7 (rows cOrd os))))]⟩) ?_ ?_
    · refine wO_ [((0,32),some (0,32)),((0,80),some (0,80))] (by simp [go_sem]) ?_ ?_ <;> simp [go_sem,dropped,hLl,hL0,<-eo,hto,zBk]
    refine aR_ ?_
    iterate 7
     refine oC_ fun J hJ=>?_
     simp [go_sem,cutPutS_at n0 k0 b0 os (by omega),octsL,octsE,hck,hoc]
     refine hJ _ _ _ ?_
    refine oN_ ?_
    refine hK21 _ ?_
    refine aQ_ ?_
    iterate 9
     refine oC_ fun J hJ=>?_
     simp [go_sem,bytes_eq hL.2 hL.2]
     refine hJ _ _ _ ?_
    refine oN_ ?_
    refine aF_ rfl ?_
    refine aK_ ?_
    refine hK20 _ ?_
    refine aQ_ ?_
    iterate 3
     refine oC_ fun J hJ=>?_
     simp [go_sem]
     refine hJ _ _ _ ?_
    refine oN_ ?_
    refine aE_ ?_
    refine fQ_ [] ?_
    simp [go_sem,Try.f25,q1,q2,cCutS,zCut]
   ·
    have hb:getB t=false:=by rw [getB,hG,hck]; simp [hoc]
    have q1:getC t=zCut:=by rw [getC,if_neg (by simp [hb])]
    have q2:getE t=16:=by rw [getE,if_neg (by simp [hb])]
    refine aW_ (s':=⟨ofL [(0,.sl 1 (rows cU8 t)),(2,.ref (0,32) 0),(5,.ref (0,80) 0)],hOf [((0,32),.obj (cCut 0 (zV 4) zBk .nils)),((0,80),.obj (cCut n0 k0 b0 (.sl 7 (rows cOrd os))))]⟩) ?_ ?_
    · refine wO_ [((0,32),some (0,32)),((0,80),some (0,80))] (by simp [go_sem]) ?_ ?_ <;> simp [go_sem,dropped,hLl,hL0,<-eo,hto,zBk]
    refine aR_ ?_
    iterate 7
     refine oC_ fun J hJ=>?_
     simp [go_sem,cutPutS_at n0 k0 b0 os (by omega),octsL,octsE,hck]
     refine hJ _ _ _ ?_
    refine oN_ ?_
    refine hK21 _ ?_
    refine aQ_ ?_
    iterate 9
     refine oC_ fun J hJ=>?_
     simp [go_sem,bytes_eq (octs_oct _) hL.2,hoc]
     refine hJ _ _ _ ?_
    refine oN_ ?_
    refine aT_ rfl ?_
    refine aQ_ ?_
    iterate 3
     refine oC_ fun J hJ=>?_
     simp [go_sem]
     refine hJ _ _ _ ?_
    refine oN_ ?_
    refine aE_ ?_
    refine fQ_ [] ?_
    simp [go_sem,Try.f25,q1,q2,cCutS,zCut]
end Go.Proofs.Ytfbooejaabdkoaa.AE
