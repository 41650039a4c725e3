/-
 ModelNets. Conditions: none; every contract names its own.
-/
import Derived.Test.YtjoaigccapegpaaOLw34m
import Derived.Test.YtjoaigccapegpaaOMn0
set_option linter.constructorNameAsVariable false
namespace Go.Proofs.Ytjoaigccapegpaa.AE
open Go Go.Proofs Go.RowKit
set_option linter.unusedVariables false
set_option linter.unusedSimpArgs false
set_option maxRecDepth 100000
set_option maxHeartbeats 4000000
theorem nodup_snoc {l:List Chg} {x:Chg} (h:(l.map fun c=>c.id).Nodup) (h2:∀ z ∈ l,z.id ≠ x.id):((l++[x]).map fun c=>c.id).Nodup:=by
 rw [List.map_append,List.nodup_append]
 refine ⟨h,by simp,fun a ha b hb=>?_⟩
 obtain ⟨z,hz,rfl⟩:=List.mem_map.1 ha
 simp only [List.map_cons,List.map_nil,List.mem_singleton] at hb
 subst hb
 exact h2 z hz
theorem pick_at (p:Int) {n:Nat} (h:0 < n) (hn:n<=100000):∃ k:Nat,k < n/\(IntKind.i64.wrap (p.tmod n + n)).tmod n=(k:Int):=by
 have h1:-(n:Int) < p.tmod n:=by
  have:=Int.tmod_lt_of_pos (-p) (b:=(n:Int)) (by omega)
  rw [Int.neg_tmod] at this
  omega
 have h2:p.tmod n < n:=Int.tmod_lt_of_pos p (by omega)
 have hw:IntKind.i64.wrap (p.tmod n + n)=p.tmod n + n:=wA_ (by omega)
 have h3:0<=(p.tmod n + n).tmod n:=Int.tmod_nonneg _ (by omega)
 have h4:(p.tmod n + n).tmod n < n:=Int.tmod_lt_of_pos _ (by omega)
 refine ⟨((p.tmod n + n).tmod n).toNat,by omega,?_⟩
 rw [hw]
 omega
theorem two_app (A:List Req) (a b:Req):rows cReq A++[List.take 9 (cReq a++(cReq b++List.drop 18 (cReq zReq++cReq zReq))),List.take 9 (List.drop 9 (cReq a++(cReq b++List.drop 18 (cReq zReq++cReq zReq))))]=rows cReq (A++[a,b]):=by
 have h:[List.take 9 (cReq a++(cReq b++List.drop 18 (cReq zReq++cReq zReq))),List.take 9 (List.drop 9 (cReq a++(cReq b++List.drop 18 (cReq zReq++cReq zReq))))]=rows cReq [a,b]:=rfl
 rw [h]
 simp [rows]
theorem aInt_rem (k:IntKind) (a b:Int):aInt .rem k a b=if b=0 then none else some (.int k (a.tmod b)):=rfl
def FI (r:List Req) (i:Id) (t k:Nat):Prop:=(∃ x,r[t]?=some x/\x.key.id=i)/\k<=t + 1/\∀ (j:Nat) (z:Req),j < k->j < t->r[j]?=some z->z.key.id ≠ i
theorem FI.hit {r:List Req} {i:Id} {t k:Nat} (h:FI r i t k) {z:Req} (hz:r[k]?=some z) (he:z.key.id=i) (hk:k < t):FI r i k (k + 1):=⟨⟨z,hz,he⟩,Nat.le_refl _,fun j y _ h2 hy=>h.2.2 j y h2 (by omega) hy⟩
theorem FI.miss {r:List Req} {i:Id} {t k:Nat} (h:FI r i t k) {z:Req} (hz:r[k]?=some z) (he:z.key.id ≠ i) (hk:k < t):FI r i t (k + 1):=⟨h.1,by omega,fun j y h1 h2 hy=>by
 rcases Nat.lt_or_ge j k with h3 | h3
 · exact h.2.2 j y h3 h2 hy
 ·
  obtain rfl:j=k:=by omega
  rw [hz] at hy
  cases hy
  exact he⟩
def netsA (M:List Chg) (ps:List Int) (y:Req) (pre _post:List Chg):St:=⟨ofL [(0,.sl 9 (rows cChg M)),(1,.sl 1 (rows cInt ps)),(5,.ref (0,80) 0),(7,.int .i64 pre.length)],hOf [((0,80),.obj (cReq y))]⟩
def netsB (M:List Chg) (ps:List Int) (y:Req) (i:Nat) (_P pre _post:List Chg):St:=⟨ofL [(0,.sl 9 (rows cChg M)),(1,.sl 1 (rows cInt ps)),(5,.ref (0,80) 0),(7,.int .i64 i),(8,.int .i64 pre.length)],hOf [((0,80),.obj (cReq y))]⟩
def netsC (M:List Chg) (ps:List Int) (y:Req) (a r:List Req):St:=⟨ofL [(0,.sl 9 (rows cChg M)),(1,.sl 1 (rows cInt ps)),(5,.ref (0,80) 0),(9,.sl 9 (rows cReq r)),(10,.own (0,999) a.length),(11,.int .i64 a.length)],hOf [((0,80),.obj (cReq y)),((0,999),.row 65 9 (rows cReq a) false)]⟩
def netsX (M:List Chg) (ps:List Int) (y:Req) (a r:List Req) (t:Nat):St:=⟨ofL [(0,.sl 9 (rows cChg M)),(1,.sl 1 (rows cInt ps)),(5,.ref (0,80) 0),(9,.sl 9 (rows cReq r)),(10,.own (0,999) a.length),(11,.int .i64 a.length),(12,.int .i64 t)],hOf [((0,80),.obj (cReq y)),((0,999),.row 65 9 (rows cReq a) false)]⟩
def netsD (M:List Chg) (ps:List Int) (y:Req) (a r:List Req) (t k:Nat):St:=⟨ofL [(0,.sl 9 (rows cChg M)),(1,.sl 1 (rows cInt ps)),(5,.ref (0,80) 0),(9,.sl 9 (rows cReq r)),(10,.own (0,999) a.length),(11,.int .i64 a.length),(12,.int .i64 t),(13,.int .i64 k)],hOf [((0,80),.obj (cReq y)),((0,999),.row 65 9 (rows cReq a) false)]⟩
def netsE (M:List Chg) (y:Req) (A pre _post:List Req):St:=⟨ofL [(0,.sl 9 (rows cChg M)),(5,.ref (0,80) 0),(10,.own (0,999) A.length),(14,.int .i64 pre.length)],hOf [((0,80),.obj (cReq y)),((0,999),.row 65 9 (rows cReq A) false)]⟩
structure modelNetsX where
 L:List Chg
 L':AV
 ps:List Int
 ps':AV
 y0:Req
 h_L:SlA 9 cChg L L'
 h_ps:SlA 1 cInt ps ps'
noncomputable def modelNetsS:HSpec:=mkH (ι:=modelNetsX) (fun ⟨L,L',ps,ps',y0,h_L,h_ps⟩=>([L',ps',.agg (cReq y0)],[])) fun ⟨L,L',ps,ps',y0,h_L,h_ps⟩=>⟨.bool true,[],[]⟩
theorem modelNetsS_atG (L:List Chg) (L':AV) (ps:List Int) (ps':AV) (y0:Req) (h_L:SlA 9 cChg L L') (h_ps:SlA 1 cInt ps ps'):modelNetsS [L',ps',.agg (cReq y0)] []=some (⟨.bool true,[],[]⟩):=
 mA_ (ι:=modelNetsX) (fun i j h=>by obtain ⟨L,L',ps,ps',y0,h_L,h_ps⟩:=i; obtain ⟨L2,L'2,ps2,ps'2,y02,h_L2,h_ps2⟩:=j; simp [and_assoc,qB_,qI_,qO_,qC_,qE_,qK_,qR_,qV_,qP_,qOc_] at h; obtain ⟨rfl,rfl,rfl⟩:=h; obtain rfl:=SlA.inj (fun x y h=>cChg_inj h) h_L h_L2; obtain rfl:=SlA.inj (fun x y h=>cInt_inj h) h_ps h_ps2; rfl) ⟨L,L',ps,ps',y0,h_L,h_ps⟩
theorem modelNetsS_at (L:List Chg) (ps:List Int) (y0:Req):modelNetsS [(.sl 9 (rows cChg L)),(.sl 1 (rows cInt ps)),.agg (cReq y0)] []=some (⟨.bool true,[],[]⟩):=modelNetsS_atG L _ ps _ y0 .sl .sl
theorem modelNets_ok:HSound Try.prog 6 modelNetsS:=by
  refine sE_ (fn:=Try.f6) rfl rfl (by kernel_rfl) fun args bx hr hS=>?_
  obtain ⟨⟨L,L',ps,ps',y0,h_L,h_ps⟩,rfl,rfl,rfl⟩:=mO_ hS
  clear hS
  refine ⟨_,(eV_ (g:=16) (by kernel_rfl) alive34_ok (eV_ (g:=17) (by kernel_rfl) few34_ok (eV_ (g:=21) (by kernel_rfl) expR_ok (eV_ (g:=26) (by kernel_rfl) mat_ok (eV_ (g:=28) (by kernel_rfl) otherR_ok (eN_ _)))))),by simp [Try.f6],by simp [go_sem],fun w Mx pin=>?_⟩
  simp only [hB_at,lab_nil,lab_cons,hOf_nil,hOf_cons]
  refine aW_ (s':=⟨ofL [(0,(.sl 9 (rows cChg L))),(1,(.sl 1 (rows cInt ps))),(2,.agg (cReq y0))],hOf []⟩) ?_ ?_
  · cases h_L <;> cases h_ps <;> exact wO_ [] (by simp [go_sem]) (by simp [go_sem]) (by simp [go_sem])
  clear h_L h_ps
  obtain ⟨M,hM⟩:∃ M,M=L.take 50:=⟨_,rfl⟩
  have hMl:M.length<=50:=by rw [hM]; simp; omega
  have eM:M.length<=100000:=by omega
  obtain ⟨W,hW⟩:∃ W,W=ordL ordReq (expL M):=⟨_,rfl⟩
  have hWl:W.length<=400:=by rw [hW,ordL_len]; have:=expL_len M; omega
  have he:=expRS_at M (by omega)
  rw [<-hW] at he
  have hfw:=few34S_atG [] .nils L _ .nil .sl
  rw [<-hM] at hfw
  have htW:List.take W.length W=W:=List.take_length
  obtain ⟨y,hy⟩:∃ y,y=y0:=⟨_,rfl⟩
  simp only [<-hy]
  refine aQ_ ?_
  iterate 2
    refine oC_ fun J hJ=>?_
    simp [go_sem]
    refine hJ _ _ _ ?_
  refine oN_ ?_
  refine aS_ fun K2 hK2=>?_
  refine aQ_ ?_
  iterate 2
    refine oC_ fun J hJ=>?_
    simp [go_sem,alive34S_at]
    refine hJ _ _ _ ?_
  refine oN_ ?_
  refine aF_ rfl ?_
  refine aK_ ?_
  refine hK2 _ ?_
  refine aQ_ ?_
  iterate 6
    refine oC_ fun J hJ=>?_
    simp [go_sem,↓hfw]
    refine hJ _ _ _ ?_
  refine oN_ ?_
  refine aS_ fun K7 hK7=>?_
  refine aQ_ ?_
  iterate 1
    refine oC_ fun J hJ=>?_
    simp [go_sem]
    refine hJ _ _ _ ?_
  refine oN_ ?_
  refine aB_ ?_
  refine aL_ (ι:={ q:List Chg × List Chg // q.1++q.2=M/\(q.1.map fun c=>c.id).Nodup }) (fun q=>netsA M ps y q.1.1 q.1.2) (fun q=>q.1.2.length) ⟨([],M),rfl,by simp⟩ ?_ ?_
  · refine wO_ [((0,80),some (0,80))] (by simp [go_sem]) ?_ ?_ <;> simp [go_sem]
  intro ⟨⟨pre,post⟩,hl,hgo⟩
  simp only at hl hgo
  have hpl:=lS_ hl eM
  simp only [netsA]
  refine aS_ fun K9 hK9=>?_
  refine aQ_ ?_
  iterate 4
    refine oC_ fun J hJ=>?_
    simp [go_sem]
    refine hJ _ _ _ ?_
  refine oN_ ?_
  refine aC_ (t:=_) rfl (fun c11=>?_) (fun c11=>?_)
  · simp [go_sem] at c11
    obtain ⟨x,post,rfl,hx⟩:=mL_ hl c11
    obtain ⟨i,hi⟩:∃ i,i=pre.length:=⟨_,rfl⟩
    obtain ⟨P,hP⟩:∃ P,P=pre:=⟨_,rfl⟩
    have hPl:P.length=i:=by rw [hP,hi]
    have eP:P.length<=100000:=by omega
    rw [<-hi] at hx
    have hwi:=wN_ (n:=i) (by omega)
    simp only [<-hi]
    refine aK_ ?_
    refine hK9 _ ?_
    refine aS_ fun K12 hK12=>?_
    refine aB_ ?_
    refine aQ_ ?_
    iterate 1
      refine oC_ fun J hJ=>?_
      simp [go_sem]
      refine hJ _ _ _ ?_
    refine oN_ ?_
    refine aB_ ?_
    refine aL_ (ι:={ q:List Chg × List Chg // q.1++q.2=P/\(∀ z ∈ q.1,z.id ≠ x.id) }) (fun q=>netsB M ps y i P q.1.1 q.1.2) (fun q=>q.1.2.length) ⟨([],P),rfl,by simp⟩ ?_ ?_
    · refine wO_ [((0,80),some (0,80))] (by simp [go_sem]) ?_ ?_ <;> simp [go_sem]
    intro ⟨⟨pre2,post2⟩,hl2,hgo2⟩
    simp only at hl2 hgo2
    have hpl2:=lS_ hl2 eP
    simp only [netsB]
    refine aS_ fun K14 hK14=>?_
    refine aQ_ ?_
    iterate 3
      refine oC_ fun J hJ=>?_
      simp [go_sem]
      refine hJ _ _ _ ?_
    refine oN_ ?_
    refine aC_ (t:=_) rfl (fun c16=>?_) (fun c16=>?_)
    · simp [go_sem] at c16
      obtain ⟨z,post2,rfl,hz⟩:=mL_ hl2 (by omega)
      have hk2:pre2.length < P.length:=(List.getElem?_eq_some_iff.1 hz).1
      have hz2:M[pre2.length]?=some z:=by rw [<-hl,List.getElem?_append_left (by rw [<-hP]; exact hk2),<-hP]; exact hz
      refine aK_ ?_
      refine hK14 _ ?_
      refine aS_ fun K17 hK17=>?_
      refine aB_ ?_
      refine aU_ ?_
      iterate 11
        refine oC_ fun J hJ=>?_
        simp [go_sem,hz2,hx]
        refine hJ _ _ _ ?_
      refine oN_ ?_
      refine ⟨rfl,?_⟩
      refine aC_ (t:=_) rfl (fun c19=>?_) (fun c19=>?_)
      · simp [go_sem] at c19
        refine aQ_ ?_
        iterate 1
          refine oC_ fun J hJ=>?_
          simp [go_sem]
          refine hJ _ _ _ ?_
        refine oN_ ?_
        refine aE_ ?_
        refine fQ_ [] ?_
        simp [go_sem,Try.f6]
      · simp [go_sem] at c19
        refine aK_ ?_
        refine hK17 _ ?_
        refine aR_ ?_
        iterate 3
          refine oC_ fun J hJ=>?_
          simp [go_sem]
          refine hJ _ _ _ ?_
        refine oN_ ?_
        refine ⟨⟨(pre2++[z],post2),by simp [<-hl2],by intro u hu; rcases List.mem_append.1 hu with hu | hu; exact hgo2 u hu; rw [List.mem_singleton.1 hu]; exact c19⟩,?_,by simp⟩
        refine wO_ [((0,80),some (0,80))] (by simp [go_sem]) ?_ ?_ <;> simp [go_sem,wN_ hpl2]
    · simp [go_sem] at c16
      obtain ⟨rfl,rfl⟩:=mN_ hl2 (by omega)
      rw [hP] at hgo2
      refine aX_ ?_
      simp only [go_sem]
      refine hK12 _ ?_
      refine aR_ ?_
      iterate 3
        refine oC_ fun J hJ=>?_
        simp [go_sem,hwi]
        refine hJ _ _ _ ?_
      refine oN_ ?_
      refine ⟨⟨(pre++[x],post),by simp [<-hl],by exact nodup_snoc hgo hgo2⟩,?_,by simp⟩
      refine wO_ [((0,80),some (0,80))] (by simp [go_sem]) ?_ ?_ <;> simp [go_sem,wN_ hpl,hi]
  · simp [go_sem] at c11
    obtain ⟨rfl,rfl⟩:=mN_ hl c11
    have hWn:=idF_W hgo
    rw [<-hW] at hWn
    refine aX_ ?_
    simp only [go_sem]
    refine hK7 _ ?_
    refine aQ_ ?_
    iterate 3
      refine oC_ fun J hJ=>?_
      simp [go_sem,↓he]
      refine hJ _ _ _ ?_
    refine oN_ ?_
    refine aQ_ ?_
    iterate 1
      refine oC_ fun J hJ=>?_
      simp [go_sem]
      refine hJ _ _ _ ?_
    refine oN_ ?_
    refine aS_ fun K23 hK23=>?_
    refine aQ_ ?_
    iterate 1
      refine oC_ fun J hJ=>?_
      simp [go_sem]
      refine hJ _ _ _ ?_
    refine oN_ ?_
    refine aB_ ?_
    refine aL_ (ι:={ q:List Req × List Req // Tk W q.1 q.2 }) (fun q=>netsC M ps y q.1.1 q.1.2) (fun q=>q.1.2.length) ⟨([],W),by rw [hW]; exact Tk.init _⟩ ?_ ?_
    · refine wO_ [((0,80),some (0,80)),((0,999),none)] (by simp [go_sem]) ?_ ?_ <;> simp [go_sem,htW]
    intro ⟨⟨a,r⟩,hT⟩
    try simp only at hT
    have hTl:=hT.len
    simp only [netsC]
    refine aS_ fun K25 hK25=>?_
    refine aQ_ ?_
    iterate 3
      refine oC_ fun J hJ=>?_
      simp [go_sem]
      refine hJ _ _ _ ?_
    refine oN_ ?_
    refine aC_ (t:=_) rfl (fun c27=>?_) (fun c27=>?_)
    · simp [go_sem] at c27
      have hr0:0 < r.length:=by omega
      have hrl:r.length<=400:=by omega
      have hwa:=wN_ (n:=a.length) (by omega)
      have hnz:¬ (r.length:Int)=0:=by omega
      have hrn:¬ r=[]:=by rintro rfl; simp at hr0
      refine aK_ ?_
      refine hK25 _ ?_
      refine aS_ fun K28 hK28=>?_
      refine aB_ ?_
      refine aQ_ ?_
      iterate 1
        refine oC_ fun J hJ=>?_
        simp [go_sem]
        refine hJ _ _ _ ?_
      refine oN_ ?_
      refine aS_ fun K30 hK30=>?_
      have jK30:∀ (t0:Nat) (s:St),t0 < r.length->Weak ⟨Try.prog,w,Mx,Try.f6.ntmps,pin,[],true⟩ (netsX M ps y a r t0) s->K30 s:=by
        intro t0 s ht0 hw
        obtain ⟨x0,hx0⟩:∃ x0,r[t0]?=some x0:=⟨_,List.getElem?_eq_getElem ht0⟩
        refine hK30 s (aW_ hw ?_)
        simp only [netsX]
        refine aS_ fun K33 hK33=>?_
        refine aQ_ ?_
        iterate 1
          refine oC_ fun J hJ=>?_
          simp [go_sem]
          refine hJ _ _ _ ?_
        refine oN_ ?_
        refine aB_ ?_
        refine aL_ (ι:={ q:Nat × Nat // FI r x0.key.id q.1 q.2 }) (fun q=>netsD M ps y a r q.1.1 q.1.2) (fun q=>q.1.1 + 1 - q.1.2) ⟨(t0,0),⟨⟨x0,hx0,rfl⟩,by omega,fun j z hj=>absurd hj (Nat.not_lt_zero _)⟩⟩ ?_ ?_
        · refine wO_ [((0,80),some (0,80)),((0,999),some (0,999))] (by simp [go_sem]) ?_ ?_ <;> simp [go_sem]
        intro ⟨⟨t,k⟩,hF⟩
        try simp only at hF
        obtain ⟨x,hxt,hxi⟩:=hF.1
        have htl:t < r.length:=(List.getElem?_eq_some_iff.1 hxt).1
        have hkt:=hF.2.1
        simp only [netsD]
        refine aS_ fun K35 hK35=>?_
        refine aQ_ ?_
        iterate 3
          refine oC_ fun J hJ=>?_
          simp [go_sem]
          refine hJ _ _ _ ?_
        refine oN_ ?_
        refine aC_ (t:=_) rfl (fun c37=>?_) (fun c37=>?_)
        · simp [go_sem] at c37
          have hkk:k < t:=by omega
          obtain ⟨z,hz⟩:∃ z,r[k]?=some z:=⟨_,List.getElem?_eq_getElem (by omega)⟩
          have hwk:=wN_ (n:=k) (by omega)
          refine aK_ ?_
          refine hK35 _ ?_
          refine aS_ fun K38 hK38=>?_
          refine aB_ ?_
          refine aU_ ?_
          iterate 13
            refine oC_ fun J hJ=>?_
            simp [go_sem,hz,hxt]
            refine hJ _ _ _ ?_
          refine oN_ ?_
          refine ⟨rfl,?_⟩
          refine aC_ (t:=_) rfl (fun c40=>?_) (fun c40=>?_)
          · simp [go_sem] at c40
            refine aR_ ?_
            iterate 2
              refine oC_ fun J hJ=>?_
              simp [go_sem]
              refine hJ _ _ _ ?_
            refine oN_ ?_
            refine hK38 _ ?_
            refine aR_ ?_
            iterate 3
              refine oC_ fun J hJ=>?_
              simp [go_sem,hwk]
              refine hJ _ _ _ ?_
            refine oN_ ?_
            first
              | (refine ⟨⟨(k,k + 1),hF.hit hz (c40.trans hxi) hkk⟩,?_,by simp only; omega⟩
                 refine wO_ [((0,80),some (0,80)),((0,999),some (0,999))] (by simp [go_sem]) ?_ ?_ <;> (simp [go_sem,hwk]; done))
              | (refine ⟨⟨(t,k + 1),hF.miss hz (fun e=>c40 (e.trans hxi.symm)) hkk⟩,?_,by simp only; omega⟩
                 refine wO_ [((0,80),some (0,80)),((0,999),some (0,999))] (by simp [go_sem]) ?_ ?_ <;> (simp [go_sem,hwk]; done))
          · simp [go_sem] at c40
            refine aK_ ?_
            refine hK38 _ ?_
            refine aR_ ?_
            iterate 3
              refine oC_ fun J hJ=>?_
              simp [go_sem,hwk]
              refine hJ _ _ _ ?_
            refine oN_ ?_
            first
              | (refine ⟨⟨(k,k + 1),hF.hit hz (c40.trans hxi) hkk⟩,?_,by simp only; omega⟩
                 refine wO_ [((0,80),some (0,80)),((0,999),some (0,999))] (by simp [go_sem]) ?_ ?_ <;> (simp [go_sem,hwk]; done))
              | (refine ⟨⟨(t,k + 1),hF.miss hz (fun e=>c40 (e.trans hxi.symm)) hkk⟩,?_,by simp only; omega⟩
                 refine wO_ [((0,80),some (0,80)),((0,999),some (0,999))] (by simp [go_sem]) ?_ ?_ <;> (simp [go_sem,hwk]; done))
        · simp [go_sem] at c37
          have hfi:∀ (j:Nat) (z:Req),j < t->r[j]?=some z->z.key.id ≠ x.key.id:=fun j z hj hz=>by rw [hxi]; exact hF.2.2 j z (by omega) hj hz
          have hta:List.take a.length a=a:=List.take_length
          have hwt:=wN_ (n:=t) (by omega)
          have htt:((t:Int) + 1).toNat=t + 1:=by omega
          have h0t:(0:Int)<=(t:Int) + 1:=by omega
          have htl1:t + 1<=r.length:=by omega
          have htl2:t<=r.length:=by omega
          have hmin:min t r.length=t:=Nat.min_eq_left htl2
          have htr:List.take (t + (r.length - (t + 1))) (List.take t r++List.drop (t + 1) r)=List.take t r++List.drop (t + 1) r:=List.take_of_length_le (by simp; omega)
          refine aX_ ?_
          simp only [go_sem]
          refine hK33 _ ?_
          refine aQ_ ?_
          iterate 8
            refine oC_ fun J hJ=>?_
            simp [go_sem,hxt,hta,show (a.length + 1) * 72<=140737488355328 by omega,show a.length + 1<=maxLen by (simp only [maxLen]; omega)]
            refine hJ _ _ _ ?_
          refine oN_ ?_
          refine aD_ ?_
          iterate 11
            refine oC_ fun J hJ=>?_
            simp [go_sem,hwt,htt,h0t,htl1,htl2,hmin,show (t) * 72<=140737488355328 by omega,show t<=maxLen by (simp only [maxLen]; omega),show (t + (r.length - (t + 1))) * 72<=140737488355328 by omega,show t + (r.length - (t + 1))<=maxLen by (simp only [maxLen]; omega)]
            refine hJ _ _ _ ?_
          refine oN_ ?_
          refine ⟨rfl,?_⟩
          refine hK28 _ ?_
          refine aR_ ?_
          iterate 3
            refine oC_ fun J hJ=>?_
            simp [go_sem,hwa]
            refine hJ _ _ _ ?_
          refine oN_ ?_
          refine ⟨⟨(a++[x],r.take t++r.drop (t + 1)),hT.next hxt hfi⟩,?_,by simp; omega⟩
          refine wO_ [((0,80),some (0,80)),((0,999),some (0,1504))] (by simp [go_sem]) ?_ ?_ <;> simp [go_sem,hwa,htr,List.take_take,Nat.min_self]
      refine aQ_ ?_
      iterate 4
        refine oC_ fun J hJ=>?_
        simp [go_sem]
        refine hJ _ _ _ ?_
      refine oN_ ?_
      refine aC_ (t:=_) rfl (fun c32=>?_) (fun c32=>?_)
      · simp [go_sem] at c32
        obtain ⟨p,hp⟩:∃ p,ps[a.length]?=some p:=⟨_,List.getElem?_eq_getElem (by omega)⟩
        obtain ⟨t1,ht1,htm⟩:=pick_at p hr0 (by omega)
        refine aR_ ?_
        iterate 14
          refine oC_ fun J hJ=>?_
          simp [go_sem,↓hp,hp,aInt_rem,hnz,hrn,htm]
          refine hJ _ _ _ ?_
        refine oN_ ?_
        first
          | (refine jK30 t1 _ ht1 (wO_ [((0,80),some (0,80)),((0,999),some (0,999))] (by simp [go_sem]) ?_ ?_) <;> (simp [go_sem]; done))
          | (refine jK30 0 _ hr0 (wO_ [((0,80),some (0,80)),((0,999),some (0,999))] (by simp [go_sem]) ?_ ?_) <;> (simp [go_sem]; done))
      · simp [go_sem] at c32
        refine aK_ ?_
        first
          | (refine jK30 t1 _ ht1 (wO_ [((0,80),some (0,80)),((0,999),some (0,999))] (by simp [go_sem]) ?_ ?_) <;> (simp [go_sem]; done))
          | (refine jK30 0 _ hr0 (wO_ [((0,80),some (0,80)),((0,999),some (0,999))] (by simp [go_sem]) ?_ ?_) <;> (simp [go_sem]; done))
    · simp [go_sem] at c27
      obtain rfl:r=[]:=by first | exact c27 | exact List.eq_nil_of_length_eq_zero (by omega)
      obtain ⟨hoA,hnA⟩:=hT.last hWn
      obtain ⟨A,hA⟩:∃ A,A=a:=⟨_,rfl⟩
      rw [<-hA] at hoA hnA hTl
      simp only [<-hA]
      have eA:A.length<=100000:=by simp only [List.length_nil] at hTl; omega
      have hAl:A.length<=400:=by simp only [List.length_nil] at hTl; omega
      have hm:=matS_at A M ⟨by omega,by omega⟩
      rw [net_self hnA,hoA,hW] at hm
      simp only [decide_true] at hm
      have htA:List.take A.length A=A:=List.take_length
      refine aX_ ?_
      simp only [go_sem]
      refine hK23 _ ?_
      refine aQ_ ?_
      iterate 3
        refine oC_ fun J hJ=>?_
        simp [go_sem]
        refine hJ _ _ _ ?_
      refine oN_ ?_
      refine aS_ fun K43 hK43=>?_
      refine aS_ fun K44 hK44=>?_
      obtain ⟨y1,hy1⟩:∃ y1,y1=({ key:={ id:=y.key.id,ord:=y.key.ord,undo:=false },what:=y.what }:Req):=⟨_,rfl⟩
      have hyu:y1.key.undo=false:=by rw [hy1]
      simp only [<-hy1]
      refine aR_ ?_
      iterate 1
        refine oC_ fun J hJ=>?_
        simp [go_sem]
        refine hJ _ _ _ ?_
      refine oN_ ?_
      refine hK44 _ ?_
      refine aB_ ?_
      refine aL_ (ι:={ q:List Req × List Req // q.1++q.2=A/\(∀ z ∈ q.1,z.key ≠ y1.key) }) (fun q=>netsE M y1 A q.1.1 q.1.2) (fun q=>q.1.2.length) ⟨([],A),rfl,by simp⟩ ?_ ?_
      · refine wO_ [((0,80),some (0,80)),((0,999),some (0,999))] (by simp [go_sem]) ?_ ?_ <;> simp [go_sem]
      intro ⟨⟨pre,post⟩,hl,hgo⟩
      simp only at hl hgo
      have hpl:=lS_ hl eA
      simp only [netsE]
      refine aS_ fun K45 hK45=>?_
      refine aQ_ ?_
      iterate 4
        refine oC_ fun J hJ=>?_
        simp [go_sem]
        refine hJ _ _ _ ?_
      refine oN_ ?_
      refine aC_ (t:=_) rfl (fun c47=>?_) (fun c47=>?_)
      · simp [go_sem] at c47
        obtain ⟨x,post,rfl,hx⟩:=mL_ hl c47
        refine aK_ ?_
        refine hK45 _ ?_
        refine aS_ fun K48 hK48=>?_
        refine aB_ ?_
        refine aU_ ?_
        iterate 8
          refine oC_ fun J hJ=>?_
          simp [go_sem,↓hx,hx,c47]
          refine hJ _ _ _ ?_
        refine oN_ ?_
        refine ⟨rfl,?_⟩
        refine aC_ (t:=_) rfl (fun c50=>?_) (fun c50=>?_)
        · simp [go_sem] at c50
          refine aQ_ ?_
          iterate 4
            refine oC_ fun J hJ=>?_
            simp [go_sem,↓hm]
            refine hJ _ _ _ ?_
          refine oN_ ?_
          refine aE_ ?_
          refine fQ_ [] ?_
          simp [go_sem,Try.f6]
        · simp [go_sem] at c50
          refine aK_ ?_
          refine hK48 _ ?_
          refine aR_ ?_
          iterate 3
            refine oC_ fun J hJ=>?_
            simp [go_sem]
            refine hJ _ _ _ ?_
          refine oN_ ?_
          refine ⟨⟨(pre++[x],post),by simp [<-hl],by intro u hu; rcases List.mem_append.1 hu with hu | hu; exact hgo u hu; rw [List.mem_singleton.1 hu]; exact c50⟩,?_,by simp⟩
          refine wO_ [((0,80),some (0,80)),((0,999),some (0,999))] (by simp [go_sem]) ?_ ?_ <;> simp [go_sem,wN_ hpl]
      · simp [go_sem] at c47
        obtain ⟨rfl,rfl⟩:=mN_ hl c47
        have hmo:=net_more hnA (q:=y1) hyu hgo y1.what
        have hm2:=matS_at (A++[y1,⟨other y1.key,y1.what⟩]) M ⟨by simp; omega,by omega⟩
        rw [hmo,hoA,hW] at hm2
        simp only [decide_true] at hm2
        have ht2:List.take (A.length + 2) (A++[y1,⟨other y1.key,y1.what⟩])=A++[y1,⟨other y1.key,y1.what⟩]:=List.take_of_length_le (by simp)
        refine aX_ ?_
        simp only [go_sem]
        refine hK43 _ ?_
        refine aU_ ?_
        iterate 8
          refine oC_ fun J hJ=>?_
          simp [go_sem,otherRS_at]
          refine hJ _ _ _ ?_
        refine oN_ ?_
        refine ⟨rfl,?_⟩
        refine aQ_ ?_
        iterate 13
          refine oC_ fun J hJ=>?_
          simp [go_sem,↓hm,↓hm2,htA,two_app,ht2,show (A.length + 2) * 72<=140737488355328 by omega,show A.length + 2<=maxLen by (simp only [maxLen]; omega)]
          refine hJ _ _ _ ?_
        refine oN_ ?_
        refine aE_ ?_
        refine fQ_ [] ?_
        simp [go_sem,Try.f6]
theorem ModelNets_walk (w:World) (a0:Option Addr) (c0:Nat) (L0:List (List Int)) (h0:L0.length<=c0) (m0:c0<=maxLen) (s0:SlK w.heap.size 9 w a0 L0) (a1:Option Addr) (c1:Nat) (L1:List (List Int)) (h1:L1.length<=c1) (m1:c1<=maxLen) (s1:SlK w.heap.size 1 w a1 L1) (v2:Value) (x2:Req) (r2:Rep w (fun _=>False) noLay noH (.agg (cReq x2)) v2) :
  Calls Try.prog 6 #[.slice a0 L0.length c0,.slice a1 L1.length c1,v2] w fun e w'=>e=.returned (.bool true)/\Below w.heap.size w w':=by
 obtain ⟨os0,e0,r0⟩:=slk_rows ex_Chg s0 h0 m0
 obtain ⟨os1,e1,r1⟩:=slk_rows ex_Int s1 h1 m1
 refine true_walk modelNets_ok (modelNetsS_at os0 os1 x2) w rfl fun i v hi=>?_
 match i,hi with
 | 0,hi=>cases hi; exact r0
 | 1,hi=>cases hi; exact r1
 | 2,hi=>cases hi; exact r2
end Go.Proofs.Ytjoaigccapegpaa.AE
