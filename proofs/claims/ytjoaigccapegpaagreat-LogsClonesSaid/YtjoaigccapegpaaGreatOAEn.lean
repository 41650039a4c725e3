/-
 A plain machine for the code of functions, and its soundness: part AEn. Conditions: none; every lemma names its own.
-/
import Derived.Test.YtjoaigccapegpaaGreatPc
set_option linter.constructorNameAsVariable false
namespace Go.Proofs.YtjoaigccapegpaaGreat.AE
open Go Go.RowKit
set_option linter.unusedVariables false
def mf0:AV->Bool
 | .u | .int _ _ | .bool _ | .str _ | .nils | .own _ _ | .ref _ _ | .pt _ _ _ | .nilp | .nili | .sl _ []=>true
 | _=>false
def mf:AV->Bool
 | .agg cs=>cs.all mf0
 | v=>mf0 v
def mfB:Box->Bool
 | .obj cs=>cs.all mf0
 | .row _ _ L _=>L.all fun xs=>xs.all mf0
 | .dead=>true
theorem Rep.mf0 {w:World} {M M':Nat->Prop} {μ:Lay} {H:Heap} {v:AV} {x:Value} (h:Rep w M μ H v x) (hv:AE.mf0 v=true):Rep w M' μ H v x:=by
 cases h with
 | u=>exact .u _ _
 | int=>exact .int _ _ _
 | bool=>exact .bool _ _
 | str=>exact .str _ _
 | nils=>exact .nils _
 | own _ b n e sz L z hH hn=>exact .own _ _ _ _ _ _ _ hH hn
 | ownd _ b n v hH h1=>exact .ownd _ _ _ _ hH h1
 | ref _ b o cs g c hH hμ=>exact .ref _ _ _ _ _ c hH hμ
 | pt _ b k n cs g c off m hH hμ hn hm=>exact .pt _ _ _ _ _ _ c _ _ hH hμ hn hm
 | nilp=>exact .nilp _
 | nili=>exact .nili _
 | sl _ k L a c f hc hm hk hv' hr=>
  cases L with
  | nil=>exact @Rep.sl w M' μ H k [] a c f hc hm hk (fun i j hi _=>by simp at hi) (fun i j cs x hi _=>by simp at hi)
  | cons=>simp [AE.mf0] at hv
 | _=>simp [AE.mf0] at hv
theorem Rep.mfree {w:World} {M M':Nat->Prop} {μ:Lay} {H:Heap} {v:AV} {x:Value} (h:Rep w M μ H v x) (hv:mf v=true):Rep w M' μ H v x:=by
 by_cases hg:∃ cs,v=.agg cs
 ·
  obtain ⟨cs,rfl⟩:=hg
  cases h with
  | agg _ _ vs f hs hc hr=>exact .agg _ _ _ f hs hc fun i c hi=>(hr i c hi).mf0 (List.all_eq_true.1 hv c (List.mem_of_getElem? hi))
 ·
  refine h.mf0 ?_
  cases v with
  | agg cs=>exact absurd ⟨cs,rfl⟩ hg
  | _=>exact hv
def Ctx.at (Γ:Ctx) (Mx:Nat->Prop):Ctx:={ Γ with Mx:=Mx }
def Ctx.old (Γ:Ctx):Ctx:=Γ.at fun g=>g < Γ.w0.heap.size/\¬ Γ.io g
section
variable {Γ:Ctx} {env:Env} {Q:X->St->Prop} {s:St} {μ:Lay} {a:Act} {w:World}
theorem Rel.shift {Mx:Nat->Prop} (h:Rel Γ s μ a w) (hx:∀ g,Mx g->g < Γ.w0.heap.size/\¬ Γ.io g) (ht:∀ i,mf (s.t i)=true) (hH:∀ b x,s.H b=some x->mfB x=true):Rel (Γ.at Mx) s μ a w:=by
 refine ⟨h.hd,h.hn,hx,fun i=>(h.ht i).mfree (ht i),fun b x hb=>?_,h.hi,h.hf,h.hw,h.hp⟩
 have hm:=hH b x hb
 rcases h.hb b x hb with q | ⟨g,c,cur,e,q1,q2,q3⟩ | q
 · exact .inl q
 ·
  refine .inr (.inl ⟨g,c,cur,e,q1,q2,?_⟩)
  cases x with
  | obj cs=>
   refine ⟨q3.1,fun i x hi=>?_⟩
   obtain ⟨v,v1,v2,v3⟩:=q3.2 i x hi
   exact ⟨v,v1,v2,v3.mf0 (List.all_eq_true.1 hm x (List.mem_of_getElem? hi))⟩
  | row e' sz L z=>
   obtain ⟨p1,p2,p3,p4,p5,p6,p7⟩:=q3
   refine ⟨p1,p2,p3,p4,p5,p6,fun i j xs y hi hj=>?_⟩
   obtain ⟨v,v1,v2,v3⟩:=p7 i j xs y hi hj
   exact ⟨v,v1,v2,v3.mf0 (List.all_eq_true.1 (List.all_eq_true.1 hm xs (List.mem_of_getElem? hi)) y (List.mem_of_getElem? hj))⟩
  | dead=>exact q3
 · exact .inr (.inr q)
def Pt12 (Γ:Ctx) (s2 s':St):Prop:=(∀ g,Γ.Mx g->g < Γ.w0.heap.size/\¬ Γ.io g)->∀ μ a w,Rel Γ.old s2 μ a w->∃ μ',Rel Γ s' μ' a w
theorem awp_fresh {c:Code} (ht:∀ i,mf (s.t i)=true) (hH:∀ b x,s.H b=some x->mfB x=true) (h:awp Γ.old env c (fun x s2=>(∀ v,x ≠ .pan v)/\∃ s',Pt12 Γ s2 s'/\Q x s') s):awp Γ env c Q s:=by
 intro henv hok μ a w hR
 refine Code.wp_mono ?_ (h henv hok μ a w (hR.shift (fun g hg=>hg) ht hH))
 intro e a' w' he
 cases e with
 | normal=>obtain ⟨s2,μ2,h1,_,s',h2,h3⟩:=he; obtain ⟨μ',h4⟩:=h2 hR.hx μ2 a' w' h1; exact ⟨s',μ',h4,h3⟩
 | exit i=>obtain ⟨s2,μ2,h1,_,s',h2,h3⟩:=he; obtain ⟨μ',h4⟩:=h2 hR.hx μ2 a' w' h1; exact ⟨s',μ',h4,h3⟩
 | ret=>obtain ⟨s2,μ2,h1,_,s',h2,h3⟩:=he; obtain ⟨μ',h4⟩:=h2 hR.hx μ2 a' w' h1; exact ⟨s',μ',h4,h3⟩
 | panic ch=>obtain ⟨s2,μ2,v,x,_,_,_,hn,_⟩:=he; exact absurd rfl (hn v)
 | goto l=>exact he
 | outgrown=>exact he
theorem pt12_mf {s2:St} (ht:∀ i,mf (s2.t i)=true) (hH:∀ b x,s2.H b=some x->mfB x=true):Pt12 Γ s2 s2:=fun hx μ a w h=>
 ⟨μ,(show Rel (Γ.old.at Γ.Mx) s2 μ a w from Rel.shift (Γ:=Γ.old) h hx ht hH)⟩
theorem pt12_weak {s2 s3 s':St} (hw:Weak Γ.old s3 s2) (h:Pt12 Γ s3 s'):Pt12 Γ s2 s':=fun hx μ a w hR=>by
 obtain ⟨μ',hR'⟩:=hw μ a w hR
 exact h hx μ' a w hR'
def intB (v:AV):Bool:=match v with | .int _ _=>true | _=>false
theorem Rep.intB {w w':World} {M M':Nat->Prop} {μ μ':Lay} {H H':Heap} {v:AV} {x:Value} (h:Rep w M μ H v x) (hv:AE.intB v=true):Rep w' M' μ' H' v x:=by
 cases h <;> first | exact .int _ _ _ | simp [AE.intB] at hv
theorem pt12_of {s2:St} (hpin:∀ i,1<=i->Γ.pin i=none) {i4:Nat} {b4 bn:Bid} {pre:List AV} {k:Nat} {x:List AV} {L R:List (List AV)} {e:TypeId} {sz:Nat} (hk:0 < k) (hb4:b4.1=0) (hbn:bn.1=0) (hne:bn ≠ b4)
  (ht:s2.t i4=.ref b4 0) (h4:s2.H b4=some (.obj (pre++[.sl k (x :: L)]))) (h1:s2.H (1,0)=some (.row e sz R false)) (hpre:pre.all intB=true) (hRi:(R.all fun xs=>xs.all intB)=true) :
  Pt12 Γ s2 ⟨ofL [(i4,.ref b4 0)],hOf [(b4,.obj (pre++[.pt bn k (L.length + 1)])),(bn,.obj []),((1,0),.row e sz R false)]⟩:=by
 intro hx μ a w hR
 obtain ⟨g4,c4,hμ4⟩:∃ g c,μ b4=some (g,c):=by
  have:=hR.ht i4
  rw [ht] at this
  generalize a.tmps.getD i4 undef=v at this
  cases this with
  | ref _ _ _ cs g c hH hμ=>exact ⟨g,c,hμ⟩
 rcases hR.hb b4 _ h4 with q | ⟨g,c,cur4,e4,q1,q2,q3⟩ | ⟨_,_,_,_,q,_⟩
 · cases q
 rotate_left
 · cases q
 rw [hμ4] at q1
 cases q1
 obtain ⟨q3,q4⟩:=q3
 obtain ⟨v,v1,v2,v3⟩:=q4 pre.length (.sl k (x :: L)) (by simp)
 obtain ⟨ad,n,m,rfl,hn,hcm,hcell⟩:∃ ad n m,v=.slice ad n m/\n=L.length + 1/\(n<=m/\m<=maxLen)/\∀ i j,i < L.length + 1->j < k->∃ y,CellAt w (forb Γ.old.Mx μ s2.H) ad (i * k + j) y:=by
  cases v3 with
  | sl _ _ _ ad m f hc hm hk' hv hr=>exact ⟨ad,_,m,rfl,rfl,⟨hc,hm⟩,fun i j hi hj=>⟨_,hv i j (by simpa using hi) hj⟩⟩
 obtain ⟨_,g,off,rfl,hfg,hc0,_⟩:=hcell 0 0 (by omega) hk
 obtain ⟨cur,e0,z0,hg⟩:∃ cur e z,w.heap[g]?=some (.cells cur e z):=by
  unfold World.cell? at hc0
  split at hc0
  · rename_i c e z hq; exact ⟨_,_,_,hq⟩
  · cases hc0
 have hnio:¬ Γ.io g:=by
  rintro ⟨i,c,hp⟩
  by_cases hi:1<=i
  · rw [hpin i hi] at hp; cases hp
  ·
   obtain rfl:i=0:=by omega
   refine hfg (.inr ⟨(1,0),_,c,h1,rfl,?_⟩)
   rw [hR.hp 0 _ h1 rfl]
   exact hp
 have hge:Γ.w0.heap.size<=g:=by
  apply Nat.le_of_not_lt
  intro hlt
  exact hfg (.inl ⟨hlt,hnio⟩)
 obtain rfl:z0=(0,0):=hR.hw.nf g (fun hlt=>by have:g < Γ.w0.heap.size:=hlt; omega) _ _ _ hg
 have hsz:off + (L.length + 1) * k<=cur.size:=by
  obtain ⟨_,g',off',he,_,hcl,_⟩:=hcell L.length (k - 1) (by omega) (by omega)
  simp only [Option.some.injEq,Addr.mk.injEq,and_true] at he
  obtain ⟨rfl,rfl⟩:=he
  unfold World.cell? at hcl
  rw [hg] at hcl
  simp only [Option.isSome_none,Bool.false_eq_true,if_false] at hcl
  have:=(Array.getElem?_eq_some_iff.1 hcl).1
  rw [Nat.add_mul,Nat.one_mul]
  omega
 have hg4:g ≠ g4:=by rintro rfl; exact hfg (.inr ⟨b4,_,c4,h4,rfl,hμ4⟩)
 have hbn1:bn ≠ (1,0):=by rintro rfl; cases hbn
 have hb41:b4 ≠ (1,0):=by rintro rfl; cases hb4
 obtain ⟨H',hH'⟩:∃ H',H'=hOf [(b4,.obj (pre++[.pt bn k (L.length + 1)])),(bn,.obj []),((1,0),.row e sz R false)]:=⟨_,rfl⟩
 have e4':H' b4=some (.obj (pre++[.pt bn k (L.length + 1)])):=by rw [hH']; simp [hOf,hput]
 have en':H' bn=some (.obj []):=by rw [hH']; simp [hOf,hput,hne]
 have e1':H' (1,0)=some (.row e sz R false):=by rw [hH']; simp [hOf,hput,hbn1.symm,hb41.symm]
 have other:∀ b x,H' b=some x->b=b4\/b=bn\/b=(1,0):=by
  intro b x hb
  rw [hH'] at hb
  simp only [hOf,hput] at hb
  split at hb
  · exact .inl (by assumption)
  ·
   split at hb
   · exact .inr (.inl (by assumption))
   ·
    split at hb
    · exact .inr (.inr (by assumption))
    · cases hb
 rw [<-hH']
 obtain ⟨μ',hμ'⟩:∃ μ',μ'=lput μ bn (some (g,cur.size)):=⟨_,rfl⟩
 have m4:μ' b4=some (g4,c4):=by rw [hμ']; simp [lput,hne.symm,hμ4]
 have mn:μ' bn=some (g,cur.size):=by rw [hμ']; simp [lput]
 have m1:μ' (1,0)=μ (1,0):=by rw [hμ']; simp [lput,hbn1.symm]
 refine ⟨μ',hR.hd,hR.hn,hx,fun i=>?_,fun b x hb=>?_,fun b b' x x' k1 c c' hb hb' hh hl p1 p2=>?_,fun b x k1 c hb hm hl=>?_,hR.hw,fun i x hi hl=>?_⟩
 ·
  by_cases hi:i=i4
  ·
   subst hi
   have:=hR.ht i
   rw [ht] at this
   show Rep w _ μ' H' (ofL [(i,.ref b4 0)] i) _
   generalize a.tmps.getD i undef=v at this
   simp only [ofL,fput,if_true]
   cases this with
   | ref _ _ _ cs g c hH hμ=>exact .ref _ _ _ _ _ c e4' (by rw [m4,<-hμ4,hμ])
  ·
   show Rep w _ μ' H' (ofL [(i4,.ref b4 0)] i) _
   simp only [ofL,fput,hi,if_false]
   exact .u _ _
 ·
  replace hb:H' b=some x:=hb
  rcases other b x hb with rfl | rfl | rfl
  ·
   rw [e4'] at hb; cases hb
   refine .inr (.inl ⟨g4,c4,cur4,e4,m4,q2,⟨q3.1,by simpa using q3.2⟩,fun i y hi=>?_⟩)
   by_cases hip:i < pre.length
   ·
    rw [List.getElem?_append_left hip] at hi
    obtain ⟨v,v1,v2,v3⟩:=q4 i y (by rw [List.getElem?_append_left hip]; exact hi)
    exact ⟨v,v1,v2,v3.intB (List.all_eq_true.1 hpre y (List.mem_of_getElem? hi))⟩
   ·
    rw [List.getElem?_append_right (by omega)] at hi
    have hi0:i=pre.length:=by have:=(List.getElem?_eq_some_iff.1 hi).1; simp at this; omega
    subst hi0
    simp only [Nat.sub_self,List.getElem?_cons_zero,Option.some.injEq] at hi
    subst hi
    refine ⟨_,v1,v2,?_⟩
    subst hn
    exact .pt _ _ _ _ _ _ _ _ _ en' mn hsz hcm
  ·
   rw [en'] at hb; cases hb
   exact .inr (.inl ⟨g,cur.size,cur,e0,mn,hg,⟨Nat.le_refl _,Nat.zero_le _⟩,fun i y hi=>by simp at hi⟩)
  ·
   rw [e1'] at hb; cases hb
   rcases hR.hb (1,0) _ h1 with q | ⟨g1,c1,cur1,e1,r1,r2,r3⟩ | ⟨r1,r2⟩
   · cases q
   ·
    obtain ⟨p1,p2,p3,p4,p5,p6,p7⟩:=r3
    refine .inr (.inl ⟨g1,c1,cur1,e1,by rw [m1]; exact r1,r2,p1,p2,p3,p4,p5,p6,fun i j xs y hi hj=>?_⟩)
    obtain ⟨v,v1,v2,v3⟩:=p7 i j xs y hi hj
    exact ⟨v,v1,v2,v3.intB (List.all_eq_true.1 (List.all_eq_true.1 hRi xs (List.mem_of_getElem? hi)) y (List.mem_of_getElem? hj))⟩
   · exact .inr (.inr ⟨by rw [m1]; exact r1,r2⟩)
 ·
  have same:∀ c,μ (1,0)=some (g,c)->False:=fun c hm=>hfg (.inr ⟨(1,0),_,c,h1,rfl,hm⟩)
  rcases other b x hb with rfl | rfl | rfl <;> rcases other b' x' hb' with rfl | rfl | rfl
  · rfl
  · rw [m4] at p1; rw [mn] at p2; cases p1; cases p2; exact absurd rfl hg4
  ·
   rw [m4] at p1; rw [m1] at p2
   exact hR.hi _ _ _ _ k1 c c' h4 h1 rfl rfl (by rw [hμ4]; exact p1) p2
  · rw [m4] at p2; rw [mn] at p1; cases p1; cases p2; exact absurd rfl hg4
  · rfl
  · rw [mn] at p1; cases p1; rw [m1] at p2; exact (same _ p2).elim
  ·
   rw [m4] at p2; rw [m1] at p1
   exact hR.hi _ _ _ _ k1 c c' h1 h4 rfl rfl p1 (by rw [hμ4]; exact p2)
  · rw [mn] at p2; cases p2; rw [m1] at p1; exact (same _ p1).elim
  · rfl
 ·
  rcases other b x hb with rfl | rfl | rfl
  · rw [m4] at hm; cases hm; exact hR.hf _ _ _ _ h4 hμ4 rfl
  · rw [mn] at hm; cases hm; exact .inl hge
  · rw [m1] at hm; exact hR.hf _ _ _ _ h1 hm rfl
 ·
  rcases other _ x hi with h | h | h
  · rw [<-h] at hb4; cases hb4
  · rw [<-h] at hbn; cases hbn
  ·
   cases h
   rw [m1]
   exact hR.hp 0 _ h1 rfl
end
theorem sound_ofHp {P:Program} {f:FuncId} {fn:Func} {c:Code} {S:HSpec} {env:Env} (hf:P.funcs[f]?=some fn) (hb:fn.body=some c) (hok:codeOK P fn.ntmps c=true) (henv:EnvOK P env)
  (h:∀ args bx hr,S args bx=some hr->args.length<=fn.ntmps/\goOns bx hr.up/\∀ (w:World) (Mx:Nat->Prop) (pin:Nat->Option (Nat × Nat)),(∀ i,bx.length<=i->pin i=none)->awp ⟨P,w,Mx,fn.ntmps,pin,[],true⟩ env c (fW_ (TI.of P) fn.results.toList hr) ⟨argsF args,hB bx⟩):HSound P f S:=by
 intro args bx hr hS
 obtain ⟨hlen,hgo,hbody⟩:=h args bx hr hS
 refine ⟨hgo,fun w Mx pin vals μ hA hpin=>?_⟩
 have hbody:=hbody w Mx pin hpin
 refine callsIn_wide.1 (callsIn_of_wp_marks (F:=Fence.wide) (n:=0) hf hb trivial (wpIn_wide.2 ?_))
 have hsz:=hA.sz
 have hR:Rel ⟨P,w,Mx,fn.ntmps,pin,[],true⟩ ⟨argsF args,hB bx⟩ μ { tmps:=vals++Array.replicate (fn.ntmps - vals.size) undef,defers:=[] } w:=by
  refine ⟨Marks.nil ⟨P,w,Mx,fn.ntmps,pin,[],true⟩ _,by simp; omega,hA.mem.hx,fun i=>?_,hA.mem.hb,hA.mem.hi,hA.mem.hf,hA.mem.hw,hA.mem.hp⟩
  simp only [argsF]
  by_cases hi:i < args.length
  ·
   have hgi:args[i]?=some args[i]:=List.getElem?_eq_getElem hi
   have hv:=hA.rep i _ hgi
   have e1:args.getD i .u=args[i]:=by simp [hi]
   have e2:(vals++Array.replicate (fn.ntmps - vals.size) undef).getD i undef=vals.getD i undef:=by
    simp only [Array.getD_eq_getD_getElem?,Array.getElem?_append,show i < vals.size by omega,if_true]
   rw [e1,e2]
   exact hv
  ·
   have e1:args.getD i .u=.u:=by simp [List.getD_eq_getElem?_getD,List.getElem?_eq_none (by omega:args.length<=i)]
   rw [e1]
   exact .u _ _
 have hwp:=hbody henv hok μ _ w hR
 refine Code.wp_mono ?_ hwp
 intro e a' w' he
 have done:∀ s μ',Rel ⟨P,w,Mx,fn.ntmps,pin,[],true⟩ s μ' a' w'->∀ ρ,(renOK ρ/\boxesOK (hOf (outL hr)) ρ s.H (outL hr)/\resH (TI.of P) s (hOf (outL hr)) ρ hr.v fn.results.toList/\(∀ p,hr.v ≠ .pnc p))->LeavesInM Fence.wide 0 P fn a'.tmps (HPost P w Mx pin hr) a'.defers .returning w':=by
  rintro s μ' hR' ρ ⟨h1,h2,h3,h4⟩
  refine leavesM (by simp) hR' fun w2 ht hR2=>?_
  obtain ⟨hm,hrep⟩:=retell hR2 ρ h1 h2
  obtain ⟨x,hx1,hx2⟩:=resH_run hR2 hrep h3
  exact ⟨x,hx1,renLay ρ μ',⟨hm.hx,hm.hb,hm.hi,hm.hf,hm.hw,hm.hp⟩,.inr ⟨h4,x,rfl,hx2⟩⟩
 cases e with
 | normal=>obtain ⟨s,μ',hR',ρ,hq⟩:=he; exact done s μ' hR' ρ hq
 | ret=>obtain ⟨s,μ',hR',ρ,hq⟩:=he; exact done s μ' hR' ρ hq
 | exit i=>obtain ⟨s,μ',hR',ρ,hq⟩:=he; exact hq.elim
 | goto l=>exact he.elim
 | outgrown=>exact he.elim
 | panic ch=>
  obtain ⟨s,μ',v,x,rfl,hR',hx,ρ,h1,h2,p,hp,h3⟩:=he
  refine leavesM (by simp) hR' fun w2 ht hR2=>?_
  obtain ⟨hm,hrep⟩:=retell hR2 ρ h1 h2
  exact ⟨renLay ρ μ',⟨hm.hx,hm.hb,hm.hi,hm.hf,hm.hw,hm.hp⟩,.inl ⟨p,x,hp,rfl,hrep v x (hx.turned ht) p h3⟩⟩
theorem sound_ofEp {P:Program} {f:FuncId} {fn:Func} {c:Code} {S:HSpec} (hf:P.funcs[f]?=some fn) (hb:fn.body=some c) (hok:codeOK P fn.ntmps c=true)
  (h:∀ args bx hr,S args bx=some hr->∃ env,EnvOK P env/\args.length<=fn.ntmps/\goOns bx hr.up/\∀ (w:World) (Mx:Nat->Prop) (pin:Nat->Option (Nat × Nat)),(∀ i,bx.length<=i->pin i=none)->awp ⟨P,w,Mx,fn.ntmps,pin,[],true⟩ env c (fW_ (TI.of P) fn.results.toList hr) ⟨argsF args,hB bx⟩):HSound P f S:=by
 classical
 intro args bx hr hS
 obtain ⟨env,he,h1,h2,h3⟩:=h args bx hr hS
 exact sound_ofHp (S:=fun a b=>if a=args/\b=bx then some hr else none) hf hb hok he (fun a b r hr'=>by
  split at hr'
  · rename_i hab; obtain ⟨rfl,rfl⟩:=hab; cases hr'; exact ⟨h1,h2,h3⟩
  · cases hr') args bx hr (if_pos ⟨rfl,rfl⟩)
end Go.Proofs.YtjoaigccapegpaaGreat.AE
