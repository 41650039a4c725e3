/-
 A plain machine for the code of functions, and its soundness: part AE19. Conditions: none; every lemma names its own.
-/
import Derived.Test.YtjoaigccapegpaaGreatPb
import Derived.RangeFuncRecord
import Derived.RangeFuncLeaves
import Derived.RecoverIn
import Derived.RangeFuncCalls
import Derived.TacticsIn
import Derived.RangeFuncSeq
import Derived.RangeFuncBox
import Derived.ScopeJumps
import Derived.Test.YtjoaigccapegpaaGreatPz
set_option linter.constructorNameAsVariable false
namespace Go.Proofs.YtjoaigccapegpaaGreat.AE
open Go Go.RowKit
set_option linter.unusedVariables false
theorem hnews_live {H H1:Heap}:∀ (l:List (Bid × Box)) {H H1:Heap},hnews H l=some H1->(∀ b,H b ≠ none->H1 b=H b)/\(∀ b,H1 b=none->H b=none)/\(∀ p ∈ l,H1 p.1 ≠ none/\H p.1=none)
 | [],H,H1,h=>by cases h; exact ⟨fun _ _=>rfl,fun _ h=>h,fun p hp=>by simp at hp⟩
 | (b,x) :: l,H,H1,h=>by
  simp only [hnews] at h
  split at h
  ·
   rename_i hn
   have hn':H b=none:=by simpa using hn
   obtain ⟨i1,i2,i3⟩:=@hnews_live H H1 l _ _ h
   have hle:∀ b',H b' ≠ none->hput H b x b'=H b':=fun b' hb'=>by
    have:b' ≠ b:=by rintro rfl; exact hb' hn'
    simp [hput,this]
   refine ⟨fun b' hb'=>(i1 b' (by rw [hle b' hb']; exact hb')).trans (hle b' hb'),fun b' hb'=>?_,fun p hp=>?_⟩
   ·
    have:=i2 b' hb'
    simp only [hput] at this
    split at this
    · cases this
    · exact this
   ·
    rcases List.mem_cons.1 hp with rfl | hp
    ·
     refine ⟨?_,hn'⟩
     rw [i1 b (by simp [hput])]
     simp [hput]
    ·
     refine ⟨(i3 p hp).1,?_⟩
     have:=(i3 p hp).2
     simp only [hput] at this
     split at this
     · cases this
     · exact this
  · cases h
theorem hnews_anti:∀ (l:List (Bid × Box)) {H H' H1:Heap},hnews H' l=some H1->(∀ b,H' b=none->H b=none)->(∃ H2,hnews H l=some H2)
 | [],H,H',H1,_,_=>⟨H,rfl⟩
 | (b,x) :: l,H,H',H1,h,hle=>by
  simp only [hnews] at h ⊢
  split at h
  ·
   rename_i hn
   have hn':H b=none:=hle b (by simpa using hn)
   rw [if_pos (by simp [hn'])]
   exact hnews_anti l h fun b' hb'=>by
    simp only [hput] at hb' ⊢
    split at hb'
    · cases hb'
    · rename_i he; simp [he,hle b' hb']
  · cases h
theorem hnews_eq:∀ (l:List (Bid × Box)) {H H1:Heap},hnews H l=some H1->H1=hputs H l
 | [],H,H1,h=>by cases h; rfl
 | (b,x) :: l,H,H1,h=>by
  simp only [hnews] at h
  split at h
  · exact hnews_eq l h
  · cases h
theorem hnews_put {b:Bid} {x:Box}:∀ (l:List (Bid × Box)) {H H1:Heap},hnews H l=some H1->H b=none->(∀ p ∈ l,p.1 ≠ b)->hnews (hput H b x) l=some (hput H1 b x)
 | [],H,H1,h,_,_=>by cases h; rfl
 | (b',y) :: l,H,H1,h,hb,hl=>by
  simp only [hnews] at h ⊢
  have hne:b' ≠ b:=hl (b',y) (by simp)
  split at h
  ·
   rename_i hn
   have:hput H b x b'=H b':=by simp [hput,hne]
   rw [this,if_pos hn,hput_swap H x y (Ne.symm hne)]
   exact hnews_put l h (by simp [hput,Ne.symm hne,hb]) (fun p hp=>hl p (by simp [hp]))
  · cases h
theorem hnews_comm:∀ (l m:List (Bid × Box)) {H H1 H2:Heap},hnews H l=some H1->hnews H1 m=some H2->∃ H1',hnews H m=some H1'/\hnews H1' l=some H2
 | [],m,H,H1,H2,h1,h2=>by cases h1; exact ⟨H2,h2,rfl⟩
 | (b,x) :: l,m,H,H1,H2,h1,h2=>by
  simp only [hnews] at h1
  split at h1
  ·
   rename_i hn
   have hn':H b=none:=by simpa using hn
   obtain ⟨H1',g1,g2⟩:=hnews_comm l m h1 h2
   obtain ⟨H3,g3⟩:=hnews_anti (H:=H) m g1 (fun b' hb'=>by
    simp only [hput] at hb'
    split at hb'
    · cases hb'
    · exact hb')
   have hl:=(@hnews_live H H m _ _ g1).2.2
   have hne:∀ p ∈ m,p.1 ≠ b:=fun p hp he=>by
    have:=(hl p hp).2
    rw [he] at this
    simp [hput] at this
   have:=hnews_put (x:=x) m g3 hn' hne
   rw [g1] at this
   cases this
   refine ⟨H3,g3,?_⟩
   have h3n:H3 b=none:=by
    rw [hnews_eq m g3,hputs_at m H hne]; exact hn'
   simp only [hnews,h3n,Option.isNone_none,if_true]
   exact g2
  · cases h1
theorem tput_comm {t:Nat->AV} {x y:Option Tmp} {v uu:AV} (h:∀ d,x=some d->y ≠ some d):tput (tput t x v) y uu=tput (tput t y uu) x v:=by
 funext i
 simp only [tput_at]
 by_cases h1:y=some i <;> by_cases h2:x=some i
 · exact absurd h1 (h i h2)
 · simp [h1,h2]
 · simp [h1,h2]
 · simp [h1,h2]
def newOp:Op->Bool
 | .buildSlice _ _ _=>true
 | .alloc _=>true
 | _=>false
theorem hputs_live {b:Bid}:∀ (l:List (Bid × Box)) (H:Heap),H b ≠ none->hputs H l b ≠ none
 | [],H,h=>h
 | (c,y) :: l,H,h=>hputs_live l (hput H c y) (by
  simp only [hput]
  split
  · simp
  · exact h)
theorem hputs_mem {p:Bid × Box}:∀ (l:List (Bid × Box)) (H:Heap),p ∈ l->hputs H l p.1 ≠ none
 | [],H,h=>by simp at h
 | q :: l,H,h=>by
  rcases List.mem_cons.1 h with rfl | h
  · exact hputs_live l _ (by simp [hput])
  · exact hputs_mem l _ h
theorem hnews_put' {b:Bid} {x:Box}:∀ (l:List (Bid × Box)) {H H1:Heap},hnews H l=some H1->(∀ p ∈ l,p.1 ≠ b)->hnews (hput H b x) l=some (hput H1 b x)
 | [],H,H1,h,_=>by cases h; rfl
 | (b',y) :: l,H,H1,h,hl=>by
  simp only [hnews] at h ⊢
  have hne:b' ≠ b:=hl (b',y) (by simp)
  split at h
  ·
   rename_i hn
   have:hput H b x b'=H b':=by simp [hput,hne]
   rw [this,if_pos hn,hput_swap H x y (Ne.symm hne)]
   exact hnews_put' l h (fun p hp=>hl p (by simp [hp]))
  · cases h
theorem hnews_puts {l:List (Bid × Box)}:∀ (up:List (Bid × Box)) {H H1:Heap},hnews H l=some H1->(∀ p ∈ up,∀ q ∈ l,q.1 ≠ p.1)->hnews (hputs H up) l=some (hputs H1 up)
 | [],H,H1,h,_=>h
 | (b,x) :: up,H,H1,h,hd=>by
  simp only [hputs]
  exact hnews_puts up (hnews_put' l h (fun q hq=>hd (b,x) (by simp) q hq)) fun p hp=>hd p (by simp [hp])
theorem plain_view {v:AV} (hp:plainA v=true) (hn:∀ b n,v ≠ .own b n) (H H':Heap):view H 2 v=view H' 2 v:=by
 cases v with
 | own b n=>exact absurd rfl (hn b n)
 | agg cs=>
  simp only [view]
  congr 1
  apply List.map_congr_left
  intro c hc
  have:=List.all_eq_true.1 hp c hc
  cases c <;> simp at this <;> rfl
 | fn f caps=>cases caps with
  | nil=>rfl
  | cons c cs=>simp [plainA] at hp
 | _=>first | rfl | simp [plainA] at hp
theorem rowsIn_no:∀ {l:List AV},rowsIn l=[]->∀ v ∈ l,∀ b n,v ≠ .own b n
 | [],_,v,hv,_,_=>by simp at hv
 | x :: l,h,v,hv,b,n=>by
  rcases List.mem_cons.1 hv with rfl | hv
  · rintro rfl; simp [rowsIn] at h
  ·
   refine rowsIn_no (l:=l) ?_ v hv b n
   cases x <;> simp [rowsIn] at h <;> exact h
theorem aVal_new {T:TypeId->Option TI} {env:Env} {o:Oper} (hp:newOp o.op=true) {ρ:Operand->AV} {H:Heap} {r:R} (h:aVal T env o.dst o.op ρ H=some r) (hf:r.fp=[]) :
  r.up=[]/\(∀ p ∈ r.nw,p.1=nid o.dst)/\∀ H',aVal T env o.dst o.op ρ H'=some r:=by
 cases hop:o.op <;> rw [hop] at hp h <;> simp [newOp] at hp
 case alloc t=>
  simp only [aVal] at h ⊢
  cases hT:T t with
  | none=>rw [hT] at h; simp [vAlloc] at h
  | some i=>
   rw [hT] at h
   simp only [vAlloc] at h ⊢
   split at h
   · cases h
   ·
    rename_i hz
    cases h
    exact ⟨rfl,fun p hp=>by rw [List.mem_singleton.1 hp],fun _=>by rw [if_neg hz]⟩
 case buildSlice t n ps=>
  simp only [aVal] at h ⊢
  generalize hl:(ps.toList.map fun p=>(p.1,ρ p.2))=l at h ⊢
  cases hT:T t with
  | none=>rw [hT] at h; simp [vBuildSlice] at h
  | some i=>
   rw [hT] at h
   cases hE:(some i).bind fun i=>T i.etype with
   | none=>rw [hE] at h; simp [vBuildSlice] at h
   | some e=>
    rw [hE] at h
    simp only [vBuildSlice] at h ⊢
    split at h
    ·
     rename_i hc
     generalize ha:arrP i.esize (l.map fun p=>(p.1,view H 2 p.2)) (some (List.replicate n e.zero).flatten)=cs at h
     cases cs with
     | none=>simp [rowP] at h
     | some cs=>
      simp only [rowP] at h
      split at h
      ·
       rename_i hc2
       simp only [Option.some.injEq] at h
       subst h
       simp only at hf
       refine ⟨by simp [hf,frzs],fun p hp=>by simp at hp; rw [hp],fun H'=>?_⟩
       rw [if_pos hc]
       have hv:(l.map fun p=>(p.1,view H' 2 p.2))=(l.map fun p=>(p.1,view H 2 p.2)):=by
        apply List.map_congr_left
        intro p hp
        have h1:=List.all_eq_true.1 hc.2.2.2.2 p.2 (List.mem_map.2 ⟨p,hp,rfl⟩)
        have h2:=rowsIn_no hf p.2 (List.mem_map.2 ⟨p,hp,rfl⟩)
        rw [plain_view h1 h2 H' H]
       rw [hv,ha]
       simp only [rowP,if_pos hc2,hf,frzs]
      · cases h
    · cases h
theorem eff_new {T:TypeId->Option TI} {env:Env} {ops:Array Oper} {o:Oper} (hp:newOp o.op=true) {t:Nat->AV} {H:Heap} {r:R} (h:eff T env ops o t H=some r) (hf:r.fp=[]) :
  r.up=[]/\(∀ p ∈ r.nw,p.1=nid o.dst)/\∀ H',eff T env ops o t H'=some r:=by
 unfold eff at h ⊢
 split at h
 · exact aVal_new hp h hf
 ·
  split at h
  ·
   split at h
   ·
    rename_i hbw
    obtain ⟨h1,h2,h3⟩:=aVal_new hp h hf
    exact ⟨h1,h2,fun H'=>by simp only [hbw,if_true]; exact h3 H'⟩
   ·
    rename_i hbw
    cases h
    exact ⟨rfl,fun p hp=>by simp at hp,fun H'=>by simp only [if_neg hbw]⟩
  ·
   cases h
   exact ⟨rfl,fun p hp=>by simp at hp,fun H'=>rfl⟩
  · cases h
def pairOK (ox oy:Oper) (x y:List Bid × List Bid):Bool:=
 (x.1.isEmpty && y.1.isEmpty) || pureOp ox.op || pureOp oy.op
 || (newOp ox.op && x.2.isEmpty && !y.1.contains (nid ox.dst)) || (newOp oy.op && y.2.isEmpty && !x.1.contains (nid oy.dst))
 || ((loadOp ox.op || (sliceOp ox.op && x.1.isEmpty)) && x.2.all (fun b=>!y.1.contains b)) || ((loadOp oy.op || (sliceOp oy.op && y.1.isEmpty)) && y.2.all (fun b=>!x.1.contains b))
section
variable {Γ:Ctx} {s:St} {μ:Lay} {a:Act} {w:World} {env:Env} {ops:Array Oper}
theorem step_parts {o:Oper} {s':St} {c f:List Bid} (h:aStep (TI.of Γ.P) env ops o s=some ⟨s',c,f,none⟩) :
  ∃ r H1,eff (TI.of Γ.P) env ops o s.t s.H=some r/\r.pan=none/\hnews s.H r.nw=some H1/\s'=⟨tput s.t o.dst r.v,hputs H1 r.up⟩/\c=r.up.map (·.1)/\f=r.fp:=by
 rw [aStep_eff] at h
 obtain ⟨r,H1,h1,h2,h3⟩:=fin_some h
 simp only [Out.mk.injEq] at h3
 obtain ⟨e1,e2,e3,e4⟩:=h3
 exact ⟨r,H1,h1,e4.symm,h2,by rw [e1,<-e4],e2,e3⟩
theorem step_make {o:Oper} {r:R} {H1:Heap} (h1:eff (TI.of Γ.P) env ops o s.t s.H=some r) (h2:r.pan=none) (h3:hnews s.H r.nw=some H1) :
  aStep (TI.of Γ.P) env ops o s=some ⟨⟨tput s.t o.dst r.v,hputs H1 r.up⟩,r.up.map (·.1),r.fp,none⟩:=by
 rw [aStep_eff,h1]
 simp only [fin,h3,finH,h2]
theorem map_nil {α β:Type} {f:α->β} {l:List α} (h:(l.map f).isEmpty=true):l=[]:=by cases l <;> simp_all
theorem commute (h:Rel Γ s μ a w) {x y:Oper} (hap:x.apart ops y=true) {s1 s2:St} {cx fx cy fy:List Bid}
  (hx:aStep (TI.of Γ.P) env ops x s=some ⟨s1,cx,fx,none⟩) (hy:aStep (TI.of Γ.P) env ops y s1=some ⟨s2,cy,fy,none⟩) (hp:pairOK x y (cx,fx) (cy,fy)=true) :
  ∃ s1',aStep (TI.of Γ.P) env ops y s=some ⟨s1',cy,fy,none⟩/\aStep (TI.of Γ.P) env ops x s1'=some ⟨s2,cx,fx,none⟩:=by
 obtain ⟨ap1,ap2,ap3⟩:=Oper.apart_spec hap
 obtain ⟨rx,H1,ex,px,nx,rfl,rfl,rfl⟩:=step_parts hx
 obtain ⟨ry,H2,ey,py,ny,rfl,rfl,rfl⟩:=step_parts hy
 simp only at ey ny
 have ty:∀ H,eff (TI.of Γ.P) env ops y (tput s.t x.dst rx.v) H=eff (TI.of Γ.P) env ops y s.t H:=fun H=>eff_congr fun i hi=>by
  rw [tput_at,if_neg]
  exact fun he=>ap1 i he hi
 have tx:∀ H v,eff (TI.of Γ.P) env ops x (tput s.t y.dst v) H=eff (TI.of Γ.P) env ops x s.t H:=fun H v=>eff_congr fun i hi=>by
  rw [tput_at,if_neg]
  exact fun he=>ap3 i he hi
 have tt:tput (tput s.t x.dst rx.v) y.dst ry.v=tput (tput s.t y.dst ry.v) x.dst rx.v:=tput_comm ap2
 rw [ty] at ey
 simp only [pairOK,Bool.or_eq_true,Bool.and_eq_true] at hp
 have close:∀ (H1' H2':Heap),eff (TI.of Γ.P) env ops y s.t s.H=some ry->hnews s.H ry.nw=some H1'->eff (TI.of Γ.P) env ops x s.t (hputs H1' ry.up)=some rx->hnews (hputs H1' ry.up) rx.nw=some H2'->hputs H2' rx.up=hputs H2 ry.up ->
   ∃ s1',aStep (TI.of Γ.P) env ops y s=some ⟨s1',ry.up.map (·.1),ry.fp,none⟩/\aStep (TI.of Γ.P) env ops x s1'=some ⟨⟨tput (tput s.t x.dst rx.v) y.dst ry.v,hputs H2 ry.up⟩,rx.up.map (·.1),rx.fp,none⟩:=by
  intro H1' H2' g1 g2 g3 g4 g5
  refine ⟨_,step_make g1 py g2,?_⟩
  rw [tt,<-g5]
  exact step_make (s:=⟨tput s.t y.dst ry.v,hputs H1' ry.up⟩) (by simp only [tx]; exact g3) px g4
 have notin:∀ {l:List (Bid × Box)} {b:Bid},(!(l.map (·.1)).contains b)=true->∀ p ∈ l,p.1 ≠ b:=fun {l} {b} h p hp he=>by
  simp only [Bool.not_eq_true',List.contains_eq_mem,decide_eq_false_iff_not,List.mem_map,not_exists,not_and] at h
  exact h p hp he
 rcases hp with ((((((⟨e1,e2⟩ | e1) | e1) | ⟨⟨e1,e2⟩,e3⟩) | ⟨⟨e1,e2⟩,e3⟩)) | ⟨e1,e2⟩) | ⟨e1,e2⟩
 ·
  have u1:=map_nil e1
  have u2:=map_nil e2
  rw [u1] at ey ny
  simp only [hputs] at ey ny
  have hl1:=@hnews_live s.H H1 _ _ _ nx
  rw [eff_ext h hl1.1] at ey
  obtain ⟨H1',g1,g2⟩:=hnews_comm _ _ nx ny
  have hl2:=@hnews_live s.H H1' _ _ _ g1
  refine close H1' H2 ey g1 ?_ ?_ ?_
  · rw [u2]; simp only [hputs]; rw [eff_ext h hl2.1]; exact ex
  · rw [u2]; exact g2
  · rw [u1,u2]
 ·
  obtain ⟨n1,n2⟩:=eff_pure_parts e1 ex
  rw [n1] at nx
  cases nx
  rw [n2] at ey ny
  simp only [hputs] at ey ny
  refine close H2 (hputs H2 ry.up) ey ny ?_ ?_ ?_
  · rw [eff_pure e1 s.t _ s.H]; exact ex
  · rw [n1]; rfl
  · rw [n2]; rfl
 ·
  obtain ⟨n1,n2⟩:=eff_pure_parts e1 ey
  rw [n1] at ny
  cases ny
  rw [eff_pure e1 s.t _ s.H] at ey
  refine close s.H H1 ey (by rw [n1]; rfl) ?_ ?_ ?_
  · rw [n2]; exact ex
  · rw [n2]; exact nx
  · rw [n2]; rfl
 ·
  obtain ⟨u1,u2,u3⟩:=eff_new e1 ex (by simpa using e2)
  rw [u1] at ey ny
  simp only [hputs] at ey ny
  have hl1:=@hnews_live s.H H1 _ _ _ nx
  rw [eff_ext h hl1.1] at ey
  obtain ⟨H1',g1,g2⟩:=hnews_comm _ _ nx ny
  have hd:∀ p ∈ ry.up,∀ q ∈ rx.nw,q.1 ≠ p.1:=fun p hp q hq he=>notin e3 p hp (by rw [<-he]; exact u2 q hq)
  refine close H1' (hputs H2 ry.up) ey g1 (u3 _) (hnews_puts ry.up g2 hd) ?_
  rw [u1]; rfl
 ·
  obtain ⟨u1,u2,u3⟩:=eff_new e1 ey (by simpa using e2)
  have ey':=u3 s.H
  have hd:∀ p ∈ rx.up,∀ q ∈ ry.nw,q.1 ≠ p.1:=fun p hp q hq he=>notin e3 p hp (by rw [<-he]; exact u2 q hq)
  obtain ⟨Hq,gq⟩:=hnews_anti ry.nw ny (H:=H1) fun b hb=>by
   by_cases hm:∃ p ∈ rx.up,p.1=b
   ·
    obtain ⟨p,hp,rfl⟩:=hm
    exact absurd hb (hputs_mem rx.up H1 hp)
   ·
    rw [hputs_at rx.up H1 (fun p hp he=>hm ⟨p,hp,he⟩)] at hb
    exact hb
  have hH2:H2=hputs Hq rx.up:=by
   have:=hnews_puts rx.up gq hd
   rw [ny] at this
   exact Option.some.inj this
  obtain ⟨H1',g1,g2⟩:=hnews_comm _ _ nx gq
  have hl2:=@hnews_live s.H H1' _ _ _ g1
  refine close H1' Hq ey' g1 ?_ ?_ ?_
  · rw [u1]; simp only [hputs]; rw [eff_ext h hl2.1]; exact ex
  · rw [u1]; exact g2
  · rw [u1,hH2]; rfl
 ·
  obtain ⟨n1,n2,n3,n4⟩:=eff_like h e1 ex
  rw [n1] at nx
  cases nx
  rw [n2] at ey ny
  simp only [hputs] at ey ny
  have hl:=@hnews_live s.H H2 _ _ _ ny
  refine close H2 (hputs H2 ry.up) ey ny (n3 _ fun b hb=>?_) (by rw [n1]; rfl) (by rw [n2]; rfl)
  have h1:=List.all_eq_true.1 e2 b hb
  simp only [Bool.not_eq_true',List.contains_eq_mem,decide_eq_false_iff_not,List.mem_map,not_exists,not_and] at h1
  rw [hputs_at ry.up H2 (fun p hp he=>h1 p hp he)]
  exact hl.1 b (n4 b hb)
 ·
  obtain ⟨n1,n2,n3,n4⟩:=eff_like h e1 ey
  rw [n1] at ny
  cases ny
  have hl:=@hnews_live s.H H1 _ _ _ nx
  have ey':eff (TI.of Γ.P) env ops y s.t s.H=some ry:=n3 _ fun b hb=>by
   have h1:=List.all_eq_true.1 e2 b hb
   simp only [Bool.not_eq_true',List.contains_eq_mem,decide_eq_false_iff_not,List.mem_map,not_exists,not_and] at h1
   rw [hputs_at rx.up H1 (fun p hp he=>h1 p hp he)]
   exact (hl.1 b (n4 b hb)).symm
  refine close s.H H1 ey' (by rw [n1]; rfl) ?_ ?_ ?_
  · rw [n2]; exact ex
  · rw [n2]; exact nx
  · rw [n2]; rfl
end
def preds (o:Oper):List Nat:=(o.after.toList.filter (Region.binds .any)).map (·.on)
def maskB (acc:List Nat):List Nat->Nat->Nat
 | [],m=>m
 | k :: l,m=>maskB acc l (m ||| 2 ^ k ||| acc.getD k 0)
def befL:List Nat->List Oper->List Nat
 | acc,[]=>acc
 | acc,o :: l=>befL (acc++[maskB acc (preds o) 0]) l
theorem maskB_bit (acc:List Nat):∀ (l:List Nat) (m j:Nat),(maskB acc l m).testBit j=true->m.testBit j=true\/∃ k ∈ l,k=j\/(acc.getD k 0).testBit j=true
 | [],m,j,h=>.inl h
 | k :: l,m,j,h=>by
  rcases maskB_bit acc l _ j h with h' | ⟨k',hk',h'⟩
  ·
   simp only [Nat.testBit_or,Bool.or_eq_true] at h'
   rcases h' with (h' | h') | h'
   · exact .inl h'
   ·
    right
    refine ⟨k,by simp,.inl ?_⟩
    rw [Nat.testBit_two_pow] at h'
    simpa using h'
   · exact .inr ⟨k,by simp,.inr h'⟩
  · exact .inr ⟨k',by simp [hk'],h'⟩
theorem befL_pre:∀ (l:List Oper) (acc:List Nat),∃ r,befL acc l=acc++r/\r.length=l.length
 | [],acc=>⟨[],by simp [befL]⟩
 | o :: l,acc=>by
  obtain ⟨r,h1,h2⟩:=befL_pre l (acc++[maskB acc (preds o) 0])
  exact ⟨maskB acc (preds o) 0 :: r,by rw [befL,h1]; simp,by simp [h2]⟩
theorem befL_at (l:List Oper):∀ (acc:List Nat) (i:Nat) (o:Oper),l[i]?=some o->(befL acc l)[acc.length + i]?=some (maskB ((befL acc l).take (acc.length + i)) (preds o) 0):=by
 induction l with
 | nil=>intro acc i o h; simp at h
 | cons o l ih=>
  intro acc i o' h
  generalize hm:maskB acc (preds o) 0=m
  have hb:befL acc (o :: l)=befL (acc++[m]) l:=by rw [<-hm]; rfl
  rw [hb]
  cases i with
  | zero=>
   simp only [List.getElem?_cons_zero,Option.some.injEq] at h
   subst h
   obtain ⟨r,h1,h2⟩:=befL_pre l (acc++[m])
   rw [h1,Nat.add_zero,List.append_assoc,List.getElem?_append_right (Nat.le_refl _),List.take_append_of_le_length (Nat.le_refl _),List.take_length,hm]
   simp
  | succ i=>
   have:=ih (acc++[m]) i o' (by simpa using h)
   rw [List.length_append,List.length_singleton] at this
   rw [show acc.length + (i + 1)=acc.length + 1 + i from by omega]
   exact this
def drawOK (ops:Array Oper):Bool:=
 let b:=befL [] ops.toList
 (List.range ops.size).all fun j=>match ops[j]? with
  | some oj=>(preds oj).all (fun k=>decide (k < j)) && (List.range j).all fun i=>(b.getD j 0).testBit i || (match ops[i]? with | some oi=>oi.apart ops oj | none=>true)
  | none=>true
def loosePairs (ops:Array Oper):List (Nat × Nat):=
 let b:=befL [] ops.toList
 (List.range ops.size).flatMap fun j=>(List.range j).filterMap fun i=>
  match ops[i]?,ops[j]? with
  | some oi,some oj=>if (b.getD j 0).testBit i || pureOp oi.op || pureOp oj.op then none else some (i,j)
  | _,_=>none
def okDraw (ops:Array Oper) (tr:Trace):Bool:=
 tr.all (fun x=>x.1.isEmpty) || (loosePairs ops).all fun p=>match ops[p.1]?,ops[p.2]? with
  | some oi,some oj=>pairOK oi oj (tr.getD p.1 ([],[])) (tr.getD p.2 ([],[]))
  | _,_=>true
section
variable {Γ:Ctx} {s:St} {μ:Lay} {a:Act} {w:World} {env:Env} {ops:Array Oper}
def iRun (T:TypeId->Option TI) (env:Env) (ops:Array Oper) (τ:Nat->List Bid × List Bid):List Nat->St->Option St
 | [],s=>some s
 | i :: l,s=>match ops[i]? with
  | none=>none
  | some o=>match aStep T env ops o s with
   | some ⟨s',c,f,none⟩=>if τ i=(c,f) then iRun T env ops τ l s' else none
   | _=>none
theorem iRun_cons {T:TypeId->Option TI} {τ:Nat->List Bid × List Bid} {i:Nat} {l:List Nat} {s s':St} (h:iRun T env ops τ (i :: l) s=some s') :
  ∃ o s1,ops[i]?=some o/\aStep T env ops o s=some ⟨s1,(τ i).1,(τ i).2,none⟩/\iRun T env ops τ l s1=some s':=by
 simp only [iRun] at h
 cases ho:ops[i]? with
 | none=>rw [ho] at h; cases h
 | some o=>
  rw [ho] at h
  simp only at h
  cases hs:aStep T env ops o s with
  | none=>rw [hs] at h; cases h
  | some out=>
   obtain ⟨s1,c,f,pan⟩:=out
   rw [hs] at h
   cases pan with
   | some v=>cases h
   | none=>
    simp only at h
    split at h
    · rename_i ht; rw [ht]; exact ⟨o,s1,rfl,hs,h⟩
    · cases h
theorem iRun_mk {T:TypeId->Option TI} {τ:Nat->List Bid × List Bid} {i:Nat} {l:List Nat} {s s1 s':St} {o:Oper} (h1:ops[i]?=some o) (h2:aStep T env ops o s=some ⟨s1,(τ i).1,(τ i).2,none⟩) (h3:iRun T env ops τ l s1=some s') :
  iRun T env ops τ (i :: l) s=some s':=by
 simp only [iRun,h1,h2,if_true,h3]
theorem move_front (henv:EnvOK Γ.P env) (hok:∀ (i:Nat) (o:Oper),ops[i]?=some o->opOK Γ.P Γ.n o=true) {τ:Nat->List Bid × List Bid} {i:Nat} {post:List Nat}:∀ (pre:List Nat) (s:St) (μ:Lay) (a:Act) (w:World) (sf:St),Rel Γ s μ a w ->
  (∀ j ∈ pre,∀ oj oi,ops[j]?=some oj->ops[i]?=some oi->oj.apart ops oi=true/\pairOK oj oi (τ j) (τ i)=true)->iRun (TI.of Γ.P) env ops τ (pre++i :: post) s=some sf->iRun (TI.of Γ.P) env ops τ (i :: (pre++post)) s=some sf
 | [],s,μ,a,w,sf,h,_,hr=>hr
 | j :: pre,s,μ,a,w,sf,h,hp,hr=>by
  obtain ⟨oj,s1,ho,hs,hr'⟩:=iRun_cons hr
  obtain ⟨μ1,a1,w1,h1⟩:=step_exists h (hok j oj ho) henv hs
  have:=move_front henv hok pre s1 μ1 a1 w1 sf h1 (fun j' hj'=>hp j' (by simp [hj'])) hr'
  obtain ⟨oi,s2,ho2,hs2,hr2⟩:=iRun_cons this
  obtain ⟨p1,p2⟩:=hp j (by simp) oj oi ho ho2
  obtain ⟨s1',q1,q2⟩:=commute h p1 hs hs2 p2
  exact iRun_mk ho2 q1 (iRun_mk ho q2 hr2)
theorem before_listed {listed:Array Bool} (hclosed:∀ i o,ops[i]?=some o->listed.getD i true=true->∀ k ∈ preds o,listed.getD k false=true) :
  ∀ (i:Nat) (o:Oper),ops[i]?=some o->(∀ k ∈ preds o,k < i)->(∀ k ∈ preds o,listed.getD k false=true)->(∀ (k:Nat) (ok:Oper),ops[k]?=some ok->∀ k' ∈ preds ok,k' < k)->∀ j,((befL [] ops.toList).getD i 0).testBit j=true->listed.getD j false=true:=by
 intro i
 induction i using Nat.strongRecOn with
 | _ i ih=>
  intro o ho hlt hpl hback j hj
  have hat:=befL_at ops.toList [] i o (by simpa using ho)
  simp only [List.length_nil,Nat.zero_add] at hat
  rw [List.getD_eq_getElem?_getD,hat] at hj
  simp only [Option.getD_some] at hj
  rcases maskB_bit _ _ _ _ hj with h0 | ⟨k,hk,h'⟩
  · simp at h0
  ·
   rcases h' with rfl | h'
   · exact hpl k hk
   ·
    have hki:=hlt k hk
    rw [List.getD_eq_getElem?_getD,List.getElem?_take,if_pos hki,<-List.getD_eq_getElem?_getD] at h'
    have hkl:=hpl k hk
    cases hok:ops[k]? with
    | none=>
     exfalso
     rw [Array.getElem?_eq_none_iff] at hok
     have:=(Array.getElem?_eq_some_iff.1 ho).1
     omega
    | some ok=>
     refine ih k hki ok hok (hback k ok hok) ?_ hback j h'
     refine hclosed k ok hok ?_
     rw [Array.getD_eq_getD_getElem?] at hkl ⊢
     cases hh:listed[k]? with
     | none=>rw [hh] at hkl; simp at hkl
     | some y=>rw [hh] at hkl; simpa using hkl
end
section
variable {Γ:Ctx} {env:Env} {ops:Array Oper}
theorem drawOK_at (hd:drawOK ops=true) {j:Nat} {oj:Oper} (hj:ops[j]?=some oj):(∀ k ∈ preds oj,k < j)/\∀ i oi,i < j->ops[i]?=some oi->((befL [] ops.toList).getD j 0).testBit i=false->oi.apart ops oj=true:=by
 have hlt:=(Array.getElem?_eq_some_iff.1 hj).1
 simp only [drawOK,List.all_eq_true,List.mem_range] at hd
 have:=hd j hlt
 rw [hj] at this
 simp only [Bool.and_eq_true,List.all_eq_true,decide_eq_true_eq,List.mem_range,Bool.or_eq_true] at this
 refine ⟨this.1,fun i oi hij hoi hb=>?_⟩
 rcases this.2 i hij with h' | h'
 · rw [hb] at h'; cases h'
 · rw [hoi] at h'; exact h'
theorem any_order (henv:EnvOK Γ.P env) (hok:∀ (i:Nat) (o:Oper),ops[i]?=some o->opOK Γ.P Γ.n o=true) (hd:drawOK ops=true) {τ:Nat->List Bid × List Bid}
  (hpair:∀ i j oi oj,i < j->ops[i]?=some oi->ops[j]?=some oj->((befL [] ops.toList).getD j 0).testBit i=false->pairOK oi oj (τ i) (τ j)=true) {Q:Exit->Act->World->Prop} {sf:St} (hQ:∀ μ a w,Rel Γ sf μ a w->Q .normal a w) :
  ∀ (n:Nat) (R:List Nat) (listed:Array Bool) (s:St) (μ:Lay) (a:Act) (w:World),R.length=n->Rel Γ s μ a w->listed.size=ops.size->R=(List.range ops.size).filter (fun i=>!listed.getD i true) ->
   (∀ i o,ops[i]?=some o->listed.getD i true=true->∀ k ∈ preds o,listed.getD k false=true)->iRun (TI.of Γ.P) env ops τ R s=some sf->wpAny Γ.P .any ops Q n listed a w:=by
 intro n
 induction n with
 | zero=>
  intro R listed s μ a w hn hR hsz hRe hcl hrun
  have hR0:R=[]:=List.eq_nil_of_length_eq_zero hn
  subst hR0
  simp only [iRun,Option.some.injEq] at hrun
  subst hrun
  refine ⟨?_,hQ μ a w hR⟩
  rw [Region.ready,List.filter_eq_nil_iff]
  intro i hi hh
  have h0:i ∈ (List.range ops.size).filter (fun i=>!listed.getD i true):=by
   rw [List.mem_filter]
   refine ⟨hi,?_⟩
   simp only [Bool.and_eq_true] at hh
   exact hh.1
  rw [<-hRe] at h0
  simp at h0
 | succ n ih=>
  intro R listed s μ a w hn hR hsz hRe hcl hrun
  have hback:∀ (k:Nat) (ok:Oper),ops[k]?=some ok->∀ k' ∈ preds ok,k' < k:=fun k ok hk=>(drawOK_at hd hk).1
  have hsorted:R.Pairwise (· < ·):=by rw [hRe]; exact List.Pairwise.filter _ List.pairwise_lt_range
  have hmem:∀ i,i ∈ R ↔ i < ops.size/\listed.getD i true=false:=by
   intro i; rw [hRe,List.mem_filter,List.mem_range]; simp
  have hgetf:∀ k,k < ops.size->(listed.getD k false=true ↔ listed.getD k true=true):=by
   intro k hk
   have:k < listed.size:=by omega
   simp [Array.getD_eq_getD_getElem?,this]
  refine ⟨fun hnil=>?_,fun i hi=>?_⟩
  ·
   exfalso
   cases R with
   | nil=>simp at hn
   | cons i0 rest=>
    obtain ⟨hlt,hun⟩:=(hmem i0).1 (by simp)
    have ho:ops[i0]?=some ops[i0]:=Array.getElem?_eq_getElem hlt
    have hall:∀ k,k < i0->listed.getD k true=true:=by
     intro k hk
     cases hh:listed.getD k true with
     | true=>rfl
     | false=>
      have hkR:=(hmem k).2 ⟨by omega,hh⟩
      rcases List.mem_cons.1 hkR with rfl | hkr
      · omega
      ·
       have:=(List.pairwise_cons.1 hsorted).1 k hkr
       omega
    have:i0 ∈ Region.ready .any ops listed:=by
     rw [Region.ready,List.mem_filter]
     refine ⟨List.mem_range.2 hlt,?_⟩
     rw [hun,ho]
     simp only [Bool.not_false,Option.map_some,Option.getD_some,Bool.true_and,Array.all_eq_true_iff_forall_mem]
     intro e he
     by_cases hb:Region.binds .any e=true
     ·
      have hk:e.on ∈ preds ops[i0]:=List.mem_map.2 ⟨e,List.mem_filter.2 ⟨by simpa using he,hb⟩,rfl⟩
      have hlt2:=hback i0 _ ho _ hk
      simp [hb,(hgetf e.on (by omega)).2 (hall _ hlt2)]
     · simp [hb]
    rw [hnil] at this
    simp at this
  ·
   rw [Region.ready,List.mem_filter,List.mem_range] at hi
   obtain ⟨hlt,hi⟩:=hi
   simp only [Bool.and_eq_true,Bool.not_eq_true'] at hi
   obtain ⟨hun,hpl⟩:=hi
   have ho:ops[i]?=some ops[i]:=Array.getElem?_eq_getElem hlt
   rw [ho] at hpl
   simp only [Option.map_some,Option.getD_some,Array.all_eq_true_iff_forall_mem] at hpl
   have hpreds:∀ k ∈ preds ops[i],listed.getD k false=true:=by
    intro k hk
    obtain ⟨e,he,rfl⟩:=List.mem_map.1 hk
    obtain ⟨he1,he2⟩:=List.mem_filter.1 he
    have:=hpl e (by simpa using he1)
    simpa [he2] using this
   have hiR:=(hmem i).2 ⟨hlt,hun⟩
   obtain ⟨pre,post,rfl⟩:=List.append_of_mem hiR
   have hs1:=List.pairwise_append.1 hsorted
   have hpre:∀ j ∈ pre,j < i:=fun j hj=>hs1.2.2 j hj i (by simp)
   have hpost:∀ j ∈ post,i < j:=(List.pairwise_cons.1 hs1.2.1).1
   have hfront:=move_front henv hok pre s μ a w sf hR (fun j hj oj oi hoj hoi=>by
    have hji:=hpre j hj
    have hb:((befL [] ops.toList).getD i 0).testBit j=false:=by
     cases hh:((befL [] ops.toList).getD i 0).testBit j with
     | false=>rfl
     | true=>
      have:=before_listed hcl i _ ho (hback i _ ho) hpreds hback j hh
      have hju:=((hmem j).1 (by simp [hj])).2
      rw [(hgetf j (by omega))] at this
      rw [hju] at this; cases this
    exact ⟨(drawOK_at hd hoi).2 j oj hji hoj hb,hpair j i oj oi hji hoj hoi hb⟩) hrun
   obtain ⟨oi,s1,hoi,hst,hrest⟩:=iRun_cons hfront
   rw [ho] at hoi
   cases hoi
   unfold wpOp
   rw [ho]
   simp only
   have hcont:=sim_step (K:=wpAny Γ.P .any ops Q n (listed.setIfInBounds i true)) (Q:=Q) hR (hok i _ ho) henv hst ⟨fun _ μ' a' w' hR'=>?_,fun v hv=>by simp at hv⟩
   ·
    split at hcont
    · rename_i hw; rw [if_pos hw]; exact .inl hcont
    · rename_i hw; rw [if_neg hw]; exact hcont
   ·
    refine ih (pre++post) _ s1 μ' a' w' (by simp at hn ⊢; omega) hR' (by simp [hsz]) ?_ ?_ hrest
    ·
     have hget:∀ j,(listed.setIfInBounds i true).getD j true=if j=i then true else listed.getD j true:=by
      intro j
      simp only [Array.getD_eq_getD_getElem?,Array.getElem?_setIfInBounds]
      by_cases e:i=j
      · subst e; simp [show i < listed.size by omega]
      · simp [e,Ne.symm e]
     have h1:(List.range ops.size).filter (fun j=>!(listed.setIfInBounds i true).getD j true)=((List.range ops.size).filter (fun j=>!listed.getD j true)).filter (fun j=>decide (j ≠ i)):=by
      rw [List.filter_filter]
      apply List.filter_congr
      intro j _
      rw [hget]
      by_cases e:j=i <;> simp [e]
     rw [h1,<-hRe,List.filter_append,List.filter_cons]
     simp only [ne_eq,not_true_eq_false,decide_false,Bool.false_eq_true,if_false]
     rw [List.filter_eq_self.2 fun j hj=>by have:=hpre j hj; simp; omega,List.filter_eq_self.2 fun j hj=>by have:=hpost j hj; simp; omega]
    ·
     intro k ok hk hkl k' hk'
     have hget:∀ (d:Bool) (j:Nat),j < ops.size->(listed.setIfInBounds i true).getD j d=if j=i then true else listed.getD j d:=by
      intro d j hj
      simp only [Array.getD_eq_getD_getElem?,Array.getElem?_setIfInBounds]
      by_cases e:i=j
      · subst e; simp [show i < listed.size by omega]
      · simp [e,Ne.symm e]
     have hklt:=(Array.getElem?_eq_some_iff.1 hk).1
     have hk'lt:k' < ops.size:=by have:=hback k ok hk k' hk'; omega
     rw [hget _ _ hklt] at hkl
     rw [hget _ _ hk'lt]
     by_cases e2:k'=i
     · simp [e2]
     ·
      rw [if_neg e2]
      by_cases e1:k=i
      ·
       subst e1
       rw [ho] at hk; cases hk
       exact hpreds k' hk'
      ·
       rw [if_neg e1] at hkl
       exact hcl k ok hk hkl k' hk'
theorem aRun_iRun {τ:Nat->List Bid × List Bid}:∀ (l:List Oper) (k:Nat) (s sf:St) (tr:Trace),(∀ j,l[j]?=ops[k + j]?)->aRun (TI.of Γ.P) env ops l s=.done sf tr->(∀ j,j < l.length->τ (k + j)=tr.getD j ([],[]))->iRun (TI.of Γ.P) env ops τ (List.range' k l.length) s=some sf
 | [],k,s,sf,tr,_,h,_=>by simp only [aRun,Run.done.injEq] at h; simp [iRun,h.1]
 | o :: l,k,s,sf,tr,hl,h,ht=>by
  simp only [aRun] at h
  cases hs:aStep (TI.of Γ.P) env ops o s with
  | none=>rw [hs] at h; cases h
  | some out=>
   obtain ⟨s1,c,f,pan⟩:=out
   rw [hs] at h
   cases pan with
   | some v=>cases h
   | none=>
    simp only at h
    cases hrn:aRun (TI.of Γ.P) env ops l s1 with
    | pan s' v=>rw [hrn] at h; cases h
    | bad=>rw [hrn] at h; cases h
    | done s' tr'=>
     rw [hrn] at h
     simp only [Run.cons,Run.done.injEq] at h
     obtain ⟨rfl,rfl⟩:=h
     have h0:=ht 0 (by simp)
     simp only [Nat.add_zero,List.getD_cons_zero] at h0
     rw [List.length_cons,List.range'_succ]
     refine iRun_mk (by simpa using (hl 0).symm) (by rw [h0]; exact hs) ?_
     refine aRun_iRun l (k + 1) s1 s' tr' (fun j=>by have:=hl (j + 1); simpa [Nat.add_assoc,Nat.add_comm 1 j] using this) hrn (fun j hj=>?_)
     have:=ht (j + 1) (by simpa using hj)
     rw [show k + 1 + j=k + (j + 1) from by omega,this]
     simp
theorem sim_draw (henv:EnvOK Γ.P env) {id:Nat} (hmix:Γ.P.follows .mixedOrders=true) (hok:∀ o ∈ ops.toList,opOK Γ.P Γ.n o=true) (hd:drawOK ops=true) {s sf:St} {tr:Trace} (hrun:aRun (TI.of Γ.P) env ops ops.toList s=.done sf tr) (htr:okDraw ops tr=true)
  {Q:Exit->Act->World->Prop} (hQ:∀ μ a w,Rel Γ sf μ a w->Q .normal a w) {μ:Lay} {a:Act} {w:World} (h:Rel Γ s μ a w):(Code.region id ops true).wp Γ.P Q a w:=by
 refine wp_region_any hmix ?_
 have hok':∀ (i:Nat) (o:Oper),ops[i]?=some o->opOK Γ.P Γ.n o=true:=fun i o ho=>hok o (by have:=Array.mem_of_getElem? ho; simpa using this)
 have hdrew:Rel Γ s μ a { w with drawn:=w.drawn + 1 }:=h.grow ⟨rfl,rfl,rfl,Nat.le_refl _,fun _ _=>rfl⟩ (NF.heap rfl)
 have hir:=aRun_iRun (τ:=fun i=>tr.getD i ([],[])) ops.toList 0 s sf tr (fun j=>by simp) hrun (fun j _=>by simp)
 rw [Array.length_toList,<-List.range_eq_range'] at hir
 have:=any_order (Q:=Q) henv hok' hd (τ:=fun i=>tr.getD i ([],[])) (fun i j oi oj hij hoi hoj hb=>?_) hQ ops.size (List.range ops.size) (Array.replicate ops.size false) s μ a _ (by simp) hdrew (by simp) ?_ ?_ hir
 · exact this
 ·
  simp only [okDraw,Bool.or_eq_true] at htr
  rcases htr with htr | htr
  ·
   have he:∀ k,(tr.getD k ([],[])).1.isEmpty=true:=by
    intro k
    rw [List.getD_eq_getElem?_getD]
    cases hk:tr[k]? with
    | none=>rfl
    | some x=>exact List.all_eq_true.1 htr x (List.mem_of_getElem? hk)
   simp only [pairOK,he i,he j]
   rfl
  ·
   by_cases hp1:pureOp oi.op=true
   · simp [pairOK,hp1]
   ·
    by_cases hp2:pureOp oj.op=true
    · simp [pairOK,hp2]
    ·
     have hjl:=(Array.getElem?_eq_some_iff.1 hoj).1
     have hmem:(i,j) ∈ loosePairs ops:=by
      simp only [loosePairs,List.mem_flatMap,List.mem_filterMap,List.mem_range]
      refine ⟨j,hjl,i,hij,?_⟩
      rw [hoi,hoj]
      simp only []
      rw [if_neg (by rw [hb]; simp [hp1,hp2])]
     have:=List.all_eq_true.1 htr _ hmem
     simp only [hoi,hoj] at this
     exact this
 ·
  symm
  apply List.filter_eq_self.2
  intro i hi
  rw [List.mem_range] at hi
  simp [Array.getD_eq_getD_getElem?,hi]
 ·
  intro i o ho hl
  have:=(Array.getElem?_eq_some_iff.1 ho).1
  simp [Array.getD_eq_getD_getElem?,this] at hl
end
def codeOK (P:Program) (n:Nat):Code->Bool
 | .skip | .exit _ | .ret | .label _ | .goto _=>true
 | .scope a=>codeOK P n a
 | .region _ ops d=>ops.toList.all (opOK P n) && (!d || (drawOK ops && P.follows .mixedOrders))
 | .seq a b=>codeOK P n a && codeOK P n b
 | .cond _ a b=>codeOK P n a && codeOK P n b
 | .block _ a=>codeOK P n a
 | .loop a=>codeOK P n a
 | .rangeFunc _ ps a b=>ps.toList.all (fun p=>decide (p < n)) && codeOK P n a && codeOK P n b
 | _=>false
def liftX (Γ:Ctx) (Q:X->St->Prop):Exit->Act->World->Prop
 | .normal,a,w=>∃ s μ,Rel Γ s μ a w/\Q .normal s
 | .exit i,a,w=>∃ s μ,Rel Γ s μ a w/\Q (.exit i) s
 | .ret,a,w=>∃ s μ,Rel Γ s μ a w/\Q .ret s
 | .panic ch,a,w=>∃ s μ v x,ch=[{ v:=x,recovered:=false }]/\Rel Γ s μ a w/\Rep w (forb Γ.Mx μ s.H) μ s.H v x/\Q (.pan v) s
 | _,_,_=>False
def awp (Γ:Ctx) (env:Env) (c:Code) (Q:X->St->Prop) (s:St):Prop:=
 EnvOK Γ.P env->codeOK Γ.P Γ.n c=true->∀ μ a w,Rel Γ s μ a w->c.wp Γ.P (liftX Γ Q) a w
section
variable {Γ:Ctx} {env:Env} {Q:X->St->Prop} {s:St}
theorem aK_ (h:Q .normal s):awp Γ env .skip Q s:=fun _ _ μ a w hR=>wp_skip ⟨s,μ,hR,h⟩
theorem aX_ {i:Nat} (h:Q (.exit i) s):awp Γ env (.exit i) Q s:=fun _ _ μ a w hR=>wp_exit ⟨s,μ,hR,h⟩
theorem aE_ (h:Q .ret s):awp Γ env .ret Q s:=fun _ _ μ a w hR=>wp_ret ⟨s,μ,hR,h⟩
theorem awp_seq' {a b:Code} (h:awp Γ env a (thenX (awp Γ env b Q) Q) s):awp Γ env (.seq a b) Q s:=by
 intro henv hok μ ac w hR
 simp only [codeOK,Bool.and_eq_true] at hok
 refine wp_seq (Code.wp_mono ?_ (h henv hok.1 μ ac w hR))
 intro e a' w' he
 cases e with
 | normal=>obtain ⟨s',μ',h1,h2⟩:=he; exact h2 henv hok.2 μ' a' w' h1
 | exit i=>exact he
 | ret=>exact he
 | panic ch=>exact he
 | goto l=>exact he
 | outgrown=>exact he
theorem aS_ {a b:Code} (h:∀ K:St->Prop,(∀ s,awp Γ env b Q s->K s)->awp Γ env a (thenX K Q) s):awp Γ env (.seq a b) Q s:=awp_seq' (h _ fun _ h=>h)
theorem aC_ {c:Operand} {x y:Code} {t:Bool} (hc:eva s.t c=.bool t) (h1:t=true->awp Γ env x Q s) (h2:t=false->awp Γ env y Q s):awp Γ env (.cond c x y) Q s:=by
 intro henv hok μ a w hR
 simp only [codeOK,Bool.and_eq_true] at hok
 have hv:=eva_rep hR c
 rw [hc] at hv
 exact wp_cond_split hv.bool_inv (fun ht=>h1 ht henv hok.1 μ a w hR) (fun ht=>h2 ht henv hok.2 μ a w hR)
theorem aB_ {id:Nat} {c:Code} (h:awp Γ env c (blockX id Q) s):awp Γ env (.block id c) Q s:=by
 intro henv hok μ a w hR
 refine wp_block (Code.wp_mono ?_ (h henv hok μ a w hR))
 intro e a' w' he
 cases e with
 | normal=>exact he
 | exit i=>
  obtain ⟨s',μ',h1,h2⟩:=he
  simp only [blockX] at h2
  simp only [Exit.inBlock]
  split at h2
  · rename_i hi; rw [if_pos hi]; exact ⟨s',μ',h1,h2⟩
  · rename_i hi; rw [if_neg hi]; exact ⟨s',μ',h1,h2⟩
 | ret=>exact he
 | panic ch=>exact he
 | goto l=>exact he
 | outgrown=>exact he
def opsK (Γ:Ctx) (env:Env) (ops:Array Oper) (l:List Oper) (s:St) (K:St->Trace->Prop) (Q:X->St->Prop):Prop:=runK K Q (aRun (TI.of Γ.P) env ops l s)
theorem aR_ {id:Nat} {l:List Oper} (h:opsK Γ env l.toArray l s (fun s' _=>Q .normal s') Q):awp Γ env (.region id l.toArray false) Q s:=by
 intro henv hok μ a w hR
 simp only [codeOK,Bool.and_eq_true] at hok
 refine wp_region_list ?_
 refine sim_list henv l s μ a w (fun o ho=>List.all_eq_true.1 hok.1 o (by simpa using ho)) hR ?_
 unfold opsK runK at h
 unfold RunK
 split at h
 · rename_i s' tr hr; rw [hr]; exact fun μ' a' w' hR'=>⟨s',μ',hR',h⟩
 · rename_i s' v hr; rw [hr]; exact fun x μ' a' w' hR' hx=>⟨s',μ',v,x,rfl,hR',hx,h⟩
 · exact h.elim
theorem aD_ {id:Nat} {l:List Oper} (h:opsK Γ env l.toArray l s (fun s' tr=>okDraw l.toArray tr=true/\Q .normal s') (fun _ _=>False)):awp Γ env (.region id l.toArray true) Q s:=by
 intro henv hok μ a w hR
 simp only [codeOK,Bool.and_eq_true,Bool.not_true,Bool.false_or] at hok
 unfold opsK runK at h
 split at h
 ·
  rename_i s' tr hr
  exact sim_draw henv hok.2.2 (fun o ho=>List.all_eq_true.1 hok.1 o ho) hok.2.1 (tr:=tr) (by simpa using hr) h.1 (fun μ' a' w' hR'=>⟨s',μ',hR',h.2⟩) hR
 · exact h.elim
 · exact h.elim
theorem oN_ {ops:Array Oper} {K} (h:K s []):opsK Γ env ops [] s K Q:=h
def stepK (K:St->List Bid->List Bid->Prop) (Q:X->St->Prop):Option Out->Prop
 | some ⟨s,c,f,none⟩=>K s c f
 | some ⟨s,_,_,some v⟩=>Q (.pan v) s
 | none=>False
theorem oC_ {ops:Array Oper} {o:Oper} {l:List Oper} {K} (h:∀ K':St->List Bid->List Bid->Prop,(∀ s c f,opsK Γ env ops l s (fun s' tr=>K s' ((c,f) :: tr)) Q->K' s c f)->stepK K' Q (aStep (TI.of Γ.P) env ops o s)):opsK Γ env ops (o :: l) s K Q:=by
 have:=h (fun s c f=>opsK Γ env ops l s (fun s' tr=>K s' ((c,f) :: tr)) Q) (fun _ _ _ h=>h)
 unfold opsK aRun
 revert this
 cases aStep (TI.of Γ.P) env ops o s with
 | none=>intro h; exact h
 | some x=>
  obtain ⟨s',c,f,pan⟩:=x
  cases pan with
  | some v=>intro h; exact h
  | none=>
   simp only [stepK,opsK]
   cases aRun (TI.of Γ.P) env ops l s' with
   | done s'' tr=>intro h; exact h
   | pan s'' v=>intro h; exact h
   | bad=>intro h; exact h
theorem aQ_ {id:Nat} {l:List Oper} {b:Code} (h:opsK Γ env l.toArray l s (fun s' _=>awp Γ env b Q s') Q):awp Γ env (.seq (.region id l.toArray false) b) Q s:=by
 refine awp_seq' (aR_ ?_)
 unfold opsK runK at h ⊢
 revert h
 split <;> exact fun h=>h
theorem aU_ {id:Nat} {l:List Oper} {b:Code} (h:opsK Γ env l.toArray l s (fun s' tr=>okDraw l.toArray tr=true/\awp Γ env b Q s') (fun _ _=>False)):awp Γ env (.seq (.region id l.toArray true) b) Q s:=awp_seq' (aD_ h)
def Weak (Γ:Ctx) (s' s:St):Prop:=∀ μ a w,Rel Γ s μ a w->∃ μ',Rel Γ s' μ' a w
theorem Weak.refl (s:St):Weak Γ s s:=fun μ a w h=>⟨μ,h⟩
theorem aW_ {c:Code} {s':St} (hw:Weak Γ s' s) (h:awp Γ env c Q s'):awp Γ env c Q s:=fun henv hok μ a w hR=>by
 obtain ⟨μ',hR'⟩:=hw μ a w hR
 exact h henv hok μ' a w hR'
theorem least {p:Nat->Prop} (h:∃ n,p n):∃ n,p n/\∀ k,p k->n<=k:=by
 obtain ⟨n,hn⟩:=h
 induction n using Nat.strongRecOn with
 | _ n ih=>
  by_cases h':∃ k,p k/\k < n
  · obtain ⟨k,hk,hlt⟩:=h'; exact ih k hlt hk
  · exact ⟨n,hn,fun k hk=>Nat.le_of_not_lt fun hlt=>h' ⟨k,hk,hlt⟩⟩
theorem aL_ {ι:Type} {body:Code} (I:ι->St) (m:ι->Nat) (i0:ι) (h0:Weak Γ (I i0) s) (hr:∀ i,awp Γ env body (thenX (fun s'=>∃ j,Weak Γ (I j) s'/\m j < m i) Q) (I i)):awp Γ env (.loop body) Q s:=by
 intro henv hok μ a w hR
 have hdec:∀ (a:Act) (w:World),(∃ i μ,Rel Γ (I i) μ a w)->∃ n,(∃ i μ,Rel Γ (I i) μ a w/\m i=n):=fun a w ⟨i,μ,h⟩=>⟨m i,i,μ,h,rfl⟩
 classical
 let meas:Act->World->Nat:=fun a w=>if h:∃ n,(∃ i μ,Rel Γ (I i) μ a w/\m i=n) then Classical.choose (least h) else 0
 obtain ⟨μ0,hR0⟩:=h0 μ a w hR
 refine wp_loop (fun a w=>∃ i μ,Rel Γ (I i) μ a w) meas ⟨i0,μ0,hR0⟩ ?_
 intro a' w' hI
 have hex:=hdec a' w' hI
 have hfind:=(Classical.choose_spec (least hex)).1
 obtain ⟨i,μ',hRi,hmi⟩:=hfind
 have hmeas:meas a' w'=m i:=by simp only [meas,dif_pos hex,hmi]
 refine Code.wp_mono ?_ (hr i henv hok μ' a' w' hRi)
 intro e a'' w'' he
 cases e with
 | normal=>
  obtain ⟨s',μ'',h1,j,h2,h3⟩:=he
  obtain ⟨μ3,h4⟩:=h2 μ'' a'' w'' h1
  refine ⟨⟨j,μ3,h4⟩,?_⟩
  have hex2:∃ n,(∃ i μ,Rel Γ (I i) μ a'' w''/\m i=n):=⟨m j,j,μ3,h4,rfl⟩
  have:meas a'' w''<=m j:=by
   simp only [meas,dif_pos hex2]
   exact (Classical.choose_spec (least hex2)).2 _ ⟨j,μ3,h4,rfl⟩
  omega
 | exit i=>exact he
 | ret=>exact he
 | panic ch=>exact he
 | goto l=>exact he
 | outgrown=>exact he
end
abbrev Ren:=List (Bid × Option Bid)
def isObj:Option Box->Bool
 | some (.obj _)=>true
 | _=>false
def objCs:Option Box->Option (List AV)
 | some (.obj cs)=>some cs
 | _=>none
def dropped (ρ:Ren) (b:Bid):Prop:=∀ p ∈ ρ,p.2 ≠ some b
def rowS (l n:Nat):Option Box->Option (Nat × List (List AV))
 | some (.row _ sz L _)=>some (sz,(L.drop l).take n)
 | _=>none
def le (H0 H:Heap) (ρ:Ren):AV->AV->Prop
 | .u,_=>True
 | .own b' n,.own b m=>ρ.lookup b'=some (some b)/\n=m/\isRow (H b')=true
 | .own b' n,.nils=>ρ.lookup b'=some none/\n=0/\isRow (H b')=true
 | .sl _ L,.nils=>L=[]
 | .ows b' l n,.ows b l' m=>ρ.lookup b'=some (some b)/\l=l'/\n=m/\isRow (H b')=true
 | .sl k L,.ows b l n=>rowS l n (H0 b)=some (k,L)/\dropped ρ b
 | .sl k L,.own b n=>rowOf n (H0 b)=some (k,L)/\dropped ρ b
 | .ref b' o,.ref b p=>ρ.lookup b'=some (some b)/\o=p/\isObj (H b')=true
 | .pt b' k n,.pt b l m=>ρ.lookup b'=some (some b)/\k=l/\n=m/\isObj (H b')=true
 | .iref cs o,.ref b p=>objCs (H0 b)=some cs/\o=p/\cs.map leafV=cs/\dropped ρ b
 | .agg cs,.agg ds=>leC H0 H ρ cs ds
 | .fn f cs,.fn g ds=>f=g/\leC H0 H ρ cs ds
 | .ifc t x,.ifc t' y=>t=t'/\le H0 H ρ x y
 | .iref cs o,v=>v=.iref cs o
 | .ub,v=>v=.ub
 | .mpv g es c,v=>v=.mpv g es c
 | .int k n,v=>v=.int k n
 | .bool b,v=>v=.bool b
 | .str b,v=>v=.str b
 | .nils,v=>v=.nils
 | .sl k L,v=>v=.sl k L
 | .nilp,v=>v=.nilp
 | .nili,v=>v=.nili
 | _,_=>False
where
 leC (H0 H:Heap) (ρ:Ren):List AV->List AV->Prop
 | [],[]=>True
 | a :: l,b :: m=>le H0 H ρ a b/\leC H0 H ρ l m
 | _,_=>False
theorem leC_at {H0 H:Heap} {ρ:Ren}:∀ (l m:List AV),le.leC H0 H ρ l m->l.length=m.length/\∀ (i:Nat) (a:AV),l[i]?=some a->∃ b,m[i]?=some b/\le H0 H ρ a b
 | [],[],_=>⟨rfl,fun i a h=>by simp at h⟩
 | a :: l,b :: m,h=>by
  simp only [le.leC] at h
  obtain ⟨h1,h2⟩:=leC_at l m h.2
  refine ⟨by simp [h1],fun i c hc=>?_⟩
  cases i with
  | zero=>simp at hc; subst hc; exact ⟨b,by simp,h.1⟩
  | succ i=>simp at hc ⊢; exact h2 i c hc
 | [],_ :: _,h=>by simp [le.leC] at h
 | _ :: _,[],h=>by simp [le.leC] at h
def le0:AV->AV->Prop
 | .sl k L,v=>v=.sl k L\/(L=[]/\v=.nils)
 | x,v=>v=x
def leRow:List AV->List AV->Prop
 | [],[]=>True
 | x :: l,y :: m=>le0 x y/\leRow l m
 | _,_=>False
def leRows:List (List AV)->List (List AV)->Prop
 | [],[]=>True
 | x :: l,y :: m=>leRow x y/\leRows l m
 | _,_=>False
theorem leRow_at:∀ {l m:List AV},leRow l m->l.length=m.length/\∀ (i:Nat) (x:AV),l[i]?=some x->∃ y,m[i]?=some y/\le0 x y
 | [],[],_=>⟨rfl,fun i x h=>by simp at h⟩
 | x :: l,y :: m,h=>by
  simp only [leRow] at h
  obtain ⟨h1,h2⟩:=leRow_at h.2
  refine ⟨by simp [h1],fun i z hz=>?_⟩
  cases i with
  | zero=>simp at hz; subst hz; exact ⟨y,by simp,h.1⟩
  | succ i=>simp at hz ⊢; exact h2 i z hz
 | [],_ :: _,h=>by simp [leRow] at h
 | _ :: _,[],h=>by simp [leRow] at h
theorem leRows_at:∀ {l m:List (List AV)},leRows l m->l.length=m.length/\∀ (i:Nat) (x:List AV),l[i]?=some x->∃ y,m[i]?=some y/\leRow x y
 | [],[],_=>⟨rfl,fun i x h=>by simp at h⟩
 | x :: l,y :: m,h=>by
  simp only [leRows] at h
  obtain ⟨h1,h2⟩:=leRows_at h.2
  refine ⟨by simp [h1],fun i z hz=>?_⟩
  cases i with
  | zero=>simp at hz; subst hz; exact ⟨y,by simp,h.1⟩
  | succ i=>simp at hz ⊢; exact h2 i z hz
 | [],_ :: _,h=>by simp [leRows] at h
 | _ :: _,[],h=>by simp [leRows] at h
theorem le0_refl (x:AV):le0 x x:=by cases x <;> simp [le0]
theorem leRow_refl:∀ l,leRow l l
 | []=>trivial
 | x :: l=>⟨le0_refl x,leRow_refl l⟩
theorem leRows_refl:∀ L,leRows L L
 | []=>trivial
 | x :: l=>⟨leRow_refl x,leRows_refl l⟩
theorem le0_rep {w:World} {M M':Nat->Prop} {μ μ':Lay} {x y:AV} {v:Value} (hle:le0 x y) (h:Rep w M μ noH y v) (hM:∀ g,¬ M g->¬ M' g):Rep w M' μ' noH x v:=by
 have key:Rep w M' μ' noH y v:=h.mono (fun g _ hg=>⟨hM g hg,rfl⟩) (HLe.refl _) (fun b hb=>absurd rfl hb)
 cases x with
 | sl k L=>
  simp only [le0] at hle
  rcases hle with rfl | ⟨rfl,rfl⟩
  · exact key
  · cases key; exact .sl _ _ _ none 0 (fun _ _=>undef) (Nat.le_refl _) (Nat.zero_le _) (by simp) (by simp) (by simp)
 | _=>simp only [le0] at hle; subst hle; exact key
def leB (H0 H:Heap) (ρ:Ren):Box->Box->Prop
 | .obj cs,.obj ds=>le.leC H0 H ρ cs ds
 | .row e sz L z,.row e' sz' L' z'=>e=e'/\sz=sz'/\leRows L L'/\(z=false->z'=false)
 | .dead,.row _ _ _ _=>True
 | .dead,.dead=>True
 | _,_=>False
def boxOK (H':Heap) (ρ:Ren) (H:Heap) (b':Bid) (x:Box):Prop:=match ρ.lookup b' with
 | some (some b)=>match H b with
  | some y=>leB H H' ρ x y
  | none=>False
 | some none=>match x with
  | .row _ sz L _=>0 < sz/\L=[]
  | _=>False
 | none=>x=.dead
theorem live_hot {x:Box} (h:x.hot=true):x.live=true:=by cases x <;> first | rfl | cases h
theorem live_row {x:Box} (h:isRow (some x)=true):x.live=true:=by cases x <;> first | rfl | cases h
theorem live_obj {x:Box} (h:isObj (some x)=true):x.live=true:=by cases x <;> first | rfl | cases h
def boxesOK (H':Heap) (ρ:Ren) (H:Heap):List (Bid × Box)->Prop
 | []=>True
 | (b,x) :: l=>boxOK H' ρ H b x/\boxesOK H' ρ H l
def tmpsOK (H0 H':Heap) (ρ:Ren) (t:Nat->AV):List (Nat × AV)->Prop
 | []=>True
 | (i,v) :: l=>le H0 H' ρ v (t i)/\tmpsOK H0 H' ρ t l
def renOK:Ren->Prop
 | []=>True
 | (b',none) :: l=>b'.1 ≠ 1/\renOK l
 | (b',some b) :: l=>(∀ p ∈ l,p.2 ≠ some b)/\(b'.1=1->b=b')/\renOK l
theorem lookup_mem {β:Type} {b':Bid} {x:β}:∀ {l:List (Bid × β)},l.lookup b'=some x->(b',x) ∈ l
 | [],h=>by simp at h
 | (q,y) :: l,h=>by
  simp only [List.lookup] at h
  split at h
  ·
   rename_i he
   have:b'=q:=by simpa using he
   cases h; subst this; simp
  · exact List.mem_cons_of_mem _ (lookup_mem h)
theorem ren_pin:∀ {ρ:Ren},renOK ρ->∀ i o,((1,i),o) ∈ ρ->o=some (1,i)
 | (b',none) :: l,h,i,o,hm=>by
  simp only [renOK] at h
  rcases List.mem_cons.1 hm with e | hm
  · cases e; exact absurd rfl h.1
  · exact ren_pin h.2 i o hm
 | (b',some b) :: l,h,i,o,hm=>by
  simp only [renOK] at h
  rcases List.mem_cons.1 hm with e | hm
  · cases e; rw [h.2.1 rfl]
  · exact ren_pin h.2.2 i o hm
theorem ren_inj:∀ {ρ:Ren},renOK ρ->∀ b1 b2 b,ρ.lookup b1=some (some b)->ρ.lookup b2=some (some b)->b1=b2
 | [],_,_,_,_,h,_=>by simp at h
 | (c,o) :: l,hr,b1,b2,b,h1,h2=>by
  have tail:renOK l:=by cases o <;> simp only [renOK] at hr; exact hr.2; exact hr.2.2
  have mem:∀ (b':Bid) (x:Option Bid),l.lookup b'=some x->(b',x) ∈ l:=by
   intro b' x h
   clear h1 h2 hr tail
   induction l with
   | nil=>simp at h
   | cons p l ih=>
    obtain ⟨q,y⟩:=p
    simp only [List.lookup] at h
    split at h
    ·
     rename_i he; have:b'=q:=by simpa using he
     cases h; subst this; simp
    · exact List.mem_cons_of_mem _ (ih h)
  simp only [List.lookup] at h1 h2
  split at h1 <;> split at h2
  ·
   have e1:b1=c:=by simpa using ‹(b1 == c)=true›
   have e2:b2=c:=by simpa using ‹(b2 == c)=true›
   rw [e1,e2]
  ·
   cases h1
   simp only [renOK] at hr
   exact absurd rfl (hr.1 _ (mem _ _ h2))
  ·
   cases h2
   simp only [renOK] at hr
   exact absurd rfl (hr.1 _ (mem _ _ h1))
  · exact ren_inj tail b1 b2 b h1 h2
theorem hOf_mem {l:List (Bid × Box)} {b:Bid} {x:Box} (h:hOf l b=some x):(b,x) ∈ l:=by
 induction l with
 | nil=>cases h
 | cons p l ih=>
  obtain ⟨b',y⟩:=p
  simp only [hOf,hput] at h
  split at h
  · rename_i e; cases h; rw [e]; simp
  · exact List.mem_cons_of_mem _ (ih h)
theorem boxesOK_mem {H':Heap} {ρ:Ren} {H:Heap}:∀ {l:List (Bid × Box)},boxesOK H' ρ H l->∀ b x,(b,x) ∈ l->boxOK H' ρ H b x
 | (c,y) :: l,h,b,x,hm=>by
  simp only [boxesOK] at h
  rcases List.mem_cons.1 hm with e | hm
  · cases e; exact h.1
  · exact boxesOK_mem h.2 b x hm
def renLay (ρ:Ren) (μ:Lay):Lay:=fun b=>match ρ.lookup b with
 | some (some c)=>μ c
 | _=>none
section
variable {Γ:Ctx} {s:St} {μ:Lay} {a:Act} {w:World}
theorem retellP (h:Rel Γ s μ a w) {pin2:Nat->Option (Nat × Nat)} (hio:∀ i g c,pin2 i=some (g,c)->Γ.io g\/Γ.w0.heap.size<=g) (hoi:∀ g,Γ.io g->∃ i c,pin2 i=some (g,c)) {hl:List (Bid × Box)} (ρ:Ren)
  (hinj:∀ b1 b2 b,ρ.lookup b1=some (some b)->ρ.lookup b2=some (some b)->b1=b2) (hb:boxesOK (hOf hl) ρ s.H hl) (hpn:∀ i x,hOf hl (1,i)=some x->x.live=true->renLay ρ μ (1,i)=pin2 i):Mem { Γ with pin:=pin2 } (hOf hl) (renLay ρ μ) w /\
  ∀ (v:AV) (x:Value),Rep w (forb Γ.Mx μ s.H) μ s.H v x->∀ v',le s.H (hOf hl) ρ v' v->Rep w (forb Γ.Mx (renLay ρ μ) (hOf hl)) (renLay ρ μ) (hOf hl) v' x:=by
 have hbox:∀ b' x,hOf hl b'=some x->boxOK (hOf hl) ρ s.H b' x:=fun b' x hx=>boxesOK_mem hb b' x (hOf_mem hx)
 have hold:∀ b' x,hOf hl b'=some x->x.live=true->(∃ b y,ρ.lookup b'=some (some b)/\s.H b=some y/\leB s.H (hOf hl) ρ x y/\renLay ρ μ b'=μ b)\/(ρ.lookup b'=some none/\renLay ρ μ b'=none/\∃ e sz z,x=.row e sz [] z/\0 < sz):=by
  intro b' x hx hlv
  have:=hbox b' x hx
  unfold boxOK at this
  unfold renLay
  cases hr:ρ.lookup b' with
  | none=>rw [hr] at this; simp only at this; rw [this] at hlv; cases hlv
  | some o=>
   cases o with
   | none=>
    rw [hr] at this
    simp only at this
    cases x with
    | row e sz L z=>obtain ⟨h1,rfl⟩:=this; exact .inr ⟨rfl,rfl,e,sz,z,rfl,h1⟩
    | _=>exact this.elim
   | some b=>
    rw [hr] at this
    simp only at this
    cases hs:s.H b with
    | none=>rw [hs] at this; exact this.elim
    | some y=>rw [hs] at this; exact .inl ⟨b,y,rfl,rfl.trans hs,this,rfl⟩
 have hhot:∀ {x y},leB s.H (hOf hl) ρ x y->(x.hot=true->y.hot=true)/\(x.live=true->y.live=true):=by
  intro x y hxy
  cases x with
  | obj cs=>cases y <;> simp only [leB] at hxy; exact ⟨fun h=>h,fun h=>h⟩
  | dead=>exact ⟨fun h=>(by cases h),fun h=>(by cases h)⟩
  | row e sz L z=>
   cases y <;> simp only [leB] at hxy
   obtain ⟨_,_,_,hz⟩:=hxy
   refine ⟨fun h=>?_,fun h=>rfl⟩
   cases z with
   | true=>cases h
   | false=>rw [hz rfl]; rfl
 have hforb:∀ g,¬ forb Γ.Mx μ s.H g->¬ forb Γ.Mx (renLay ρ μ) (hOf hl) g:=by
  rintro g hg (hx | ⟨b',x,c,q1,q2,q3⟩)
  · exact hg (.inl hx)
  ·
   rcases hold b' x q1 (live_hot q2) with ⟨b,y,r1,r2,r3,r4⟩ | ⟨_,r1,_⟩
   ·
    rw [r4] at q3
    exact hg (.inr ⟨b,y,c,r2,(hhot r3).1 q2,q3⟩)
   · rw [r1] at q3; cases q3
 have hrep:∀ {v:AV} {x:Value} {H:Heap},Rep w (forb Γ.Mx μ s.H) μ H v x->H=s.H->∀ v',le s.H (hOf hl) ρ v' v->Rep w (forb Γ.Mx (renLay ρ μ) (hOf hl)) (renLay ρ μ) (hOf hl) v' x:=by
  intro v x H hx
  induction hx with
  | u H v=>intro hH v' hle; cases v' <;> simp [le] at hle; exact .u _ _
  | int H k n=>intro hH v' hle; cases v' <;> simp [le] at hle <;> first | exact .u _ _ | (obtain ⟨rfl,rfl⟩:=hle; exact .int _ _ _)
  | bool H b=>intro hH v' hle; cases v' <;> simp [le] at hle <;> first | exact .u _ _ | (subst hle; exact .bool _ _)
  | str H b=>intro hH v' hle; cases v' <;> simp [le] at hle <;> first | exact .u _ _ | (subst hle; exact .str _ _)
  | nilp H=>intro hH v' hle; cases v' <;> simp [le] at hle <;> first | exact .u _ _ | exact .nilp _
  | nili H=>intro hH v' hle; cases v' <;> simp [le] at hle <;> first | exact .u _ _ | exact .nili _
  | yl H l=>intro hH v' hle; cases v' <;> simp [le] at hle <;> exact .u _ _
  | ub H b=>intro hH v' hle; cases v' <;> simp [le] at hle <;> first | exact .u _ _ | exact .ub _ _
  | nils H=>
   intro hH v' hle
   cases v' with
   | own b' n=>
    simp only [le] at hle
    obtain ⟨h1,rfl,h3⟩:=hle
    cases hq:hOf hl b' with
    | none=>rw [hq] at h3; simp [isRow] at h3
    | some x=>
     rcases hold b' x hq (live_row (by rw [hq] at h3; exact h3)) with ⟨b,y,r1,_⟩ | ⟨_,r1,e,sz,z,rfl,_⟩
     · rw [h1] at r1; cases r1
     ·
      have:=@Rep.own w (forb Γ.Mx (renLay ρ μ) (hOf hl)) (renLay ρ μ) (hOf hl) b' 0 _ _ _ _ hq (Nat.zero_le _)
      rw [r1] at this
      exact this
   | sl k L=>simp only [le] at hle; subst hle; exact .sl _ _ _ none 0 (fun _ _=>undef) (Nat.le_refl _) (Nat.zero_le _) (by simp) (by simp) (by simp)
   | u=>exact .u _ _
   | nils=>exact .nils _
   | _=>simp [le] at hle
  | sl H k L a c f hc hm hk hv hr ih=>
   intro hH v' hle
   have key:Rep w (forb Γ.Mx (renLay ρ μ) (hOf hl)) (renLay ρ μ) (hOf hl) (.sl k L) (.slice a L.length c):=
    .sl _ _ _ _ _ f hc hm hk (fun i j hi hj=>(hv i j hi hj).mono fun g _ hg=>⟨hforb g hg,rfl⟩) fun i j cs x hi hj=>(hr i j cs x hi hj).mono (fun g _ hg=>⟨hforb g hg,rfl⟩) (HLe.refl _) (fun b hb=>absurd rfl hb)
   cases v' <;> simp [le] at hle <;> first | exact .u _ _ | (obtain ⟨rfl,rfl⟩:=hle; exact key)
  | agg H cs vs f hs hv hr ih=>
   intro hH v' hle
   cases v' with
   | agg ds=>
    simp only [le] at hle
    obtain ⟨l1,l2⟩:=leC_at _ _ hle
    refine .agg _ _ _ f (by rw [l1]; exact hs) (fun i hi=>hv i (by omega)) fun i c hc=>?_
    obtain ⟨d,hd1,hd2⟩:=l2 i c hc
    exact ih i d hd1 hH c hd2
   | u=>exact .u _ _
   | _=>simp [le] at hle
  | own H b n e sz L z hH hn=>
   intro hH' v' hle
   subst hH'
   cases v' with
   | own b' m=>
    simp only [le] at hle
    obtain ⟨h1,rfl,h3⟩:=hle
    cases hq:hOf hl b' with
    | none=>rw [hq] at h3; simp [isRow] at h3
    | some x=>
     rcases hold b' x hq (live_row (by rw [hq] at h3; exact h3)) with ⟨b0,y,r1,r2,r3,r4⟩ | ⟨r1,_⟩
     ·
      rw [h1] at r1; cases r1
      rw [hH] at r2; cases r2
      cases x with
      | obj cs=>simp only [leB] at r3
      | dead=>rw [hq] at h3; cases h3
      | row e1 sz1 L1 z1=>
       simp only [leB] at r3
       obtain ⟨rfl,rfl,rl,_⟩:=r3
       rw [<-r4]
       exact .own _ _ _ _ _ _ _ hq (by rw [(leRows_at rl).1]; exact hn)
     · rw [h1] at r1; cases r1
   | sl k L'=>
    simp only [le,hH,rowOf,Option.some.injEq,Prod.mk.injEq] at hle
    obtain ⟨⟨rfl,rfl⟩,hdr⟩:=hle
    refine row_rep h hH hn hforb fun g c hg hF=>?_
    rcases hF with hx | ⟨b',x,c',q1,q2,q3⟩
    ·
     obtain ⟨h1,h2⟩:=h.hx g hx
     exact (h.hf b _ g c hH hg rfl).elim (fun h=>by omega) h2
    ·
     rcases hold b' x q1 (live_hot q2) with ⟨b0,y,r1,r2,r3,r4⟩ | ⟨_,r1,_⟩
     ·
      rw [r4] at q3
      have:=h.hi b0 b y _ g c' c r2 hH ((hhot r3).1 q2) rfl q3 hg
      subst this
      exact hdr _ (lookup_mem r1) rfl
     · rw [r1] at q3; cases q3
   | u=>exact .u _ _
   | _=>simp [le] at hle
  | ows H b l n e sz L z ad cp hH hn hcp hv=>
   intro hH' v' hle
   subst hH'
   cases v' with
   | ows b' l' m=>
    simp only [le] at hle
    obtain ⟨h1,rfl,rfl,h3⟩:=hle
    cases hq:hOf hl b' with
    | none=>rw [hq] at h3; simp [isRow] at h3
    | some x=>
     rcases hold b' x hq (live_row (by rw [hq] at h3; exact h3)) with ⟨b0,y,r1,r2,r3,r4⟩ | ⟨r1,_⟩
     ·
      rw [h1] at r1; cases r1
      rw [hH] at r2; cases r2
      cases x with
      | obj cs=>simp only [leB] at r3
      | dead=>rw [hq] at h3; cases h3
      | row e1 sz1 L1 z1=>
       simp only [leB] at r3
       obtain ⟨rfl,rfl,rl,_⟩:=r3
       exact .ows _ _ _ _ _ _ _ _ _ _ hq (by rw [(leRows_at rl).1]; exact hn) hcp (by rw [r4]; exact hv)
     · rw [h1] at r1; cases r1
   | sl k L'=>
    simp only [le,hH,rowS,Option.some.injEq,Prod.mk.injEq] at hle
    obtain ⟨⟨rfl,rfl⟩,hdr⟩:=hle
    refine ows_rep h hH hn hcp hv hforb fun g c hg hF=>?_
    rcases hF with hx | ⟨b',x,c',q1,q2,q3⟩
    ·
     obtain ⟨h1,h2⟩:=h.hx g hx
     exact (h.hf b _ g c hH hg rfl).elim (fun h=>by omega) h2
    ·
     rcases hold b' x q1 (live_hot q2) with ⟨b0,y,r1,r2,r3,r4⟩ | ⟨_,r1,_⟩
     ·
      rw [r4] at q3
      have:=h.hi b0 b y _ g c' c r2 hH ((hhot r3).1 q2) rfl q3 hg
      subst this
      exact hdr _ (lookup_mem r1) rfl
     · rw [r1] at q3; cases q3
   | u=>exact .u _ _
   | _=>simp [le] at hle
  | owsd H b l n v hH h1=>
   intro hH' v' hle
   subst hH'
   cases v' with
   | ows b' l' m=>
    simp only [le] at hle
    obtain ⟨h1,rfl,rfl,h3⟩:=hle
    cases hq:hOf hl b' with
    | none=>rw [hq] at h3; simp [isRow] at h3
    | some x=>
     rcases hold b' x hq (live_row (by rw [hq] at h3; exact h3)) with ⟨b0,y,r1,r2,r3,r4⟩ | ⟨r1,_⟩
     ·
      rw [h1] at r1; cases r1
      rw [hH] at r2; cases r2
      cases x <;> simp only [leB] at r3
      rw [hq] at h3; simp [isRow] at h3
     · rw [h1] at r1; cases r1
   | sl k L'=>simp [le,hH,rowS] at hle
   | u=>exact .u _ _
   | _=>simp [le] at hle
  | mpv H es clock g hM hg=>intro hH v' hle; cases v' <;> simp [le] at hle <;> first | exact .u _ _ | (obtain ⟨rfl,rfl,rfl⟩:=hle; exact .mpv _ _ _ _ (hforb g hM) hg)
  | ownd H b n v hH h1=>
   intro hH' v' hle
   subst hH'
   cases v' with
   | own b' m=>
    simp only [le] at hle
    obtain ⟨h1,rfl,h3⟩:=hle
    cases hq:hOf hl b' with
    | none=>rw [hq] at h3; simp [isRow] at h3
    | some x=>
     rcases hold b' x hq (live_row (by rw [hq] at h3; exact h3)) with ⟨b0,y,r1,r2,r3,r4⟩ | ⟨r1,_⟩
     ·
      rw [h1] at r1; cases r1
      rw [hH] at r2; cases r2
      cases x <;> simp only [leB] at r3
      rw [hq] at h3; simp [isRow] at h3
     · rw [h1] at r1; cases r1
   | sl k L'=>simp [le,hH,rowOf] at hle
   | u=>exact .u _ _
   | _=>simp [le] at hle
  | pt H b k n cs g c off m hH hμ hn hm=>
   intro hH' v' hle
   subst hH'
   cases v' with
   | pt b' k' n'=>
    simp only [le] at hle
    obtain ⟨h1,rfl,rfl,h3⟩:=hle
    cases hq:hOf hl b' with
    | none=>rw [hq] at h3; simp [isObj] at h3
    | some x=>
     rcases hold b' x hq (live_obj (by rw [hq] at h3; exact h3)) with ⟨b0,y,r1,r2,r3,r4⟩ | ⟨r1,_⟩
     ·
      rw [h1] at r1; cases r1
      rw [hH] at r2; cases r2
      cases x <;> simp only [leB] at r3
      exact .pt _ _ _ _ _ _ c _ _ hq (by rw [r4]; exact hμ) hn hm
     · rw [h1] at r1; cases r1
   | u=>exact .u _ _
   | _=>simp [le] at hle
  | ref H b o cs g c hH hμ=>
   intro hH' v' hle
   subst hH'
   cases v' with
   | ref b' m=>
    simp only [le] at hle
    obtain ⟨h1,rfl,h3⟩:=hle
    cases hq:hOf hl b' with
    | none=>rw [hq] at h3; simp [isObj] at h3
    | some x=>
     rcases hold b' x hq (live_obj (by rw [hq] at h3; exact h3)) with ⟨b0,y,r1,r2,r3,r4⟩ | ⟨r1,_⟩
     ·
      rw [h1] at r1; cases r1
      rw [hH] at r2; cases r2
      cases x <;> simp only [leB] at r3
      exact .ref _ _ _ _ _ c hq (by rw [r4]; exact hμ)
     · rw [h1] at r1; cases r1
   | iref cs' m=>
    simp only [le,hH,objCs,Option.some.injEq] at hle
    obtain ⟨rfl,rfl,hlf,hdr⟩:=hle
    obtain ⟨cur,e,k1,k2,k3⟩:=box_obj h hH hμ
    have hng:¬ forb Γ.Mx (renLay ρ μ) (hOf hl) g:=fun hF=>by
     rcases hF with hx | ⟨b',x,c',q1,q2,q3⟩
     ·
      obtain ⟨h1,h2⟩:=h.hx g hx
      exact (h.hf b _ g c hH hμ rfl).elim (fun h=>by omega) h2
     ·
      rcases hold b' x q1 (live_hot q2) with ⟨b0,y,r1,r2,r3,r4⟩ | ⟨_,r1,_⟩
      ·
       rw [r4] at q3
       have:=h.hi b0 b y _ g c' c r2 hH ((hhot r3).1 q2) rfl q3 hμ
       subst this
       exact hdr _ (lookup_mem r1) rfl
      · rw [r1] at q3; cases q3
    have:=@Rep.iref w (forb Γ.Mx (renLay ρ μ) (hOf hl)) (renLay ρ μ) (hOf hl) cs m g 0 (fun j=>(cur[j]?).getD undef) (fun j hj=>by
     obtain ⟨v,v1,v2,v3⟩:=k3 j cs[j] (List.getElem?_eq_getElem hj)
     exact ⟨g,0,rfl,hng,by rw [Nat.zero_add,cell_heap k1,v1]; rfl,by rw [v1]; exact v2⟩) (fun j x hj=>by
     obtain ⟨v,v1,v2,v3⟩:=k3 j x hj
     have hxl:leafV x=x:=by
      have:=congrArg (fun l=>l[j]?) hlf
      simp only [List.getElem?_map,hj,Option.map_some,Option.some.injEq] at this
      exact this
     rw [v1,<-hxl]
     exact leaf_rep v3 hforb)
    rw [Nat.zero_add] at this
    exact this
   | u=>exact .u _ _
   | _=>simp [le] at hle
  | fn H f caps vs g hs hv hr ih=>
   intro hH v' hle
   cases v' with
   | fn f' ds=>
    simp only [le] at hle
    obtain ⟨rfl,hle⟩:=hle
    obtain ⟨l1,l2⟩:=leC_at _ _ hle
    refine .fn _ _ _ _ g (by rw [l1]; exact hs) (fun i hi=>hv i (by omega)) fun i c hc=>?_
    obtain ⟨d,hd1,hd2⟩:=l2 i c hc
    exact ih i d hd1 hH c hd2
   | u=>exact .u _ _
   | _=>simp [le] at hle
  | eref=>intro hH v' hle; cases v' <;> simp [le] at hle; exact .u _ _
  | erefd=>intro hH v' hle; cases v' <;> simp [le] at hle; exact .u _ _
  | iref H cs o g off f hv hr ih=>
   intro hH v' hle
   have key:Rep w (forb Γ.Mx (renLay ρ μ) (hOf hl)) (renLay ρ μ) (hOf hl) (.iref cs o) (.pointer (some ⟨g,off + o,none⟩)):=
    .iref _ _ _ _ _ f (fun j hj=>(hv j hj).mono fun g _ hg=>⟨hforb g hg,rfl⟩) fun j x hj=>(hr j x hj).mono (fun g _ hg=>⟨hforb g hg,rfl⟩) (HLe.refl _) (fun b hb=>absurd rfl hb)
   cases v' <;> simp [le] at hle <;> first | exact .u _ _ | (obtain ⟨rfl,rfl⟩:=hle; exact key)
  | tup=>intro hH v' hle; cases v' <;> simp [le] at hle; exact .u _ _
  | ifc H t v x hr ih=>
   intro hH v' hle
   cases v' with
   | ifc t' y=>
    simp only [le] at hle
    obtain ⟨rfl,hle⟩:=hle
    exact .ifc _ _ _ _ (ih hH y hle)
   | u=>exact .u _ _
   | _=>simp [le] at hle
 refine ⟨⟨fun g hg=>⟨(h.hx g hg).1,fun ⟨i,c,hp⟩=>(hio i g c hp).elim (h.hx g hg).2 fun hle=>by have:=(h.hx g hg).1; omega⟩,fun b' x hx=>?_,?_,?_,⟨h.hw.os,h.hw.tape,h.hw.output,h.hw.size,fun k hk hn=>h.hw.block k hk fun hi=>hn (hoi k hi),h.hw.nf⟩,hpn⟩,fun v x hx v' hv=>hrep hx rfl v' hv⟩
 ·
  by_cases hxl:x.live=true
  case neg=>exact .inl (by cases x <;> first | rfl | exact absurd rfl hxl)
  rcases hold b' x hx hxl with ⟨b,y,r1,r2,r3,r4⟩ | ⟨_,r1,e,sz,z,rfl,hp⟩
  ·
   rcases h.hb b y r2 with rfl | ⟨g,c,cur,e,q1,q2,q3⟩ | ⟨q1,e,sz,z,rfl,q3⟩
   · cases x <;> simp only [leB] at r3; exact .inl rfl
   ·
    by_cases hxd:x=.dead
    · exact .inl hxd
    refine .inr (.inl ⟨g,c,cur,e,by rw [r4]; exact q1,q2,?_⟩)
    cases x <;> cases y <;> simp only [leB] at r3
    ·
     obtain ⟨l1,l2⟩:=leC_at _ _ r3
     refine ⟨by rw [l1]; exact q3.1,fun i c' hc=>?_⟩
     obtain ⟨d,hd1,hd2⟩:=l2 i c' hc
     obtain ⟨v,v1,v2,v3⟩:=q3.2 i d hd1
     exact ⟨v,v1,v2,hrep v3 rfl _ hd2⟩
    ·
     obtain ⟨rfl,rfl,rl,_⟩:=r3
     obtain ⟨p1,p2,p3,p4,p5,p6,p7⟩:=q3
     obtain ⟨l1,l2⟩:=leRows_at rl
     refine ⟨p1,p2,fun xs hxs=>?_,p4,by omega,p6,fun i j xs x' hi hj=>?_⟩
     ·
      obtain ⟨i,hi⟩:=List.mem_iff_getElem?.1 hxs
      obtain ⟨ys,hy,hl⟩:=l2 i xs hi
      rw [(leRow_at hl).1]
      exact p3 ys (List.mem_of_getElem? hy)
     ·
      obtain ⟨ys,hy,hl⟩:=l2 i xs hi
      obtain ⟨y',hy',hl'⟩:=(leRow_at hl).2 j x' hj
      obtain ⟨v,v1,v2,v3⟩:=p7 i j ys y' hy hy'
      exact ⟨v,v1,v2,le0_rep hl' v3 hforb⟩
    · exact absurd rfl hxd
    · exact absurd rfl hxd
   ·
    cases x <;> simp only [leB] at r3
    case dead=>exact .inl rfl
    obtain ⟨rfl,rfl,rl,_⟩:=r3
    have:=(leRows_at rl).1
    simp only [List.length_nil,List.length_eq_zero_iff] at this
    subst this
    exact .inr (.inr ⟨by rw [r4]; exact q1,_,_,_,rfl,q3⟩)
  · exact .inr (.inr ⟨r1,e,sz,z,rfl,hp⟩)
 ·
  intro b1 b2 x1 x2 g c1 c2 q1 q2 q3 q4 q5 q6
  rcases hold b1 x1 q1 (live_hot q3) with ⟨a1,y1,r1,r2,r3,r4⟩ | ⟨_,r1,_⟩
  ·
   rcases hold b2 x2 q2 q4 with ⟨a2,y2,t1,t2,t3,t4⟩ | ⟨_,t1,_⟩
   ·
    rw [r4] at q5
    rw [t4] at q6
    have:=h.hi a1 a2 y1 y2 g c1 c2 r2 t2 ((hhot r3).1 q3) ((hhot t3).2 q4) q5 q6
    subst this
    exact hinj b1 b2 a1 r1 t1
   · rw [t1] at q6; cases q6
  · rw [r1] at q5; cases q5
 ·
  intro b' x g c q1 q2 q3
  rcases hold b' x q1 q3 with ⟨b,y,r1,r2,r3,r4⟩ | ⟨_,r1,_⟩
  ·
   rw [r4] at q2
   exact (h.hf b y g c r2 q2 ((hhot r3).2 q3)).imp id (hoi g)
  · rw [r1] at q2; cases q2
theorem retell (h:Rel Γ s μ a w) {hl:List (Bid × Box)} (ρ:Ren) (hρ:renOK ρ) (hb:boxesOK (hOf hl) ρ s.H hl):Mem Γ (hOf hl) (renLay ρ μ) w /\
  ∀ (v:AV) (x:Value),Rep w (forb Γ.Mx μ s.H) μ s.H v x->∀ v',le s.H (hOf hl) ρ v' v->Rep w (forb Γ.Mx (renLay ρ μ) (hOf hl)) (renLay ρ μ) (hOf hl) v' x:=by
 refine retellP h (pin2:=Γ.pin) (fun i g c hp=>.inl ⟨i,c,hp⟩) (fun g hg=>hg) ρ (ren_inj hρ) hb fun i x q1 q2=>?_
 have h1:=boxesOK_mem hb (1,i) x (hOf_mem q1)
 unfold boxOK at h1
 cases hr:ρ.lookup (1,i) with
 | none=>rw [hr] at h1; simp only at h1; rw [h1] at q2; cases q2
 | some o=>
  have:=ren_pin hρ i _ (lookup_mem hr)
  subst this
  have hl':renLay ρ μ (1,i)=μ (1,i):=by unfold renLay; rw [hr]
  rw [hr] at h1
  simp only at h1
  cases hs:s.H (1,i) with
  | none=>rw [hs] at h1; exact h1.elim
  | some y=>
   rw [hs] at h1
   simp only at h1
   rw [hl']
   refine h.hp i y hs ?_
   cases x with
   | obj cs=>cases y <;> simp only [leB] at h1; rfl
   | row e sz L z=>cases y <;> simp only [leB] at h1; rfl
   | dead=>cases q2
theorem wO_ {tl:List (Nat × AV)} {hl:List (Bid × Box)} (ρ:Ren) (hρ:renOK ρ) (ht:tmpsOK s.H (hOf hl) ρ s.t tl) (hb:boxesOK (hOf hl) ρ s.H hl):Weak Γ ⟨ofL tl,hOf hl⟩ s:=by
 intro μ a w h
 obtain ⟨hm,hrep⟩:=retell h ρ hρ hb
 refine ⟨renLay ρ μ,h.hd,h.hn,h.hx,fun i=>?_,hm.hb,hm.hi,hm.hf,hm.hw,hm.hp⟩
 have key:∀ (l:List (Nat × AV)),tmpsOK s.H (hOf hl) ρ s.t l->le s.H (hOf hl) ρ (ofL l i) (s.t i):=by
  intro l
  induction l with
  | nil=>intro _; simp [ofL,le]
  | cons p l ih=>
   obtain ⟨k,v⟩:=p
   intro hl'
   simp only [tmpsOK] at hl'
   simp only [ofL,fput]
   split
   · rename_i e; rw [e]; exact hl'.1
   · exact ih hl'.2
 exact hrep _ _ (h.ht i) _ (key tl ht)
theorem weak_frz {e:TypeId} {sz:Nat} {L:List (List AV)} {z:Bool} (b:Bid) (hb:s.H b=some (.row e sz L z)):Weak Γ ⟨s.t,hput s.H b (.row e sz L true)⟩ s:=fun μ a w h=>⟨μ,h.freeze hb⟩
end
def Turned (w w':World):Prop:=∀ (g:Nat) (o:Obj),w.heap[g]?=some o->noCells o=false->w'.heap[g]?=w.heap[g]?
theorem Turned.putObj {w:World} {l:Nat} {o0:Obj} (h0:w.heap[l]?=some o0) (ho:noCells o0=true) (o:Obj):Turned w (w.putObj l o):=by
 intro g o hg hn
 refine World.putObj_heap_other fun h=>?_
 subst h
 rw [h0] at hg
 cases hg
 rw [ho] at hn
 cases hn
theorem nofz_putObj {w:World} {l k:Nat} {o:Obj} (ho:noCells o=true) (h:k ≠ l->nofz w k):nofz (w.putObj l o) k:=fun cur e z hz=>by
 by_cases hk:k=l
 ·
  subst hk
  by_cases hs:k < w.heap.size
  · rw [World.putObj_heap_same hs] at hz; cases hz; cases ho
  · rw [Array.getElem?_eq_none (by rw [World.putObj_size]; omega)] at hz; cases hz
 ·
  rw [World.putObj_heap_other hk] at hz
  exact h hk _ _ _ hz
theorem NF.putObj {w:World} {l:Nat} {o:Obj} (ho:noCells o=true):NF w (w.putObj l o):=fun k hk=>nofz_putObj ho fun _=>NF.refl w k hk
theorem NF.putObj2 {w0 w:World} {l:Nat} {o:Obj} (ho:noCells o=true) (h:NF w0 w):NF (w0.putObj l o) (w.putObj l o):=fun k hk=>nofz_putObj ho fun hl=>h k fun hs cur e z hz=>hk (by rw [World.putObj_size]; exact hs) cur e z (by rw [World.putObj_heap_other hl]; exact hz)
theorem Turned.refl (w:World):Turned w w:=fun _ _ _ _=>rfl
theorem Turned.trans {a b c:World} (h:Turned a b) (k:Turned b c):Turned a c:=fun g o hg hn=>by
 have h1:=h g o hg hn
 exact (k g o (h1.trans hg) hn).trans h1
theorem CellAt.turned {w w':World} {M:Nat->Prop} {p:Option Addr} {j:Nat} {x:Value} (h:CellAt w M p j x) (ht:Turned w w'):CellAt w' M p j x:=by
 obtain ⟨g,off,h1,h2,h3,h4⟩:=h
 refine ⟨g,off,h1,h2,?_,h4⟩
 have hb:∃ c e f,w.heap[g]?=some (.cells c e f):=by
  unfold World.cell? at h3
  split at h3
  · rename_i c e f hg; exact ⟨_,_,_,hg⟩
  · cases h3
 obtain ⟨c,e,f,hb⟩:=hb
 rw [World.cell?_of_block (w:=w) (ht g _ hb rfl)]
 exact h3
theorem Rep.turned {w w':World} {M:Nat->Prop} {μ:Lay} {H:Heap} {v:AV} {x:Value} (h:Rep w M μ H v x) (ht:Turned w w'):Rep w' M μ H v x:=by
 induction h with
 | u H v=>exact .u _ _
 | int H k n=>exact .int _ _ _
 | bool H b=>exact .bool _ _
 | str H b=>exact .str _ _
 | agg H cs vs f hs hv hr ih=>exact .agg _ _ _ f hs hv ih
 | nils H=>exact .nils _
 | sl H k L a c f hc hmx hk hv hr ih=>exact .sl _ _ _ _ _ f hc hmx hk (fun i j hi hj=>(hv i j hi hj).turned ht) ih
 | own H b n e sz L z hH hn=>exact .own _ _ _ _ _ _ _ hH hn
 | ownd H b n v hH h1'=>exact .ownd _ _ _ _ hH h1'
 | ows H b l n e sz L z ad cp hH hn hc hv=>exact .ows _ _ _ _ _ _ _ _ _ _ hH hn hc hv
 | owsd H b l n v hH h1'=>exact .owsd _ _ _ _ _ hH h1'
 | mpv H es clock g hM hg=>exact .mpv _ _ _ _ hM ((ht g _ hg rfl).trans hg)
 | ref H b o cs g c hH hμ=>exact .ref _ _ _ _ _ c hH hμ
 | pt H b k n cs g c off m hH hμ hn hm=>exact .pt _ _ _ _ _ _ c _ _ hH hμ hn hm
 | eref H b i o e sz L z g c hH hμ hi=>exact .eref _ _ _ _ _ _ _ _ _ c hH hμ hi
 | erefd H b i o v hH h1'=>exact .erefd _ _ _ _ _ hH h1'
 | iref H cs o g off f hv hr ih=>exact .iref _ _ _ _ _ f (fun j hj=>(hv j hj).turned ht) ih
 | nilp H=>exact .nilp _
 | fn H f caps vs g hs hv hr ih=>exact .fn _ _ _ _ g hs hv ih
 | tup H xs vs g hs hv hr ih=>exact .tup _ _ _ g hs hv ih
 | ifc H t v x hr ih=>exact .ifc _ _ _ _ ih
 | nili H=>exact .nili _
 | yl H l=>exact .yl _ _
 | ub H b=>exact .ub _ _
theorem BoxAt.turned {w w':World} {M:Nat->Prop} {μ:Lay} {H:Heap} {b:Bid} {x:Box} (h:BoxAt w M μ H b x) (ht:Turned w w'):BoxAt w' M μ H b x:=by
 rcases h with h | ⟨g,c,cur,e,h1,h2,h3⟩ | h
 · exact .inl h
 ·
  refine .inr (.inl ⟨g,c,cur,e,h1,(ht g _ h2 rfl).trans h2,?_⟩)
  cases x with
  | obj cs=>
   refine ⟨h3.1,fun i x hx=>?_⟩
   obtain ⟨v,q1,q2,q3⟩:=h3.2 i x hx
   exact ⟨v,q1,q2,q3.turned ht⟩
  | row e' sz L z=>
   obtain ⟨p1,p2,p3,p4,p5,p6,p7⟩:=h3
   refine ⟨p1,p2,p3,p4,p5,p6,fun i j xs x hi hj=>?_⟩
   obtain ⟨v,q1,q2,q3⟩:=p7 i j xs x hi hj
   exact ⟨v,q1,q2,q3.turned ht⟩
  | dead=>exact h3
 · exact .inr (.inr h)
section
variable {Γ:Ctx} {s:St} {μ:Lay} {a:Act} {w:World}
theorem Rel.turned (h:Rel Γ s μ a w) {w':World} (ht:Turned w w') (hb:BelowX Γ.w0.heap.size Γ.io w w') {a':Act} (ha:a'.tmps=a.tmps) (hd:Marks Γ a'.defers w'):Rel Γ s μ a' w':=
 ⟨hd,by rw [ha]; exact h.hn,h.hx,fun i=>by rw [ha]; exact (h.ht i).turned ht,fun b x hx=>(h.hb b x hx).turned ht,h.hi,h.hf,h.hw.trans hb,h.hp⟩
theorem Rel.turnAt (h:Rel Γ s μ a w) {l:Nat} {r:Loop} (hl:Γ.w0.heap.size<=l) (h0:w.heap[l]?=some (.loop r)) (o:Obj) (ho:noCells o=true:=by rfl):Rel Γ s μ a (w.putObj l o):=by
 refine h.turned (Turned.putObj h0 rfl o) ⟨rfl,rfl,rfl,by rw [World.putObj_size]; exact Nat.le_refl _,fun k hk _=>World.putObj_heap_other (by omega),.putObj ho⟩ rfl (h.hd.mono fun D _ hD=>World.putObj_heap_other fun e=>?_)
 subst e
 rw [h0] at hD
 cases hD
theorem Rel.turned0 (h:Rel Γ s μ a w) {l:Nat} {o0:Obj} (hl:l < Γ.w0.heap.size) (h0:w.heap[l]?=some o0) (ho:noCells o0=true) (o:Obj) (ho':noCells o=true:=by rfl) :
  Rel { Γ with w0:=Γ.w0.putObj l o } s μ a (w.putObj l o):=by
 have ht:=Turned.putObj h0 ho o
 refine ⟨?_,h.hn,fun g hg=>by rw [World.putObj_size]; exact h.hx g hg,fun i=>(h.ht i).turned ht,fun b x hx=>(h.hb b x hx).turned ht,h.hi,fun b x g c q1 q2 q3=>by rw [World.putObj_size]; exact h.hf b x g c q1 q2 q3,?_,h.hp⟩
 ·
  obtain ⟨ms,h1,h2,h3⟩:=h.hd
  exact ⟨ms,h1,h2,fun D hD=>⟨by rw [World.putObj_size]; exact (h3 D hD).1,(World.putObj_heap_other (by have:=(h3 D hD).1; omega)).trans (h3 D hD).2.1,(h3 D hD).2.2⟩⟩
 ·
  refine ⟨h.hw.os,h.hw.tape,h.hw.output,by rw [World.putObj_size,World.putObj_size]; exact h.hw.size,fun k hk hn=>?_,.putObj2 ho' h.hw.nf⟩
  rw [World.putObj_size] at hk
  by_cases e:k=l
  ·
   subst e
   rw [World.putObj_heap_same hk,World.putObj_heap_same (Nat.lt_of_lt_of_le hk h.hw.size)]
  ·
   rw [World.putObj_heap_other e,World.putObj_heap_other e]
   exact h.hw.block k hk hn
theorem leavesM {fn:Func} {R:Ending->World->Prop} {u:FrameMode} (hu:u ≠ .run) (h:Rel Γ s μ a w)
  (hend:∀ w',Turned w w'->Rel Γ s μ { a with defers:=Γ.df } w'->LeavesInM Fence.wide 0 Γ.P fn a.tmps R Γ.df u w'):LeavesInM Fence.wide 0 Γ.P fn a.tmps R a.defers u w:=by
 obtain ⟨ms,h1,h2,h3⟩:=h.hd
 have key:∀ (ms:List Nat) (w':World),ms.Nodup->(∀ D ∈ ms,Γ.w0.heap.size<=D/\w'.heap[D]?=some (.deferred (some []))/\Γ.lp=true)->Turned w w'->Rel Γ s μ { a with defers:=Γ.df } w' ->
   LeavesInM Fence.wide 0 Γ.P fn a.tmps R (ms.map (fun D=>(⟨.collected D,#[]⟩:Deferred))++Γ.df) u w':=by
  intro ms
  induction ms with
  | nil=>intro w' _ _ ht hr; exact hend w' ht hr
  | cons D ms ih=>
   intro w' hnd hm ht hr
   obtain ⟨q1,q2,_⟩:=hm D (List.mem_cons_self)
   have hT:=Turned.putObj q2 rfl (.deferred none)
   refine ⟨hu,.inl ⟨D,_,rfl,run_takeDeferred q2,ih _ (List.nodup_cons.1 hnd).2 (fun D' hD'=>?_) (ht.trans hT) (hr.turned hT ⟨rfl,rfl,rfl,by rw [World.putObj_size]; exact Nat.le_refl _,fun k hk _=>World.putObj_heap_other (by omega),.putObj rfl⟩ rfl (Marks.nil Γ _))⟩⟩
   have hne:D' ≠ D:=fun e=>(List.nodup_cons.1 hnd).1 (e ▸ hD')
   exact ⟨(hm D' (List.mem_cons_of_mem _ hD')).1,(World.putObj_heap_other hne).trans (hm D' (List.mem_cons_of_mem _ hD')).2.1,(hm D' (List.mem_cons_of_mem _ hD')).2.2⟩
 rw [h1]
 exact key ms w h2 h3 (Turned.refl w) (h.turned (Turned.refl w) (BelowX.refl _ _ _) rfl (Marks.nil Γ _))
end
def res (H:Heap):AV->AV->Prop
 | .u,_=>True
 | .sl k L,.own b n=>rowOf n (H b)=some (k,L)
 | .sl k L,.nils=>L=[]
 | .agg cs,.agg ds=>resC H cs ds
 | .int k n,v=>v=.int k n
 | .bool b,v=>v=.bool b
 | .str b,v=>v=.str b
 | .nils,v=>v=.nils
 | .sl k L,v=>v=.sl k L
 | .nilp,v=>v=.nilp
 | .nili,v=>v=.nili
 | _,_=>False
where
 resC (H:Heap):List AV->List AV->Prop
 | [],[]=>True
 | a :: l,b :: m=>res H a b/\resC H l m
 | _,_=>False
def resV (T:TypeId->Option TI) (s:St):ResultVar->Option AV
 | .tmp t=>some (s.t t)
 | .cell a t=>match T t,s.t a with
  | some i,.ref b o=>match s.H b with
   | some (.obj cs)=>ld i cs o
   | _=>none
  | _,_=>none
def catV:List (Option AV)->Option (List AV)
 | []=>some []
 | some v :: l=>(catV l).map (v :: ·)
 | none :: _=>none
def argsF (args:List AV):Nat->AV:=fun i=>args.getD i .u
section
variable {Γ:Ctx} {s:St} {μ:Lay} {a:Act} {w:World}
theorem catV_at:∀ {l:List (Option AV)} {vs:List AV},catV l=some vs->l.length=vs.length/\∀ (i:Nat),l[i]?=(vs[i]?).map some
 | [],vs,h=>by cases h; exact ⟨rfl,fun i=>by simp⟩
 | some v :: l,vs,h=>by
  simp only [catV,Option.map_eq_some_iff] at h
  obtain ⟨ws,hw,rfl⟩:=h
  obtain ⟨h1,h2⟩:=catV_at hw
  refine ⟨by simp [h1],fun i=>?_⟩
  cases i with
  | zero=>rfl
  | succ i=>simpa using h2 i
 | none :: l,vs,h=>by cases h
theorem resV_run (h:Rel Γ s μ a w) {rv:ResultVar} {v:AV} (hv:resV (TI.of Γ.P) s rv=some v) :
  ∃ x,(match rv with | .tmp t=>(pure (a.tmps.getD t undef):Sem Value) | .cell ad t=>do loadVar t (<-asAddr (a.tmps.getD ad undef))).run Γ.P w=.ok x w/\Rep w (forb Γ.Mx μ s.H) μ s.H v x:=by
 cases rv with
 | tmp t=>cases hv; exact ⟨_,rfl,h.ht t⟩
 | cell ad t=>
  simp only [resV] at hv
  cases hT:TI.of Γ.P t with
  | none=>rw [hT] at hv; cases hv
  | some i=>
   rw [hT] at hv
   have had:=h.ht ad
   cases hq:s.t ad <;> rw [hq] at hv had <;> simp only at hv <;> try (cases hv; done)
   rename_i b p
   cases hb:s.H b with
   | none=>rw [hb] at hv; cases hv
   | some y=>
    rw [hb] at hv
    cases y <;> simp only at hv <;> try (cases hv; done)
    rename_i cs
    generalize hval:a.tmps.getD ad undef=av at had
    cases had with
    | ref _ _ _ cs' g c hH hμ=>
     obtain ⟨cur,e,q1,q2,q3⟩:=box_obj h hb hμ
     obtain ⟨uu,hu1,hu2⟩:=ld_rep (w:=w) (μ:=μ) (M:=forb Γ.Mx μ s.H) (H:=s.H) hT hv (g:=g) (off:=0) (f:=fun j=>(cur[j]?).getD undef) (fun j hj=>by
      obtain ⟨v',r1,r2,_⟩:=q3 j cs[j] (List.getElem?_eq_getElem hj)
      rw [Nat.zero_add,cell_heap q1,r1]
      exact ⟨rfl,r2⟩) (fun j x hx=>by
      obtain ⟨v',r1,_,r3⟩:=q3 j x hx
      rw [r1]
      exact r3)
     rw [Nat.zero_add] at hu1
     exact ⟨uu,by simp only [hval,Sem.run_bind,asAddr,Sem.run_pure,Result.andThen_ok,hu1],hu2⟩
theorem mapM_run {P:Program} {α β:Type} {f:α->Sem β}:∀ (l:List α) (xs:List β),l.length=xs.length->(∀ (i:Nat) (y:α) (x:β),l[i]?=some y->xs[i]?=some x->(f y).run P w=.ok x w)->(l.mapM f).run P w=.ok xs w
 | [],[],_,_=>rfl
 | y :: l,x :: xs,hl,h=>by
  have h0:=h 0 y x rfl rfl
  have ih:=mapM_run l xs (by simpa using hl) (fun i y x hy hx=>h (i + 1) y x (by simpa using hy) (by simpa using hx))
  simp only [List.mapM_cons,Sem.run_bind,h0,Result.andThen_ok,ih,Sem.run_pure]
 | [],_ :: _,hl,_=>by simp at hl
 | _ :: _,[],hl,_=>by simp at hl
def rvSem (a:Act):ResultVar->Sem Value:=fun rv=>match rv with
 | .tmp t=>pure (a.tmps.getD t undef)
 | .cell ad t=>do loadVar t (<-asAddr (a.tmps.getD ad undef))
theorem run_results {P:Program} {fn:Func} {l:List ResultVar} (hl:fn.results=l.toArray) {xs:List Value} (h:(l.mapM (rvSem a)).run P w=.ok xs w):(results fn a.tmps).run P w=.ok (if h:xs.toArray.size=1 then xs.toArray[0] else .tuple xs.toArray) w:=by
 have e:fn.results.mapM (rvSem a)=List.toArray <$> l.mapM (rvSem a):=by rw [hl,List.mapM_toArray]
 have e2:results fn a.tmps=(do let vs <-fn.results.mapM (rvSem a); pure (if h:vs.size=1 then vs[0] else .tuple vs)):=rfl
 rw [e2,e]
 simp only [map_eq_pure_bind,Sem.run_bind,h,Result.andThen_ok,Sem.run_pure]
end
theorem no_io {P:Program} {w:World} {Mx:Nat->Prop} {n g:Nat}:¬ (⟨P,w,Mx,n,fun _=>none,[],true⟩:Ctx).io g:=by
 rintro ⟨i,c,h⟩; cases h
def outL (hr:HR):List (Bid × Box):=lab 1 0 hr.up++lab 2 0 hr.nw
@[go_sem] theorem outL_at (v up nw):outL ⟨v,up,nw⟩=lab 1 0 up++lab 2 0 nw:=rfl
def resH (T:TypeId->Option TI) (s:St) (H:Heap) (ρ:Ren) (r:AV):List ResultVar->Prop
 | [x]=>match resV T s x with
  | some v=>le s.H H ρ r v
  | none=>False
 | l=>match catV (l.map (resV T s)),r with
  | some vs,.tup rs=>le.leC s.H H ρ rs vs
  | _,_=>False
def finW (T:TypeId->Option TI) (rs:List ResultVar) (hr:HR) (ρ:Ren):X->St->Prop
 | .normal,s=>renOK ρ/\boxesOK (hOf (outL hr)) ρ s.H (outL hr)/\resH T s (hOf (outL hr)) ρ hr.v rs/\(∀ p,hr.v ≠ .pnc p)
 | .ret,s=>renOK ρ/\boxesOK (hOf (outL hr)) ρ s.H (outL hr)/\resH T s (hOf (outL hr)) ρ hr.v rs/\(∀ p,hr.v ≠ .pnc p)
 | .pan v,s=>renOK ρ/\boxesOK (hOf (outL hr)) ρ s.H (outL hr)/\∃ p,hr.v=.pnc p/\le s.H (hOf (outL hr)) ρ p v
 | _,_=>False
def fW_ (T:TypeId->Option TI) (rs:List ResultVar) (hr:HR) (x:X) (s:St):Prop:=∃ ρ,finW T rs hr ρ x s
section
variable {Γ:Ctx} {s:St} {μ:Lay} {a:Act} {w:World}
theorem resH_run (h:Rel Γ s μ a w) {H:Heap} {μ':Lay} {ρ:Ren} (hrep:∀ (v:AV) (x:Value),Rep w (forb Γ.Mx μ s.H) μ s.H v x->∀ v',le s.H H ρ v' v->Rep w (forb Γ.Mx μ' H) μ' H v' x)
  {fn:Func} {r:AV} (hr:resH (TI.of Γ.P) s H ρ r fn.results.toList):∃ x,(results fn a.tmps).run Γ.P w=.ok x w/\Rep w (forb Γ.Mx μ' H) μ' H r x:=by
 generalize hl:fn.results.toList=l at hr
 have hfr:fn.results=l.toArray:=by rw [<-hl]
 have general:∀ (vs:List AV),catV (l.map (resV (TI.of Γ.P) s))=some vs->∃ xs:List Value,xs.length=vs.length/\(∀ (i:Nat) (v:AV) (x:Value),vs[i]?=some v->xs[i]?=some x->Rep w (forb Γ.Mx μ s.H) μ s.H v x)/\(l.mapM (rvSem a)).run Γ.P w=.ok xs w:=by
  intro vs hvs
  obtain ⟨c1,c2⟩:=catV_at hvs
  have hex:∀ i:Fin l.length,∃ (x:Value) (v:AV),(rvSem a l[i]).run Γ.P w=.ok x w/\vs[i.val]?=some v/\Rep w (forb Γ.Mx μ s.H) μ s.H v x:=by
   intro i
   have h1:=c2 i.val
   simp only [List.getElem?_map,List.getElem?_eq_getElem i.isLt,Option.map_some] at h1
   cases hv:vs[i.val]? with
   | none=>rw [hv] at h1; cases h1
   | some v=>
    rw [hv] at h1
    simp only [Option.map_some,Option.some.injEq] at h1
    obtain ⟨x,hx1,hx2⟩:=resV_run h h1
    exact ⟨x,v,hx1,rfl,hx2⟩
  classical
  have hall:∃ xs:List Value,xs=List.ofFn (fun i:Fin l.length=>Classical.choose (hex i)):=⟨_,rfl⟩
  obtain ⟨xs,hxsd⟩:=hall
  have hxs:xs.length=l.length:=by rw [hxsd,List.length_ofFn]
  have hat:∀ (i:Nat) (hi:i < l.length),xs[i]?=some (Classical.choose (hex ⟨i,hi⟩)):=fun i hi=>by
   rw [hxsd,List.getElem?_ofFn,dif_pos hi]
  refine ⟨xs,by rw [hxs,<-c1,List.length_map],fun i v x hv hx=>?_,mapM_run l xs hxs.symm (fun i y x hy hx=>?_)⟩
  ·
   have hi:i < l.length:=by
    have:=(List.getElem?_eq_some_iff.1 hv).1
    rw [<-c1,List.length_map] at this
    exact this
   rw [hat i hi] at hx
   cases hx
   obtain ⟨v',_,h2,h3⟩:=Classical.choose_spec (hex ⟨i,hi⟩)
   rw [hv] at h2
   cases h2
   exact h3
  ·
   have hi:=(List.getElem?_eq_some_iff.1 hy).1
   have hy':l[i]=y:=(List.getElem?_eq_some_iff.1 hy).2
   rw [hat i hi] at hx
   cases hx
   obtain ⟨v,h1,_,_⟩:=Classical.choose_spec (hex ⟨i,hi⟩)
   rw [<-hy']
   exact h1
 unfold resH at hr
 split at hr
 ·
  rename_i x
  cases hv:resV (TI.of Γ.P) s x with
  | none=>rw [hv] at hr; exact hr.elim
  | some v=>
   rw [hv] at hr
   obtain ⟨xs,g1,g2,g3⟩:=general [v] (by simp [catV,hv])
   match xs,g1 with
   | [y],_=>exact ⟨y,run_results hfr g3,hrep v y (g2 0 v y rfl rfl) r hr⟩
 ·
  rename_i hl1
  split at hr
  ·
   rename_i vs rs hvs
   obtain ⟨xs,g1,g2,g3⟩:=general vs hvs
   have hne:¬ xs.toArray.size=1:=by
    simp only [List.size_toArray,g1]
    obtain ⟨c1,_⟩:=catV_at hvs
    rw [<-c1,List.length_map]
    intro h1
    obtain ⟨x,hx⟩:=List.length_eq_one_iff.1 h1
    exact hl1 x hx
   have g4:=run_results hfr g3
   rw [dif_neg hne] at g4
   refine ⟨_,g4,?_⟩
   obtain ⟨l1,l2⟩:=leC_at _ _ hr
   refine Rep.tup _ _ _ (fun i=>xs.getD i undef) (by simp [g1,l1]) (fun i hi=>?_) (fun i c hc=>?_)
   ·
    have:i < xs.length:=by omega
    simp [this]
   ·
    obtain ⟨v,hv1,hv2⟩:=l2 i c hc
    have hlt:=(List.getElem?_eq_some_iff.1 hv1).1
    have hx:xs[i]?=some (xs.getD i undef):=by
     have:i < xs.length:=by omega
     simp [this]
    exact hrep v _ (g2 i v _ hv1 hx) c hv2
  · exact hr.elim
end
theorem sound_ofH {P:Program} {f:FuncId} {fn:Func} {c:Code} {S:HSpec} {env:Env} (hf:P.funcs[f]?=some fn) (hb:fn.body=some c) (hok:codeOK P fn.ntmps c=true) (henv:EnvOK P env)
  (h:∀ args bx hr,S args bx=some hr->args.length<=fn.ntmps/\goOns bx hr.up/\∀ (w:World) (Mx:Nat->Prop) (pin:Nat->Option (Nat × Nat)),awp ⟨P,w,Mx,fn.ntmps,pin,[],true⟩ env c (fW_ (TI.of P) fn.results.toList hr) ⟨argsF args,hB bx⟩):HSound P f S:=by
 intro args bx hr hS
 obtain ⟨hlen,hgo,hbody⟩:=h args bx hr hS
 refine ⟨hgo,fun w Mx pin vals μ hA hpin=>?_⟩
 have hbody:=hbody w Mx pin
 refine callsIn_wide.1 (callsIn_of_wp_marks (F:=Fence.wide) (n:=0) hf hb trivial (wpIn_wide.2 ?_))
 have hsz:=hA.sz
 have hR:Rel ⟨P,w,Mx,fn.ntmps,pin,[],true⟩ ⟨argsF args,hB bx⟩ μ { tmps:=vals++Array.replicate (fn.ntmps - vals.size) undef,defers:=[] } w:=by
  refine ⟨Marks.nil ⟨P,w,Mx,fn.ntmps,pin,[],true⟩ _,by simp; omega,hA.mem.hx,fun i=>?_,hA.mem.hb,hA.mem.hi,hA.mem.hf,hA.mem.hw,hA.mem.hp⟩
  simp only [argsF]
  by_cases hi:i < args.length
  ·
   have hgi:args[i]?=some args[i]:=List.getElem?_eq_getElem hi
   have hv:=hA.rep i _ hgi
   have e1:args.getD i .u=args[i]:=by simp [hi]
   have e2:(vals++Array.replicate (fn.ntmps - vals.size) undef).getD i undef=vals.getD i undef:=by
    simp only [Array.getD_eq_getD_getElem?,Array.getElem?_append,show i < vals.size by omega,if_true]
   rw [e1,e2]
   exact hv
  ·
   have e1:args.getD i .u=.u:=by simp [List.getD_eq_getElem?_getD,List.getElem?_eq_none (by omega:args.length<=i)]
   rw [e1]
   exact .u _ _
 have hwp:=hbody henv hok μ _ w hR
 refine Code.wp_mono ?_ hwp
 intro e a' w' he
 have done:∀ s μ',Rel ⟨P,w,Mx,fn.ntmps,pin,[],true⟩ s μ' a' w'->∀ ρ,(renOK ρ/\boxesOK (hOf (outL hr)) ρ s.H (outL hr)/\resH (TI.of P) s (hOf (outL hr)) ρ hr.v fn.results.toList/\(∀ p,hr.v ≠ .pnc p))->LeavesInM Fence.wide 0 P fn a'.tmps (HPost P w Mx pin hr) a'.defers .returning w':=by
  rintro s μ' hR' ρ ⟨h1,h2,h3,h4⟩
  refine leavesM (by simp) hR' fun w2 ht hR2=>?_
  obtain ⟨hm,hrep⟩:=retell hR2 ρ h1 h2
  obtain ⟨x,hx1,hx2⟩:=resH_run hR2 hrep h3
  exact ⟨x,hx1,renLay ρ μ',⟨hm.hx,hm.hb,hm.hi,hm.hf,hm.hw,hm.hp⟩,.inr ⟨h4,x,rfl,hx2⟩⟩
 cases e with
 | normal=>obtain ⟨s,μ',hR',ρ,hq⟩:=he; exact done s μ' hR' ρ hq
 | ret=>obtain ⟨s,μ',hR',ρ,hq⟩:=he; exact done s μ' hR' ρ hq
 | exit i=>obtain ⟨s,μ',hR',ρ,hq⟩:=he; exact hq.elim
 | goto l=>exact he.elim
 | outgrown=>exact he.elim
 | panic ch=>
  obtain ⟨s,μ',v,x,rfl,hR',hx,ρ,h1,h2,p,hp,h3⟩:=he
  refine leavesM (by simp) hR' fun w2 ht hR2=>?_
  obtain ⟨hm,hrep⟩:=retell hR2 ρ h1 h2
  exact ⟨renLay ρ μ',⟨hm.hx,hm.hb,hm.hi,hm.hf,hm.hw,hm.hp⟩,.inl ⟨p,x,hp,rfl,hrep v x (hx.turned ht) p h3⟩⟩
theorem HSound.plain {P:Program} {f:FuncId} {S:Spec} {T:HSpec} (h:HSound P f T) (hS:∀ args r,S args=some r->T args []=some ⟨r,[],[]⟩) (hf:∀ args e sz L,S args ≠ some (.frs e sz L)):Sound P f S:=by
 intro args r hr w Mx vals hMx hsz hv
 obtain ⟨_,h2⟩:=h args [] _ (hS args r hr)
 have hB0:hB []=noH:=rfl
 have hE0:hE ⟨r,[],[]⟩=noH:=rfl
 refine (h2 w Mx (fun _=>none) vals noLay ⟨⟨fun g hg=>⟨hMx g hg,no_io⟩,fun b x hx=>(by cases hx),fun b b' x x' g c c' hx=>(by cases hx),fun b x g c hx=>(by cases hx),BelowX.refl _ _ _,fun i x hx=>(by cases hx)⟩,hsz,fun i v hi=>?_,by simp⟩ (fun _ _=>rfl)).mono fun e w' he=>?_
 ·
  rw [hB0]
  exact (hv i v hi).mono (fun g _ hg=>⟨(fun hh=>hh.elim hg fun ⟨b,x,c,hx,_⟩=>by cases hx),rfl⟩) (HLe.refl _) (fun b hb=>absurd rfl hb)
 ·
  obtain ⟨μ',hm,hpost⟩:=he
  rw [hE0] at hm hpost
  have key:∀ v x,Rep w' (forb Mx μ' noH) μ' noH v x->Rep w' Mx noLay noH v x:=fun v x hx=>hx.mono (fun g _ hg=>⟨fun hh=>hg (.inl hh),rfl⟩) (HLe.refl _) (fun b hb=>absurd rfl hb)
  refine ⟨⟨hm.hw.below fun _=>no_io,hm.hw.nf⟩,?_⟩
  rcases hpost with ⟨p,x,q1,q2,q3⟩ | ⟨q1,v,q2,q3⟩
  · exact .inl ⟨p,x,q1,q2,key p x q3⟩
  ·
   refine .inr ⟨q1,v,q2,?_⟩
   have:=key _ _ q3
   simp only at this
   unfold RRep
   split
   · exact absurd hr (hf _ _ _ _)
   · exact this
section
variable {Γ:Ctx} {env:Env} {ops:Array Oper}
theorem any_orderL (henv:EnvOK Γ.P env) (hok:∀ (i:Nat) (o:Oper),ops[i]?=some o->opOK Γ.P Γ.n o=true) (hd:drawOK ops=true) {τ:Nat->List Bid × List Bid}
  (hpair:∀ i j oi oj,i < j->ops[i]?=some oi->ops[j]?=some oj->((befL [] ops.toList).getD j 0).testBit i=false->pairOK oi oj (τ i) (τ j)=true) {m:Nat} (hm:m + 1=ops.size) (hlast:∀ j,j < m->((befL [] ops.toList).getD m 0).testBit j=true) {Q:Exit->Act->World->Prop} {sf:St} {oL:Oper} (hoL:ops[m]?=some oL) {out:Out} (hout:aStep (TI.of Γ.P) env ops oL sf=some out) (hQ:StepK Γ out (Q .normal) Q) :
  ∀ (n:Nat) (R:List Nat) (listed:Array Bool) (s:St) (μ:Lay) (a:Act) (w:World),R.length=n->Rel Γ s μ a w->listed.size=ops.size->R=(List.range m).filter (fun i=>!listed.getD i true)->listed.getD m true=false ->
   (∀ i o,ops[i]?=some o->listed.getD i true=true->∀ k ∈ preds o,listed.getD k false=true)->iRun (TI.of Γ.P) env ops τ R s=some sf->wpAny Γ.P .any ops Q (n + 1) listed a w:=by
 intro n
 induction n with
 | zero=>
  intro R listed s μ a w hn hR hsz hRe hlm hcl hrun
  have hR0:R=[]:=List.eq_nil_of_length_eq_zero hn
  subst hR0
  simp only [iRun,Option.some.injEq] at hrun
  subst hrun
  have hback:∀ (k:Nat) (ok:Oper),ops[k]?=some ok->∀ k' ∈ preds ok,k' < k:=fun k ok hk=>(drawOK_at hd hk).1
  have hall:∀ j,j < m->listed.getD j true=true:=by
   intro j hj
   cases hh:listed.getD j true with
   | true=>rfl
   | false=>
    have:j ∈ (List.range m).filter (fun i=>!listed.getD i true):=by rw [List.mem_filter]; exact ⟨List.mem_range.2 hj,by rw [hh]; rfl⟩
    rw [<-hRe] at this
    simp at this
  have hgetf:∀ (d d':Bool) (k:Nat),k < ops.size->listed.getD k d=listed.getD k d':=by
   intro d d' k hk
   have:k < listed.size:=by omega
   simp [Array.getD_eq_getD_getElem?,this]
  refine ⟨fun hnil=>?_,fun i hi=>?_⟩
  ·
   exfalso
   have:m ∈ Region.ready .any ops listed:=by
    rw [Region.ready,List.mem_filter]
    refine ⟨List.mem_range.2 (by omega),?_⟩
    rw [hlm,hoL]
    simp only [Bool.not_false,Option.map_some,Option.getD_some,Bool.true_and,Array.all_eq_true_iff_forall_mem]
    intro e he
    by_cases hb:Region.binds .any e=true
    ·
     have hk:e.on ∈ preds oL:=List.mem_map.2 ⟨e,List.mem_filter.2 ⟨by simpa using he,hb⟩,rfl⟩
     have hlt2:=hback m _ hoL _ hk
     simp [hb,(hgetf false true e.on (by omega)).trans (hall _ hlt2)]
    · simp [hb]
   rw [hnil] at this
   simp at this
  ·
   rw [Region.ready,List.mem_filter,List.mem_range] at hi
   obtain ⟨hlt,hi⟩:=hi
   simp only [Bool.and_eq_true,Bool.not_eq_true'] at hi
   obtain rfl:i=m:=by
    rcases Nat.lt_or_ge i m with h | h
    · rw [hall i h] at hi; exact absurd hi.1 (by simp)
    · omega
   unfold wpOp
   rw [hoL]
   simp only
   have hcont:=sim_step (K:=wpAny Γ.P .any ops Q 0 (listed.setIfInBounds i true)) (Q:=Q) hR (hok i _ hoL) henv hout ⟨fun hp μ' a' w' hR'=>⟨?_,hQ.1 hp μ' a' w' hR'⟩,hQ.2⟩
   ·
    split at hcont
    · rename_i hw; rw [if_pos hw]; exact .inl hcont
    · rename_i hw; rw [if_neg hw]; exact hcont
   ·
    rw [Region.ready,List.filter_eq_nil_iff]
    intro j hj hh
    simp only [Bool.and_eq_true,Bool.not_eq_true'] at hh
    have h1:=hh.1
    rw [List.mem_range] at hj
    simp only [Array.getD_eq_getD_getElem?,Array.getElem?_setIfInBounds] at h1
    by_cases e:i=j
    · subst e; simp [show i < listed.size by omega] at h1
    ·
     rw [if_neg e] at h1
     have:=hall j (by omega)
     simp only [Array.getD_eq_getD_getElem?] at this
     rw [this] at h1
     cases h1
 | succ n ih=>
  intro R listed s μ a w hn hR hsz hRe hlm hcl hrun
  have hback:∀ (k:Nat) (ok:Oper),ops[k]?=some ok->∀ k' ∈ preds ok,k' < k:=fun k ok hk=>(drawOK_at hd hk).1
  have hsorted:R.Pairwise (· < ·):=by rw [hRe]; exact List.Pairwise.filter _ List.pairwise_lt_range
  have hmem:∀ i,i ∈ R ↔ i < m/\listed.getD i true=false:=by
   intro i; rw [hRe,List.mem_filter,List.mem_range]; simp
  have hgetf:∀ k,k < ops.size->(listed.getD k false=true ↔ listed.getD k true=true):=by
   intro k hk
   have:k < listed.size:=by omega
   simp [Array.getD_eq_getD_getElem?,this]
  refine ⟨fun hnil=>?_,fun i hi=>?_⟩
  ·
   exfalso
   cases R with
   | nil=>simp at hn
   | cons i0 rest=>
    obtain ⟨hltm,hun⟩:=(hmem i0).1 (by simp)
    have hlt:i0 < ops.size:=by omega
    have ho:ops[i0]?=some ops[i0]:=Array.getElem?_eq_getElem hlt
    have hall:∀ k,k < i0->listed.getD k true=true:=by
     intro k hk
     cases hh:listed.getD k true with
     | true=>rfl
     | false=>
      have hkR:=(hmem k).2 ⟨by omega,hh⟩
      rcases List.mem_cons.1 hkR with rfl | hkr
      · omega
      ·
       have:=(List.pairwise_cons.1 hsorted).1 k hkr
       omega
    have:i0 ∈ Region.ready .any ops listed:=by
     rw [Region.ready,List.mem_filter]
     refine ⟨List.mem_range.2 hlt,?_⟩
     rw [hun,ho]
     simp only [Bool.not_false,Option.map_some,Option.getD_some,Bool.true_and,Array.all_eq_true_iff_forall_mem]
     intro e he
     by_cases hb:Region.binds .any e=true
     ·
      have hk:e.on ∈ preds ops[i0]:=List.mem_map.2 ⟨e,List.mem_filter.2 ⟨by simpa using he,hb⟩,rfl⟩
      have hlt2:=hback i0 _ ho _ hk
      simp [hb,(hgetf e.on (by omega)).2 (hall _ hlt2)]
     · simp [hb]
    rw [hnil] at this
    simp at this
  ·
   rw [Region.ready,List.mem_filter,List.mem_range] at hi
   obtain ⟨hlt,hi⟩:=hi
   simp only [Bool.and_eq_true,Bool.not_eq_true'] at hi
   obtain ⟨hun,hpl⟩:=hi
   have ho:ops[i]?=some ops[i]:=Array.getElem?_eq_getElem hlt
   rw [ho] at hpl
   simp only [Option.map_some,Option.getD_some,Array.all_eq_true_iff_forall_mem] at hpl
   have hpreds:∀ k ∈ preds ops[i],listed.getD k false=true:=by
    intro k hk
    obtain ⟨e,he,rfl⟩:=List.mem_map.1 hk
    obtain ⟨he1,he2⟩:=List.mem_filter.1 he
    have:=hpl e (by simpa using he1)
    simpa [he2] using this
   have him:i < m:=by
    rcases Nat.lt_or_ge i m with h | h
    · exact h
    ·
     exfalso
     obtain rfl:i=m:=by omega
     cases R with
     | nil=>simp at hn
     | cons i0 rest=>
      obtain ⟨q1,q2⟩:=(hmem i0).1 (by simp)
      have:=before_listed hcl i _ ho (hback i _ ho) hpreds hback i0 (hlast i0 q1)
      rw [hgetf i0 (by omega),q2] at this
      cases this
   have hiR:=(hmem i).2 ⟨him,hun⟩
   obtain ⟨pre,post,rfl⟩:=List.append_of_mem hiR
   have hs1:=List.pairwise_append.1 hsorted
   have hpre:∀ j ∈ pre,j < i:=fun j hj=>hs1.2.2 j hj i (by simp)
   have hpost:∀ j ∈ post,i < j:=(List.pairwise_cons.1 hs1.2.1).1
   have hfront:=move_front henv hok pre s μ a w sf hR (fun j hj oj oi hoj hoi=>by
    have hji:=hpre j hj
    have hb:((befL [] ops.toList).getD i 0).testBit j=false:=by
     cases hh:((befL [] ops.toList).getD i 0).testBit j with
     | false=>rfl
     | true=>
      have:=before_listed hcl i _ ho (hback i _ ho) hpreds hback j hh
      have hju:=((hmem j).1 (by simp [hj])).2
      rw [(hgetf j (by omega))] at this
      rw [hju] at this; cases this
    exact ⟨(drawOK_at hd hoi).2 j oj hji hoj hb,hpair j i oj oi hji hoj hoi hb⟩) hrun
   obtain ⟨oi,s1,hoi,hst,hrest⟩:=iRun_cons hfront
   rw [ho] at hoi
   cases hoi
   unfold wpOp
   rw [ho]
   simp only
   have hcont:=sim_step (K:=wpAny Γ.P .any ops Q (n + 1) (listed.setIfInBounds i true)) (Q:=Q) hR (hok i _ ho) henv hst ⟨fun _ μ' a' w' hR'=>?_,fun v hv=>by simp at hv⟩
   ·
    split at hcont
    · rename_i hw; rw [if_pos hw]; exact .inl hcont
    · rename_i hw; rw [if_neg hw]; exact hcont
   ·
    refine ih (pre++post) _ s1 μ' a' w' (by simp at hn ⊢; omega) hR' (by simp [hsz]) ?_ ?_ ?_ hrest
    ·
     have hget:∀ j,(listed.setIfInBounds i true).getD j true=if j=i then true else listed.getD j true:=by
      intro j
      simp only [Array.getD_eq_getD_getElem?,Array.getElem?_setIfInBounds]
      by_cases e:i=j
      · subst e; simp [show i < listed.size by omega]
      · simp [e,Ne.symm e]
     have h1:(List.range m).filter (fun j=>!(listed.setIfInBounds i true).getD j true)=((List.range m).filter (fun j=>!listed.getD j true)).filter (fun j=>decide (j ≠ i)):=by
      rw [List.filter_filter]
      apply List.filter_congr
      intro j _
      rw [hget]
      by_cases e:j=i <;> simp [e]
     rw [h1,<-hRe,List.filter_append,List.filter_cons]
     simp only [ne_eq,not_true_eq_false,decide_false,Bool.false_eq_true,if_false]
     rw [List.filter_eq_self.2 fun j hj=>by have:=hpre j hj; simp; omega,List.filter_eq_self.2 fun j hj=>by have:=hpost j hj; simp; omega]
    ·
     simp only [Array.getD_eq_getD_getElem?,Array.getElem?_setIfInBounds,if_neg (show ¬ i=m by omega)]
     simpa [Array.getD_eq_getD_getElem?] using hlm
    ·
     intro k ok hk hkl k' hk'
     have hget:∀ (d:Bool) (j:Nat),j < ops.size->(listed.setIfInBounds i true).getD j d=if j=i then true else listed.getD j d:=by
      intro d j hj
      simp only [Array.getD_eq_getD_getElem?,Array.getElem?_setIfInBounds]
      by_cases e:i=j
      · subst e; simp [show i < listed.size by omega]
      · simp [e,Ne.symm e]
     have hklt:=(Array.getElem?_eq_some_iff.1 hk).1
     have hk'lt:k' < ops.size:=by have:=hback k ok hk k' hk'; omega
     rw [hget _ _ hklt] at hkl
     rw [hget _ _ hk'lt]
     by_cases e2:k'=i
     · simp [e2]
     ·
      rw [if_neg e2]
      by_cases e1:k=i
      ·
       subst e1
       rw [ho] at hk; cases hk
       exact hpreds k' hk'
      ·
       rw [if_neg e1] at hkl
       exact hcl k ok hk hkl k' hk'
theorem aRun_iRunL {τ:Nat->List Bid × List Bid}:∀ (l:List Oper) (k:Nat) (s sf:St) (tr:Trace),(∀ j,j < l.length->l[j]?=ops[k + j]?)->aRun (TI.of Γ.P) env ops l s=.done sf tr->(∀ j,j < l.length->τ (k + j)=tr.getD j ([],[]))->iRun (TI.of Γ.P) env ops τ (List.range' k l.length) s=some sf
 | [],k,s,sf,tr,_,h,_=>by simp only [aRun,Run.done.injEq] at h; simp [iRun,h.1]
 | o :: l,k,s,sf,tr,hl,h,ht=>by
  simp only [aRun] at h
  cases hs:aStep (TI.of Γ.P) env ops o s with
  | none=>rw [hs] at h; cases h
  | some out=>
   obtain ⟨s1,c,f,pan⟩:=out
   rw [hs] at h
   cases pan with
   | some v=>cases h
   | none=>
    simp only at h
    cases hrn:aRun (TI.of Γ.P) env ops l s1 with
    | pan s' v=>rw [hrn] at h; cases h
    | bad=>rw [hrn] at h; cases h
    | done s' tr'=>
     rw [hrn] at h
     simp only [Run.cons,Run.done.injEq] at h
     obtain ⟨rfl,rfl⟩:=h
     have h0:=ht 0 (by simp)
     simp only [Nat.add_zero,List.getD_cons_zero] at h0
     rw [List.length_cons,List.range'_succ]
     refine iRun_mk (by simpa using (hl 0 (by simp)).symm) (by rw [h0]; exact hs) ?_
     refine aRun_iRunL l (k + 1) s1 s' tr' (fun j hj=>by have:=hl (j + 1) (by simpa using hj); simpa [Nat.add_assoc,Nat.add_comm 1 j] using this) hrn (fun j hj=>?_)
     have:=ht (j + 1) (by simpa using hj)
     rw [show k + 1 + j=k + (j + 1) from by omega,this]
     simp
theorem sim_drawL (henv:EnvOK Γ.P env) {id:Nat} (hmix:Γ.P.follows .mixedOrders=true) (hok:∀ o ∈ ops.toList,opOK Γ.P Γ.n o=true) (hd:drawOK ops=true) {s sf:St} {tr:Trace} {m:Nat} (hm:m + 1=ops.size) (hlast:∀ j,j < m->((befL [] ops.toList).getD m 0).testBit j=true) {oL:Oper} (hoL:ops[m]?=some oL) (hrun:aRun (TI.of Γ.P) env ops (ops.toList.take m) s=.done sf tr) (htr:okDraw ops tr=true) {out:Out} (hout:aStep (TI.of Γ.P) env ops oL sf=some out)
  {Q:Exit->Act->World->Prop} (hQ:StepK Γ out (Q .normal) Q) {μ:Lay} {a:Act} {w:World} (h:Rel Γ s μ a w):(Code.region id ops true).wp Γ.P Q a w:=by
 refine wp_region_any hmix ?_
 have hok':∀ (i:Nat) (o:Oper),ops[i]?=some o->opOK Γ.P Γ.n o=true:=fun i o ho=>hok o (by have:=Array.mem_of_getElem? ho; simpa using this)
 have hdrew:Rel Γ s μ a { w with drawn:=w.drawn + 1 }:=h.grow ⟨rfl,rfl,rfl,Nat.le_refl _,fun _ _=>rfl⟩ (NF.heap rfl)
 have hlen:(ops.toList.take m).length=m:=by simp; omega
 have hir:=aRun_iRunL (τ:=fun i=>tr.getD i ([],[])) (ops.toList.take m) 0 s sf tr (fun j hj=>by rw [hlen] at hj; simp [hj]) hrun (fun j _=>by simp)
 rw [hlen,<-List.range_eq_range'] at hir
 have:=any_orderL (Q:=Q) henv hok' hd (τ:=fun i=>tr.getD i ([],[])) (fun i j oi oj hij hoi hoj hb=>?_) hm hlast hoL hout hQ m (List.range m) (Array.replicate ops.size false) s μ a _ (by simp) hdrew (by simp) ?_ ?_ ?_ hir
 · rw [hm] at this; exact this
 ·
  simp only [okDraw,Bool.or_eq_true] at htr
  rcases htr with htr | htr
  ·
   have he:∀ k,(tr.getD k ([],[])).1.isEmpty=true:=by
    intro k
    rw [List.getD_eq_getElem?_getD]
    cases hk:tr[k]? with
    | none=>rfl
    | some x=>exact List.all_eq_true.1 htr x (List.mem_of_getElem? hk)
   simp only [pairOK,he i,he j]
   rfl
  ·
   by_cases hp1:pureOp oi.op=true
   · simp [pairOK,hp1]
   ·
    by_cases hp2:pureOp oj.op=true
    · simp [pairOK,hp2]
    ·
     have hjl:=(Array.getElem?_eq_some_iff.1 hoj).1
     have hmem:(i,j) ∈ loosePairs ops:=by
      simp only [loosePairs,List.mem_flatMap,List.mem_filterMap,List.mem_range]
      refine ⟨j,hjl,i,hij,?_⟩
      rw [hoi,hoj]
      simp only []
      rw [if_neg (by rw [hb]; simp [hp1,hp2])]
     have:=List.all_eq_true.1 htr _ hmem
     simp only [hoi,hoj] at this
     exact this
 ·
  symm
  apply List.filter_eq_self.2
  intro i hi
  rw [List.mem_range] at hi
  have:i < ops.size:=by omega
  simp [Array.getD_eq_getD_getElem?,this]
 ·
  have:m < ops.size:=by omega
  simp [Array.getD_eq_getD_getElem?,this]
 ·
  intro i o ho hl
  have:=(Array.getElem?_eq_some_iff.1 ho).1
  simp [Array.getD_eq_getD_getElem?,this] at hl
def lastOK (ops:Array Oper) (m:Nat):Bool:=decide (m + 1=ops.size) && (List.range m).all fun j=>((befL [] ops.toList).getD m 0).testBit j
theorem awp_drawL {id:Nat} {l:List Oper} {oL:Oper} (m:Nat) {Q:X->St->Prop} {s:St} (hl:lastOK l.toArray m=true) (hoL:l[m]?=some oL)
  (h:opsK Γ env l.toArray (l.take m) s (fun s1 tr=>okDraw l.toArray tr=true/\stepK (fun s' _ _=>Q .normal s') Q (aStep (TI.of Γ.P) env l.toArray oL s1)) (fun _ _=>False)):awp Γ env (.region id l.toArray true) Q s:=by
 intro henv hok μ a w hR
 simp only [codeOK,Bool.and_eq_true,Bool.not_true,Bool.false_or] at hok
 simp only [lastOK,Bool.and_eq_true,decide_eq_true_eq,List.all_eq_true,List.mem_range] at hl
 unfold opsK runK at h
 split at h
 ·
  rename_i s' tr hr
  obtain ⟨h1,h2⟩:=h
  cases hs:aStep (TI.of Γ.P) env l.toArray oL s' with
  | none=>rw [hs] at h2; exact h2.elim
  | some out=>
   rw [hs] at h2
   obtain ⟨s2,c,f,pan⟩:=out
   refine sim_drawL henv hok.2.2 (fun o ho=>List.all_eq_true.1 hok.1 o ho) hok.2.1 hl.1 hl.2 (by simpa using hoL) (tr:=tr) (by simpa using hr) h1 hs ⟨fun hp μ' a' w' hR'=>?_,fun v hp x μ' a' w' hR' hx=>?_⟩ hR
   ·
    simp only at hp
    subst hp
    exact ⟨s2,μ',hR',h2⟩
   ·
    simp only at hp
    subst hp
    exact ⟨s2,μ',v,x,rfl,hR',hx,h2⟩
 · exact h.elim
 · exact h.elim
end
section
variable {Γ:Ctx} {env:Env} {s:St} {μ:Lay} {a:Act} {w:World}
def awpQ (Γ:Ctx) (c:Code) (Qf:Exit->Act->World->Prop) (s:St):Prop:=∀ μ a w,Rel Γ s μ a w->c.wp Γ.P Qf a w
def noQ:X->St->Prop:=fun _ _=>False
theorem awpQ_seq {A B:Code} {Qf:Exit->Act->World->Prop} (henv:EnvOK Γ.P env) (hok:codeOK Γ.P Γ.n A=true) (h:∀ K:St->Prop,(∀ s,awpQ Γ B Qf s->K s)->awp Γ env A (thenX K noQ) s):awpQ Γ (.seq A B) Qf s:=by
 intro μ a w hR
 refine wp_seq (Code.wp_mono ?_ (h (awpQ Γ B Qf) (fun _ h=>h) henv hok μ a w hR))
 intro e a' w' he
 cases e with
 | normal=>obtain ⟨s',μ',h1,h2⟩:=he; exact h2 μ' a' w' h1
 | exit i=>obtain ⟨_,_,_,h2⟩:=he; exact h2.elim
 | ret=>obtain ⟨_,_,_,h2⟩:=he; exact h2.elim
 | panic ch=>obtain ⟨_,_,_,_,_,_,_,h2⟩:=he; exact h2.elim
 | goto l=>exact he.elim
 | outgrown=>exact he.elim
theorem awpQ_of {A:Code} {Q:X->St->Prop} {Qf:Exit->Act->World->Prop} (henv:EnvOK Γ.P env) (hok:codeOK Γ.P Γ.n A=true) (h:awp Γ env A Q s)
  (hQ:∀ s μ a w,Rel Γ s μ a w->(Q .normal s->Qf .normal a w)/\(Q .ret s->Qf .ret a w)/\(∀ i,Q (.exit i) s->Qf (.exit i) a w)/\∀ v x,Rep w (forb Γ.Mx μ s.H) μ s.H v x->Q (.pan v) s->Qf (.panic [{ v:=x,recovered:=false }]) a w):awpQ Γ A Qf s:=by
 intro μ a w hR
 refine Code.wp_mono ?_ (h henv hok μ a w hR)
 intro e a' w' he
 cases e with
 | normal=>obtain ⟨s',μ',h1,h2⟩:=he; exact (hQ s' μ' a' w' h1).1 h2
 | exit i=>obtain ⟨s',μ',h1,h2⟩:=he; exact (hQ s' μ' a' w' h1).2.2.1 i h2
 | ret=>obtain ⟨s',μ',h1,h2⟩:=he; exact (hQ s' μ' a' w' h1).2.1 h2
 | panic ch=>obtain ⟨s',μ',v,x,rfl,h1,hx,h2⟩:=he; exact (hQ s' μ' a' w' h1).2.2.2 v x hx h2
 | goto l=>exact he.elim
 | outgrown=>exact he.elim
theorem start_rel {P:Program} {args:List AV} {bx:List Box} {Mx:Nat->Prop} {pin:Nat->Option (Nat × Nat)} {vals:Array Value} {n:Nat} {lp:Bool} (hA:HArgs P w Mx pin args bx vals μ) (hlen:args.length<=n) :
  Rel ⟨P,w,Mx,n,pin,[],lp⟩ ⟨argsF args,hB bx⟩ μ { tmps:=vals++Array.replicate (n - vals.size) undef,defers:=[] } w:=by
 have hsz:=hA.sz
 refine ⟨Marks.nil ⟨P,w,Mx,n,pin,[],lp⟩ _,by simp; omega,hA.mem.hx,fun i=>?_,hA.mem.hb,hA.mem.hi,hA.mem.hf,hA.mem.hw,hA.mem.hp⟩
 simp only [argsF]
 by_cases hi:i < args.length
 ·
  have hgi:args[i]?=some args[i]:=List.getElem?_eq_getElem hi
  have hv:=hA.rep i _ hgi
  have e1:args.getD i .u=args[i]:=by simp [hi]
  have e2:(vals++Array.replicate (n - vals.size) undef).getD i undef=vals.getD i undef:=by
   simp only [Array.getD_eq_getD_getElem?,Array.getElem?_append,show i < vals.size by omega,if_true]
  rw [e1,e2]
  exact hv
 ·
  have e1:args.getD i .u=.u:=by simp [List.getD_eq_getElem?_getD,List.getElem?_eq_none (by omega:args.length<=i)]
  rw [e1]
  exact .u _ _
theorem sound_ofQ {P:Program} {f:FuncId} {fn:Func} {c:Code} {S:HSpec} (hf:P.funcs[f]?=some fn) (hb:fn.body=some c)
  (h:∀ args bx hr,S args bx=some hr->args.length<=fn.ntmps/\goOns bx hr.up/\∀ (w:World) (Mx:Nat->Prop) (pin:Nat->Option (Nat × Nat)),(∀ i,bx.length<=i->pin i=none) ->
   awpQ ⟨P,w,Mx,fn.ntmps,pin,[],false⟩ c (bodyPostM Fence.wide 0 P fn (HPost P w Mx pin hr)) ⟨argsF args,hB bx⟩):HSound P f S:=by
 intro args bx hr hS
 obtain ⟨hlen,hgo,hbody⟩:=h args bx hr hS
 refine ⟨hgo,fun w Mx pin vals μ hA hpin=>?_⟩
 exact callsIn_wide.1 (callsIn_of_wp_marks (F:=Fence.wide) (n:=0) hf hb trivial (wpIn_wide.2 (hbody w Mx pin hpin μ _ w (start_rel hA hlen))))
theorem sim_pre {ops:Array Oper} (henv:EnvOK Γ.P env) {Q:Exit->Act->World->Prop} {l2:List Oper}:∀ (l:List Oper) (s sf:St) (tr:Trace) (μ:Lay) (a:Act) (w:World),(∀ o ∈ l,opOK Γ.P Γ.n o=true)->Rel Γ s μ a w ->
  aRun (TI.of Γ.P) env ops l s=.done sf tr->(∀ μ a w,Rel Γ sf μ a w->wpList Γ.P ops Q l2 a w)->wpList Γ.P ops Q (l++l2) a w
 | [],s,sf,tr,μ,a,w,_,h,hr,hk=>by
  simp only [aRun,Run.done.injEq] at hr
  obtain ⟨rfl,_⟩:=hr
  exact hk μ a w h
 | o :: l,s,sf,tr,μ,a,w,hok,h,hr,hk=>by
  refine wpList_step fun K hK=>?_
  simp only [aRun] at hr
  cases hs:aStep (TI.of Γ.P) env ops o s with
  | none=>rw [hs] at hr; cases hr
  | some out=>
   rw [hs] at hr
   obtain ⟨s',c,f,pan⟩:=out
   cases pan with
   | some v=>cases hr
   | none=>
    simp only at hr
    cases hrn:aRun (TI.of Γ.P) env ops l s' with
    | pan s'' v=>rw [hrn] at hr; cases hr
    | bad=>rw [hrn] at hr; cases hr
    | done s'' tr'=>
     rw [hrn] at hr
     simp only [Run.cons,Run.done.injEq] at hr
     obtain ⟨rfl,rfl⟩:=hr
     refine sim_step h (hok o (by simp)) henv hs ⟨fun hp μ' a' w' hR=>hK _ _ (sim_pre henv l s' s'' tr' μ' a' w' (fun o ho=>hok o (by simp [ho])) hR hrn hk),fun v hp=>by simp at hp⟩
def renIn:Ren->Prop
 | []=>True
 | (_,none) :: l=>renIn l
 | (_,some b) :: l=>(∀ p ∈ l,p.2 ≠ some b)/\renIn l
theorem renIn_inj:∀ {ρ:Ren},renIn ρ->∀ b1 b2 b,ρ.lookup b1=some (some b)->ρ.lookup b2=some (some b)->b1=b2
 | [],_,_,_,_,h,_=>by simp at h
 | (c,o) :: l,hr,b1,b2,b,h1,h2=>by
  have tail:renIn l:=by cases o <;> simp only [renIn] at hr; exact hr; exact hr.2
  simp only [List.lookup] at h1 h2
  split at h1 <;> split at h2
  ·
   have e1:b1=c:=by simpa using ‹(b1 == c)=true›
   have e2:b2=c:=by simpa using ‹(b2 == c)=true›
   rw [e1,e2]
  ·
   cases h1
   simp only [renIn] at hr
   exact absurd rfl (hr.1 _ (lookup_mem h2))
  ·
   cases h2
   simp only [renIn] at hr
   exact absurd rfl (hr.1 _ (lookup_mem h1))
  · exact renIn_inj tail b1 b2 b h1 h2
def CapsOK (pin:Nat->Option (Nat × Nat)) (m:Nat) (caps:Array Value):Prop:=caps.size=m/\∀ j,j < m->∃ g c,pin j=some (g,c)/\caps[j]?=some (.pointer (some ⟨g,0,none⟩))
def capL:Nat->Nat->List AV
 | _,0=>[]
 | i,m + 1=>.ref (1,i) 0 :: capL (i + 1) m
theorem capL_len:∀ (i m:Nat),(capL i m).length=m
 | i,0=>rfl
 | i,m + 1=>by simp [capL,capL_len (i + 1) m]
theorem capL_at:∀ (i m j:Nat),j < m->(capL i m)[j]?=some (.ref (1,i + j) 0)
 | i,0,j,h=>by omega
 | i,m + 1,0,h=>rfl
 | i,m + 1,j + 1,h=>by
  have:=capL_at (i + 1) m j (by omega)
  simp only [capL,List.getElem?_cons_succ,this]
  congr 3
  omega
theorem wpList_val {ops:Array Oper} {o:Oper} {os:List Oper} {Q:Exit->Act->World->Prop} (hg:o.guard=none) (h:Rel Γ s μ a w) (hd:∀ t,o.dst=some t->t < Γ.n) {v:AV} {x:Value} (hrun:(execOp a.eval o).run Γ.P w=.ok (.value x) w) (hv:Rep w (forb Γ.Mx μ s.H) μ s.H v x)
  (hk:∀ a' w',Rel Γ ⟨tput s.t o.dst v,s.H⟩ μ a' w'->wpList Γ.P ops Q os a' w'):wpList Γ.P ops Q (o :: os) a w:=by
 simp only [wpList]
 rw [if_pos (by simp [Region.wanted,hg])]
 exact .inl (wp_value hrun (hk _ _ (h.put hd hv)))
theorem ofL_le {H0 H':Heap} {ρ:Ren} {t:Nat->AV} (i:Nat):∀ (l:List (Nat × AV)),tmpsOK H0 H' ρ t l->le H0 H' ρ (ofL l i) (t i)
 | [],_=>by simp [ofL,le]
 | (k,v) :: l,h=>by
  simp only [tmpsOK] at h
  simp only [ofL,fput]
  split
  · rename_i e; rw [e]; exact h.1
  · exact ofL_le i l h.2
def liveO:Option Box->Bool
 | some x=>x.live
 | none=>false
@[go_sem] theorem liveO_obj (cs):liveO (some (.obj cs))=true:=rfl
@[go_sem] theorem liveO_row (e sz L z):liveO (some (.row e sz L z))=true:=rfl
def liveR (H:Heap):Ren->Prop
 | []=>True
 | (_,none) :: l=>liveR H l
 | (_,some b) :: l=>liveO (H b)=true/\liveR H l
theorem liveR_at {H:Heap}:∀ {ρ:Ren},liveR H ρ->∀ b' b,(b',some b) ∈ ρ->liveO (H b)=true
 | [],_,b',b,h=>by simp at h
 | (c,none) :: l,hr,b',b,h=>by
  rcases List.mem_cons.1 h with e | h2
  · cases e
  · exact liveR_at (ρ:=l) hr b' b h2
 | (c,some b0) :: l,hr,b',b,h=>by
  rcases List.mem_cons.1 h with e | h2
  · cases e; exact hr.1
  · exact liveR_at (ρ:=l) hr.2 b' b h2
theorem awpQ_defer {B:Code} {Qf:Exit->Act->World->Prop} {id:Nat} {o1 oD:Oper} {tf:Tmp} {at_:Array TypeId} (hoD:oD.op=.defer { callee:=.value (.tmp tf),args:=#[],argTypes:=at_ }) (hg:oD.guard=none) (hdst:oD.dst=none)
  (henv:EnvOK Γ.P env) (hok:opOK Γ.P Γ.n o1=true) (hdf:Γ.df=[]) (hlp:Γ.lp=false) (hpin:∀ i,Γ.pin i=none)
  (h:opsK Γ env #[o1,oD] [o1] s (fun s1 _=>∃ g m tl hl ρ,le s1.H (hOf hl) ρ (.fn g (capL 0 m)) (s1.t tf)/\renIn ρ/\tmpsOK s1.H (hOf hl) ρ s1.t tl/\boxesOK (hOf hl) ρ s1.H hl/\liveR s1.H ρ /\
   ∀ pin2 caps,CapsOK pin2 m caps->(∀ i g c,pin2 i=some (g,c)->Γ.w0.heap.size<=g)->awpQ ⟨Γ.P,Γ.w0,Γ.Mx,Γ.n,pin2,[⟨.fn (.func g) caps,#[]⟩],false⟩ B Qf ⟨ofL tl,hOf hl⟩) (fun _ _=>False)):awpQ Γ (.seq (.region id #[o1,oD] false) B) Qf s:=by
 intro μ a w hR
 refine wp_seq (wp_region_list ?_)
 unfold opsK runK at h
 split at h
 ·
  rename_i s1 tr hrun
  obtain ⟨g,m,tl,hl,ρ,hcl,hin,ht,hb,hlive,hk⟩:=h
  refine sim_pre henv [o1] s s1 tr μ a w (by simpa using hok) hR hrun fun μ1 a1 w1 hR1=>?_
  have had:a1.defers=[]:=by rw [hR1.hd.none hlp,hdf]
  have hlv:∀ i g c,renLay ρ μ1 (1,i)=some (g,c)->Γ.w0.heap.size<=g:=by
   intro i g c hp
   unfold renLay at hp
   split at hp
   ·
    rename_i b hlk
    have h1:=liveR_at hlive _ _ (lookup_mem hlk)
    cases hb1:s1.H b with
    | none=>rw [hb1] at h1; cases h1
    | some x=>
     rw [hb1] at h1
     rcases hR1.hf b x g c hb1 hp h1 with h | ⟨j,cc,h⟩
     · exact h
     · rw [hpin j] at h; cases h
   · cases hp
  obtain ⟨hm,hrep⟩:=retellP hR1 (pin2:=fun i=>renLay ρ μ1 (1,i)) (fun i g c hp=>.inr (hlv i g c hp)) (fun g ⟨j,c,hp⟩=>by rw [hpin j] at hp; cases hp) ρ (renIn_inj hin) hb (fun _ _ _ _=>rfl)
  have hval:=hrep _ _ (hR1.ht tf) _ hcl
  generalize hfv:a1.tmps.getD tf undef=fv at hval
  obtain ⟨caps,rfl,hcaps⟩:∃ caps,fv=.func (.func g) #[] caps/\CapsOK (fun i=>renLay ρ μ1 (1,i)) m caps:=by
   cases hval with
   | fn _ _ _ vs gg hs hv hr=>
    refine ⟨vs,rfl,by rw [hs,capL_len],fun j hj=>?_⟩
    have h1:=hr j _ (capL_at 0 m j hj)
    have h2:=hv j (by rw [capL_len]; exact hj)
    generalize gg j=y at h1 h2
    cases h1 with
    | ref _ _ _ cs g' c hH hμ=>
     rw [Nat.zero_add] at hμ
     exact ⟨g',c,hμ,h2⟩
  simp only [wpList]
  rw [if_pos (by simp [Region.wanted,hg])]
  left
  have hrunD:(execOp a1.eval oD).run Γ.P w1=.ok (.defer ⟨.fn (.func g) caps,#[]⟩) w1:=by
   have he:a1.eval (.tmp tf)=.func (.func g) #[] caps:=hfv
   simp only [execOp,hoD,resolve,he,Deferred.ofValue,Sem.run_bind,Sem.run_pure,Result.andThen_ok,Array.empty_append,List.map_toArray,List.map_nil]
  unfold Oper.wp
  rw [hrunD]
  show Code.wp Γ.P B Qf _ _
  simp only [hdst,Act.put]
  refine hk (fun i=>renLay ρ μ1 (1,i)) caps hcaps hlv (renLay ρ μ1) _ w1 ⟨?_,hR1.hn,hm.hx,fun i=>hrep _ _ (hR1.ht i) _ (ofL_le i tl ht),hm.hb,hm.hi,hm.hf,hm.hw,hm.hp⟩
  simp only [had]
  exact Marks.nil ⟨Γ.P,Γ.w0,Γ.Mx,Γ.n,fun i=>renLay ρ μ1 (1,i),[⟨.fn (.func g) caps,#[]⟩],false⟩ w1
 · exact h.elim
 · exact h.elim
def DSound (P:Program) (g:FuncId) (S:Option AV->HSpec):Prop:=
 ∀ (p:Option AV) (args:List AV) (bx:List Box) (hr:HR),S p args bx=some hr->goOns bx hr.up/\(∀ q,hr.v ≠ .pnc q)/\∀ (w:World) (Mx:Nat->Prop) (pin:Nat->Option (Nat × Nat)) (vals:Array Value) (μ:Lay),HArgs P w Mx pin args bx vals μ->(∀ i,bx.length<=i->pin i=none) ->
  (p=none->CallsDIn Fence.wide 0 P g vals .returning w fun e u' w'=>u'=.returning/\HPost P w Mx pin hr e w') /\
  ∀ q x,p=some q->Rep w (forb Mx μ (hB bx)) μ (hB bx) q x->CallsDIn Fence.wide 0 P g vals (.panicking [{ v:=x,recovered:=false }]) w fun e u' w'=>u'=.panicking [{ v:=x,recovered:=true }]/\HPost P w Mx pin hr e w'
def endD (P:Program) (fn:Func) (R:Ending->World->Prop):Exit->Act->World->Prop
 | .normal,a,w | .ret,a,w=>a.defers=[]/\∃ v,(results fn a.tmps).run P w=.ok v w/\R (.returned v) w
 | _,_,_=>False
theorem opsS_recover {P:Program} {ops:Array Oper} {Q:Exit->Act->List Frame->World->Prop} {i:Nat} {rest:List Nat} {o:Oper} {a:Act} {cs:List Frame} {w:World} (ho:ops[i]?=some o) (hw:Region.wanted o (yielded ops a.tmps)=true) (hr:(execOp a.eval o).run P w=.ok .recover w)
  (h:match recoverD cs with
   | some (v,cs')=>wpOpsSIn Fence.wide 0 P ops Q rest (a.put o.dst v) cs' w
   | none=>wpOpsSIn Fence.wide 0 P ops Q rest (a.put o.dst .nilIface) cs w):wpOpsSIn Fence.wide 0 P ops Q (i :: rest) a cs w:=by
 simp only [wpOpsSIn,ho]
 refine ⟨fun _ _=>trivial,?_⟩
 rw [if_pos hw,hr]
 exact h
theorem opsS_val {P:Program} {ops:Array Oper} {Q:Exit->Act->List Frame->World->Prop} {i:Nat} {rest:List Nat} {o:Oper} {a:Act} {cs:List Frame} {w:World} {v:Value} (ho:ops[i]?=some o) (hw:Region.wanted o (yielded ops a.tmps)=true) (hr:(execOp a.eval o).run P w=.ok (.value v) w)
  (h:wpOpsSIn Fence.wide 0 P ops Q rest (a.put o.dst v) cs w):wpOpsSIn Fence.wide 0 P ops Q (i :: rest) a cs w:=by
 simp only [wpOpsSIn,ho]
 refine ⟨fun _ _=>trivial,?_⟩
 rw [if_pos hw,hr]
 exact h
theorem sound_ofD {P:Program} {g:FuncId} {fn:Func} {B:Code} {S:Option AV->HSpec} {id:Nat} {oR oA:Oper} {d e:Tmp} {ty ty2:TypeId} {ps ps2:String} {af af2:Array Edge} (hf:P.funcs[g]?=some fn)
  (hb:fn.body=some (.seq (.region id #[oR,oA] false) B)) (hoR:oR={ dst:=some d,op:=.call { callee:=.builtin .recover,args:=#[],argTypes:=#[] },type:=ty,pos:=ps,after:=af,guard:=none }) (hoA:oA={ dst:=some e,op:=.assign (.tmp d),type:=ty2,pos:=ps2,after:=af2,guard:=none }) (hd:d < fn.ntmps) (he:e < fn.ntmps)
  (h:∀ p args bx hr,S p args bx=some hr->args.length<=fn.ntmps/\goOns bx hr.up/\(∀ q,hr.v ≠ .pnc q)/\∀ (w:World) (Mx:Nat->Prop) (pin:Nat->Option (Nat × Nat)),
   awpQ ⟨P,w,Mx,fn.ntmps,pin,[],false⟩ B (endD P fn (HPost P w Mx pin hr)) ⟨tput (tput (argsF args) (some d) (p.getD .nili)) (some e) (p.getD .nili),hB bx⟩):DSound P g S:=by
 intro p args bx hr hS
 obtain ⟨hlen,hgo,hnp,hbody⟩:=h p args bx hr hS
 refine ⟨hgo,hnp,fun w Mx pin vals μ hA hpin=>?_⟩
 have key:∀ (u u':FrameMode) (x:Value),Rep w (forb Mx μ (hB bx)) μ (hB bx) (p.getD .nili) x->(∀ (c₀:Frame) (cs:List Frame),c₀.mode=u->(recoverD (c₀ :: cs)=none/\x=.nilIface/\u'=u)\/recoverD (c₀ :: cs)=some (x,{ c₀ with mode:=u' } :: cs)) ->
   CallsDIn Fence.wide 0 P g vals u w fun e u'' w'=>u''=u'/\HPost P w Mx pin hr e w':=by
  intro u u' x hx hrec
  refine callsDIn_of_wpSIn hf hb trivial fun c₀ cs hu=>wpSIn_seq (wpSIn_region ?_)
  have hstart:=start_rel (lp:=false) hA hlen
  have hR1:=(hstart.put (d:=some d) (fun t ht=>by cases ht; exact hd) hx).put (d:=some e) (fun t ht=>by cases ht; exact he) (v:=p.getD .nili) (x:=x) hx
  have hB:=hbody w Mx pin μ _ _ hR1
  have fin:∀ (cs':List Frame),cs'={ c₀ with mode:=u' } :: cs->B.wpSIn Fence.wide 0 P (bodyPostS P fn c₀ cs fun e u'' w'=>u''=u'/\HPost P w Mx pin hr e w') (({ tmps:=vals++Array.replicate (fn.ntmps - vals.size) undef,defers:=[] }:Act).put (some d) x |>.put (some e) x) cs' w:=by
   intro cs' hcs
   refine wpSIn_of_wpIn rfl (wpIn_wide.2 (Code.wp_mono ?_ hB))
   intro ex a' w' he'
   cases ex with
   | normal=>obtain ⟨q1,v,q2,q3⟩:=he'; exact ⟨q1,u',hcs,v,q2,rfl,q3⟩
   | ret=>obtain ⟨q1,v,q2,q3⟩:=he'; exact ⟨q1,u',hcs,v,q2,rfl,q3⟩
   | _=>exact he'.elim
  have hget:(({ tmps:=vals++Array.replicate (fn.ntmps - vals.size) undef,defers:=[] }:Act).put (some d) x).eval (.tmp d)=x:=by
   have hsz:d < (vals++Array.replicate (fn.ntmps - vals.size) undef).size:=by
    rw [Array.size_append,Array.size_replicate]
    exact Nat.lt_of_lt_of_le hd (by omega)
   show (({ tmps:=vals++Array.replicate (fn.ntmps - vals.size) undef,defers:=[] }:Act).put (some d) x).tmps.getD d undef=x
   rw [getD_put _ _ _ _ (fun t ht=>by cases ht; exact hsz),if_pos rfl]
  have e1:∀ (ρ:Operand->Value),(execOp ρ oR).run P w=.ok .recover w:=by
   intro ρ
   rw [hoR]
   simp [execOp,resolve,invoke,builtin]
  have e2:∀ (ρ:Operand->Value),(execOp ρ oA).run P w=.ok (.value (ρ (.tmp d))) w:=by
   intro ρ
   rw [hoA]
   simp [execOp]
  have hr2:List.range (#[oR,oA]:Array Oper).size=[0,1]:=rfl
  rw [hr2]
  have w0:Region.wanted oR (yielded #[oR,oA] ({ tmps:=vals++Array.replicate (fn.ntmps - vals.size) undef,defers:=[] }:Act).tmps)=true:=by rw [hoR]; rfl
  have w1:∀ t,Region.wanted oA (yielded #[oR,oA] t)=true:=fun t=>by rw [hoA]; rfl
  have d0:oR.dst=some d:=by rw [hoR]
  have d1:oA.dst=some e:=by rw [hoA]
  refine opsS_recover (o:=oR) rfl w0 (e1 _) ?_
  rw [d0]
  have last:∀ cs',cs'={ c₀ with mode:=u' } :: cs->wpOpsSIn Fence.wide 0 P #[oR,oA] (Exit.thenS (B.wpSIn Fence.wide 0 P (bodyPostS P fn c₀ cs fun e u'' w'=>u''=u'/\HPost P w Mx pin hr e w')) (bodyPostS P fn c₀ cs fun e u'' w'=>u''=u'/\HPost P w Mx pin hr e w')) [1] (({ tmps:=vals++Array.replicate (fn.ntmps - vals.size) undef,defers:=[] }:Act).put (some d) x) cs' w:=by
   intro cs' hcs
   refine opsS_val (o:=oA) rfl (w1 _) (e2 _) ?_
   rw [d1,hget]
   exact fin cs' hcs
  rcases hrec c₀ cs hu with ⟨hr0,rfl,rfl⟩ | hr0
  ·
   rw [hr0]
   exact last _ (by rw [<-hu])
  ·
   rw [hr0]
   exact last _ rfl
 constructor
 ·
  rintro rfl
  exact key .returning .returning .nilIface (.nili _) fun c₀ cs hu=>.inl ⟨by simp [recoverD,hu],rfl,rfl⟩
 ·
  rintro q x rfl hx
  exact key _ _ x hx fun c₀ cs hu=>.inr (by simp [recoverD,hu])
def capB:Nat->Nat->List Bid
 | _,0=>[]
 | i,m + 1=>(1,i) :: capB (i + 1) m
theorem capB_at:∀ (i m j:Nat) (b:Bid),(capB i m)[j]?=some b->j < m/\b=(1,i + j)
 | i,0,j,b,h=>by simp [capB] at h
 | i,m + 1,0,b,h=>by simp [capB] at h; exact ⟨by omega,h.symm⟩
 | i,m + 1,j + 1,b,h=>by
  simp only [capB,List.getElem?_cons_succ] at h
  obtain ⟨h1,h2⟩:=capB_at (i + 1) m j b h
  exact ⟨by omega,by rw [h2]; congr 1; omega⟩
theorem capB_mem {i m:Nat} {b:Bid} (h:b ∈ capB i m):∃ j,j < m/\b=(1,i + j):=by
 obtain ⟨j,hj⟩:=List.mem_iff_getElem?.1 h
 exact ⟨j,capB_at i m j b hj⟩
theorem capB_nodup:∀ (i m:Nat),(capB i m).Nodup
 | i,0=>List.nodup_nil
 | i,m + 1=>List.nodup_cons.2 ⟨fun h=>by
   obtain ⟨j,_,h2⟩:=capB_mem h
   have:i=i + 1 + j:=congrArg Prod.snd h2
   omega,capB_nodup (i + 1) m⟩
theorem defer_end {P:Program} {fn:Func} {g m n N0:Nat} {w00:World} {Mx:Nat->Prop} {pin pin2:Nat->Option (Nat × Nat)} {caps:Array Value} {u:FrameMode} {p:Option AV} {S:Option AV->HSpec} {hrC hr:HR} {H2:Heap} {ρ:Ren}
  (hent:entersB P g=true) (hD:DSound P g S) (h:Rel ⟨P,w00,Mx,n,pin2,[⟨.fn (.func g) caps,#[]⟩],false⟩ s μ a w) (hcaps:CapsOK pin2 m caps) (hfresh:∀ i g c,pin2 i=some (g,c)->w00.heap.size<=g) (hpin:∀ i,pin i=none) (hup:hr.up=[])
  (hobj:∀ j,j < m->∃ cs,s.H (1,j)=some (.obj cs))
  (hu:(p=none/\u=.returning)\/∃ q x,p=some (told s.H (capB 0 m) 5 q)/\u=.panicking [{ v:=x,recovered:=false }]/\Rep w (forb Mx μ s.H) μ s.H q x)
  (hS:S p ((capL 0 m).map (told s.H (capB 0 m) 5)) (boxC s.H (capB 0 m))=some hrC) (hA:After s.H (capB 0 m) (0,N0) hrC.up hrC.nw (back (capB 0 m) (0,N0) 5) H2)
  (hfin:renOK ρ/\boxesOK (hOf (outL hr)) ρ H2 (outL hr)/\resH (TI.of P) ⟨s.t,H2⟩ (hOf (outL hr)) ρ hr.v fn.results.toList/\∀ p,hr.v ≠ .pnc p) :
  LeavesInM Fence.wide 0 P fn a.tmps (HPost P w00 Mx pin hr) a.defers u w:=by
 have hbs:OkB s.H (capB 0 m):=⟨capB_nodup 0 m,fun b hb=>by
  obtain ⟨j,hj,rfl⟩:=capB_mem hb
  obtain ⟨cs,hc⟩:=hobj j hj
  exact ⟨.obj cs,by rw [Nat.zero_add]; exact hc,rfl⟩⟩
 have hur:u ≠ .run:=by
  rcases hu with ⟨_,rfl⟩ | ⟨_,_,_,rfl,_⟩ <;> simp
 refine leavesM hur h fun w' ht hR=>?_
 have hinv:(invoke (.fn (.func g) caps) #[]).run P w'=.ok (.enter g caps) w':=by
  simp only [invoke,Array.empty_append]
  exact run_callFunc hent caps
 have finish:∀ (e:Ending) (w2:World),(∀ q,hrC.v ≠ .pnc q)->goOns (boxC s.H (capB 0 m)) hrC.up->HPost P w' (MxC ⟨P,w00,Mx,n,pin2,[⟨.fn (.func g) caps,#[]⟩],false⟩ s.H μ (capB 0 m)) (pinC (capB 0 m) μ) hrC e w2 ->
   ∃ v0,e=.returned v0/\∃ v,(results fn a.tmps).run P w2=.ok v w2/\HPost P w00 Mx pin hr (.returned v) w2:=by
  intro e w2 hnp hgo hpost
  obtain ⟨μ',hm,hpost⟩:=hpost
  rcases hpost with ⟨q,x,q1,_⟩ | ⟨_,v0,rfl,_⟩
  · exact absurd q1 (hnp q)
  ·
   refine ⟨v0,rfl,?_⟩
   obtain ⟨μ2,hR2,_⟩:=end_rel hR hbs hgo rfl hm hA
   obtain ⟨f1,f2,f3,f4⟩:=hfin
   obtain ⟨hm2,hrep⟩:=retell hR2 ρ f1 f2
   obtain ⟨v,hv1,hv2⟩:=resH_run hR2 hrep f3
   refine ⟨v,hv1,renLay ρ μ2,⟨fun k hk=>⟨(hm2.hx k hk).1,fun ⟨i,c,hp⟩=>by have h0:=hpin i; rw [show pin i=some (k,c) from hp] at h0; cases h0⟩,hm2.hb,hm2.hi,fun b x k c q1 q2 q3=>?_,⟨hm2.hw.os,hm2.hw.tape,hm2.hw.output,hm2.hw.size,fun k hk _=>hm2.hw.block k hk fun ⟨i,c,hp⟩=>?_,hm2.hw.nf⟩,fun i x q1 _=>?_⟩,.inr ⟨f4,v,rfl,hv2⟩⟩
   ·
    rcases hm2.hf b x k c q1 q2 q3 with h | ⟨i,cc,hp⟩
    · exact .inl h
    · exact .inl (hfresh i k cc hp)
   ·
    have:=hfresh i k c hp
    simp only at hk
    omega
   ·
    rw [hE_one,hup] at q1
    cases q1
 have hA0:HArgs P w' (MxC ⟨P,w00,Mx,n,pin2,[⟨.fn (.func g) caps,#[]⟩],false⟩ s.H μ (capB 0 m)) (pinC (capB 0 m) μ) ((capL 0 m).map (told s.H (capB 0 m) 5)) (boxC s.H (capB 0 m)) caps (layC (capB 0 m) μ):=by
  refine ⟨start_mem hR hbs,by rw [hcaps.1,List.length_map,capL_len],fun i v hi=>?_,fun x hx=>?_⟩
  ·
   rw [List.getElem?_map,Option.map_eq_some_iff] at hi
   obtain ⟨v',hv',rfl⟩:=hi
   have him:i < m:=by
    have:=(List.getElem?_eq_some_iff.1 hv').1
    rwa [capL_len] at this
   rw [capL_at 0 m i him,Nat.zero_add] at hv'
   cases hv'
   obtain ⟨g',c',hp,hc⟩:=hcaps.2 i him
   obtain ⟨cs,hH⟩:=hobj i him
   have e1:caps.getD i undef=.pointer (some ⟨g',0,none⟩):=by simp [Array.getD_eq_getD_getElem?,hc]
   rw [e1]
   exact told_rep hR hbs 5 _ _ (.ref _ _ _ cs g' c' hH (by rw [hR.hp i _ hH rfl]; exact hp))
  ·
   obtain ⟨i,hi⟩:=List.mem_iff_getElem?.1 hx
   obtain ⟨b,y,_,_,q3,rfl⟩:=boxC_at hbs hi
   rw [renB_hot]
   exact q3
 have hpn:∀ i,(boxC s.H (capB 0 m)).length<=i->pinC (capB 0 m) μ i=none:=by
  intro i hi
  simp only [boxC,List.length_map] at hi
  simp [pinC,List.getElem?_eq_none hi]
 obtain ⟨hgo,hnp,hc⟩:=hD p _ _ hrC hS
 obtain ⟨c1,c2⟩:=hc w' _ _ caps _ hA0 hpn
 rcases hu with ⟨rfl,rfl⟩ | ⟨q,x,rfl,rfl,hx⟩
 ·
  refine ⟨hur,.inr ⟨fun h=>(by cases h),.func g,caps,g,caps,rfl,hinv,fun _ _=>trivial,(c1 rfl).mono ?_⟩⟩
  rintro e u' w2 ⟨rfl,hpost⟩
  obtain ⟨v0,rfl,v,hv1,hv2⟩:=finish e w2 hnp hgo hpost
  exact ⟨v,hv1,hv2⟩
 ·
  refine ⟨hur,.inr ⟨fun h=>(by cases h),.func g,caps,g,caps,rfl,hinv,fun _ _=>trivial,(c2 _ x rfl (told_rep hR hbs 5 q x (hx.turned ht))).mono ?_⟩⟩
  rintro e u' w2 ⟨rfl,hpost⟩
  obtain ⟨v0,rfl,v,hv1,hv2⟩:=finish e w2 hnp hgo hpost
  exact ⟨v,hv1,hv2⟩
theorem awpQ_val {B:Code} {Qf:Exit->Act->World->Prop} {id:Nat} {l1 l2:List Oper} {oV:Oper} (henv:EnvOK Γ.P env) (hok1:l1.all (opOK Γ.P Γ.n)=true) (hok2:l2.all (opOK Γ.P Γ.n)=true) (hg:oV.guard=none) (hd:∀ t,oV.dst=some t->t < Γ.n)
  (h:opsK Γ env (l1++oV :: l2).toArray l1 s (fun s1 _=>∃ v,(∀ μ a w,Rel Γ s1 μ a w->∃ x,(execOp a.eval oV).run Γ.P w=.ok (.value x) w/\Rep w (forb Γ.Mx μ s1.H) μ s1.H v x) /\
   opsK Γ env (l1++oV :: l2).toArray l2 ⟨tput s1.t oV.dst v,s1.H⟩ (fun s2 _=>awpQ Γ B Qf s2) noQ) noQ):awpQ Γ (.seq (.region id (l1++oV :: l2).toArray false) B) Qf s:=by
 intro μ a w hR
 refine wp_seq (wp_region_list ?_)
 unfold opsK runK at h
 split at h
 ·
  rename_i s1 tr hrun
  obtain ⟨v,hv,h⟩:=h
  have hl:((l1++oV :: l2).toArray).toList=l1++oV :: l2:=by simp
  rw [hl]
  refine sim_pre henv l1 s s1 tr μ a w (fun o ho=>List.all_eq_true.1 hok1 o ho) hR hrun fun μ1 a1 w1 hR1=>?_
  obtain ⟨x,hx1,hx2⟩:=hv μ1 a1 w1 hR1
  refine wpList_val hg hR1 hd hx1 hx2 fun a2 w2 hR2=>?_
  refine sim_list henv l2 _ μ1 a2 w2 (fun o ho=>List.all_eq_true.1 hok2 o ho) hR2 ?_
  unfold RunK
  split at h
  · rename_i s2 tr2 hr2; rw [hr2]; exact fun μ' a' w' hR'=>h μ' a' w' hR'
  · exact h.elim
  · exact h.elim
 · exact h.elim
 · exact h.elim
theorem awpQ_cond {c:Operand} {x y:Code} {t:Bool} {Qf:Exit->Act->World->Prop} (hc:eva s.t c=.bool t) (h1:t=true->awpQ Γ x Qf s) (h2:t=false->awpQ Γ y Qf s):awpQ Γ (.cond c x y) Qf s:=by
 intro μ a w hR
 have hv:=eva_rep hR c
 rw [hc] at hv
 refine wp_cond hv.bool_inv ?_
 cases t with
 | true=>exact h1 rfl μ a w hR
 | false=>exact h2 rfl μ a w hR
theorem awpQ_weak {c:Code} {s':St} {Qf:Exit->Act->World->Prop} (hw:Weak Γ s' s) (h:awpQ Γ c Qf s'):awpQ Γ c Qf s:=fun μ a w hR=>by
 obtain ⟨μ',hR'⟩:=hw μ a w hR
 exact h μ' a w hR'
theorem endD_of {P:Program} {fn:Func} {w0:World} {Mx:Nat->Prop} {n:Nat} {pin:Nat->Option (Nat × Nat)} {hr:HR} (h:Rel ⟨P,w0,Mx,n,pin,[],false⟩ s μ a w) (hf:∃ ρ,renOK ρ/\boxesOK (hOf (outL hr)) ρ s.H (outL hr)/\resH (TI.of P) s (hOf (outL hr)) ρ hr.v fn.results.toList/\∀ p,hr.v ≠ .pnc p) :
  a.defers=[]/\∃ v,(results fn a.tmps).run P w=.ok v w/\HPost P w0 Mx pin hr (.returned v) w:=by
 obtain ⟨ρ,f1,f2,f3,f4⟩:=hf
 obtain ⟨hm,hrep⟩:=retell h ρ f1 f2
 obtain ⟨x,hx1,hx2⟩:=resH_run h hrep f3
 exact ⟨h.hd.none rfl,x,hx1,renLay ρ μ,⟨hm.hx,hm.hb,hm.hi,hm.hf,hm.hw,hm.hp⟩,.inr ⟨f4,x,rfl,hx2⟩⟩
theorem awpQ_end {P:Program} {fn:Func} {w0:World} {Mx:Nat->Prop} {n:Nat} {pin:Nat->Option (Nat × Nat)} {hr:HR} {A:Code} (hnp:∀ p,hr.v ≠ .pnc p) (henv:EnvOK P env) (hok:codeOK P n A=true) (h:awp ⟨P,w0,Mx,n,pin,[],false⟩ env A (fW_ (TI.of P) fn.results.toList hr) s) :
  awpQ ⟨P,w0,Mx,n,pin,[],false⟩ A (endD P fn (HPost P w0 Mx pin hr)) s:=by
 refine awpQ_of henv hok h fun s μ a w hR=>⟨fun hq=>endD_of hR hq,fun hq=>endD_of hR hq,fun i hq=>?_,fun v x _ hq=>?_⟩
 · obtain ⟨ρ,hq⟩:=hq; exact hq.elim
 · obtain ⟨ρ,_,_,p,hp,_⟩:=hq; exact absurd hp (hnp p)
theorem awpQ_skip {P:Program} {fn:Func} {w0:World} {Mx:Nat->Prop} {n:Nat} {pin:Nat->Option (Nat × Nat)} {hr:HR} (h:∃ ρ,renOK ρ/\boxesOK (hOf (outL hr)) ρ s.H (outL hr)/\resH (TI.of P) s (hOf (outL hr)) ρ hr.v fn.results.toList/\∀ p,hr.v ≠ .pnc p) :
  awpQ ⟨P,w0,Mx,n,pin,[],false⟩ .skip (endD P fn (HPost P w0 Mx pin hr)) s:=fun μ a w hR=>wp_skip (endD_of hR h)
end
def noDefO (o:Oper):Bool:=match o.op with
 | .defer _=>false
 | _=>true
theorem noDefO_ne {o:Oper} (h:noDefO o=true):∀ c,o.op ≠ .defer c:=by
 intro c hc
 simp [noDefO,hc] at h
section
variable {P:Program} {a:Act} {w:World} {l n:Nat}
theorem callsIn_round {f:FuncId} {args:Array Value} {R:Ending->World->Prop} (h:Calls P f args w R):CallsIn (Fence.wide.inRound l) n P f args w R:=(callsIn_wide.2 h).inRound l
theorem rowsIn_round {row:String} {args:Array Value} {R:Value->World->Prop} (h:Rows P row args w R):RowsIn (Fence.wide.inRound l) n P row args w R:=fun c cs _=>
 let ⟨v,w',r,s⟩:=h c cs
 ⟨v,w',r,stepsIn_wide.2 s⟩
theorem wpIn_of_wp {o:Oper} {next next':Act->World->Prop} {Q:Exit->Act->World->Prop} (hd:noDefO o=true) (hn:∀ a w,next a w->next' a w) (h:o.wp P a w next Q):o.wpIn (Fence.wide.inRound l) n P a w next' Q:=by
 refine ⟨fun _ _=>trivial,?_⟩
 rw [Oper.semAt_eq _ _ _ (noDefO_ne hd)]
 unfold Oper.wp at h
 revert h
 cases (execOp a.eval o).run P w with
 | ok nx w'=>
  cases nx with
  | value v=>exact fun h=>hn _ _ h
  | skip=>exact fun h=>hn _ _ h
  | defer d=>exact fun h=>hn _ _ h
  | enter f args=>
   intro h
   refine ⟨fun h=>(by cases h),callsIn_round (Calls.mono h fun e w'' he=>?_)⟩
   cases e with
   | returned v=>exact hn _ _ he
   | panicked ch=>exact he
   | outgrown=>exact he
  | row row args=>exact fun h=>⟨fun h=>(by cases h),rowsIn_round (Rows.mono h fun v w'' he=>hn _ _ he)⟩
  | _=>exact fun h=>h.elim
 | halt hl w'=>
  cases hl with
  | panic v=>exact fun h=>h
  | _=>exact fun h=>h.elim
theorem wpListIn_of {ops:Array Oper} {Q:Exit->Act->World->Prop} (hQ:¬ LetsOut Q):∀ (os:List Oper) (a:Act) (w:World),os.all noDefO=true->wpList P ops Q os a w->wpListIn (Fence.wide.inRound l) n P ops Q os a w
 | [],a,w,_,h=>h
 | o :: os,a,w,hd,h=>by
  simp only [List.all_cons,Bool.and_eq_true] at hd
  simp only [wpList] at h
  simp only [wpListIn]
  split
  ·
   rename_i hw
   rw [if_pos hw] at h
   rcases h with h | ⟨_,h⟩
   · exact wpIn_of_wp hd.1 (fun a w=>wpListIn_of hQ os a w hd.2) h
   · exact absurd h hQ
  ·
   rename_i hw
   rw [if_neg hw] at h
   exact ⟨fun _ _=>trivial,wpListIn_of hQ os _ _ hd.2 h⟩
end
def noDef:Code->Bool
 | .region _ ops d=>ops.toList.all noDefO && !d
 | .seq a b=>noDef a && noDef b
 | .cond _ a b=>noDef a && noDef b
 | .block _ a=>noDef a
 | _=>true
def awpR (Γ:Ctx) (env:Env) (l n:Nat) (c:Code) (Q:X->St->Prop) (s:St):Prop:=
 EnvOK Γ.P env->codeOK Γ.P Γ.n c=true->noDef c=true->∀ μ a w,Rel Γ s μ a w->c.wpIn (Fence.wide.inRound l) n Γ.P (liftX Γ Q) a w
section
variable {Γ:Ctx} {env:Env} {Q:X->St->Prop} {s:St} {l n:Nat}
theorem liftX_stays (Q:X->St->Prop):¬ LetsOut (liftX Γ Q):=fun ⟨_,_,h⟩=>h
theorem awpR_skip (h:Q .normal s):awpR Γ env l n .skip Q s:=fun _ _ _ μ a w hR=>wpIn_skip ⟨s,μ,hR,h⟩
theorem awpR_exit {i:Nat} (h:Q (.exit i) s):awpR Γ env l n (.exit i) Q s:=fun _ _ _ μ a w hR=>wpIn_exit ⟨s,μ,hR,h⟩
theorem awpR_seq' {a b:Code} (h:awpR Γ env l n a (thenX (awpR Γ env l n b Q) Q) s):awpR Γ env l n (.seq a b) Q s:=by
 intro henv hok hnd μ ac w hR
 simp only [codeOK,Bool.and_eq_true] at hok
 simp only [noDef,Bool.and_eq_true] at hnd
 refine wpIn_seq (Code.wpIn_mono ?_ (h henv hok.1 hnd.1 μ ac w hR))
 intro e a' w' he
 cases e with
 | normal=>obtain ⟨s',μ',h1,h2⟩:=he; exact h2 henv hok.2 hnd.2 μ' a' w' h1
 | exit i=>exact he
 | ret=>exact he
 | panic ch=>exact he
 | goto l=>exact he
 | outgrown=>exact he
theorem awpR_seq {a b:Code} (h:∀ K:St->Prop,(∀ s,awpR Γ env l n b Q s->K s)->awpR Γ env l n a (thenX K Q) s):awpR Γ env l n (.seq a b) Q s:=awpR_seq' (h _ fun _ h=>h)
theorem awpR_cond {c:Operand} {x y:Code} {t:Bool} (hc:eva s.t c=.bool t) (h1:t=true->awpR Γ env l n x Q s) (h2:t=false->awpR Γ env l n y Q s):awpR Γ env l n (.cond c x y) Q s:=by
 intro henv hok hnd μ a w hR
 simp only [codeOK,Bool.and_eq_true] at hok
 simp only [noDef,Bool.and_eq_true] at hnd
 have hv:=eva_rep hR c
 rw [hc] at hv
 exact wpIn_cond_split hv.bool_inv (fun ht=>h1 ht henv hok.1 hnd.1 μ a w hR) (fun ht=>h2 ht henv hok.2 hnd.2 μ a w hR)
theorem awpR_block {id:Nat} {c:Code} (h:awpR Γ env l n c (blockX id Q) s):awpR Γ env l n (.block id c) Q s:=by
 intro henv hok hnd μ a w hR
 refine wpIn_block (Code.wpIn_mono ?_ (h henv hok hnd μ a w hR))
 intro e a' w' he
 cases e with
 | normal=>exact he
 | exit i=>
  obtain ⟨s',μ',h1,h2⟩:=he
  simp only [blockX] at h2
  simp only [Exit.inBlock]
  split at h2
  · rename_i hi; rw [if_pos hi]; exact ⟨s',μ',h1,h2⟩
  · rename_i hi; rw [if_neg hi]; exact ⟨s',μ',h1,h2⟩
 | ret=>exact he
 | panic ch=>exact he
 | goto l=>exact he
 | outgrown=>exact he
theorem awpR_region {id:Nat} {os:List Oper} (h:opsK Γ env os.toArray os s (fun s' _=>Q .normal s') Q):awpR Γ env l n (.region id os.toArray false) Q s:=by
 intro henv hok hnd μ a w hR
 simp only [codeOK,Bool.and_eq_true] at hok
 simp only [noDef,Bool.and_eq_true] at hnd
 refine wpIn_region_list (wpListIn_of (liftX_stays Q) _ _ _ hnd.1 ?_)
 refine sim_list henv os s μ a w (fun o ho=>List.all_eq_true.1 hok.1 o (by simpa using ho)) hR ?_
 unfold opsK runK at h
 unfold RunK
 split at h
 · rename_i s' tr hr; rw [hr]; exact fun μ' a' w' hR'=>⟨s',μ',hR',h⟩
 · rename_i s' v hr; rw [hr]; exact fun x μ' a' w' hR' hx=>⟨s',μ',v,x,rfl,hR',hx,h⟩
 · exact h.elim
theorem awpR_weak {c:Code} {s':St} (hw:Weak Γ s' s) (h:awpR Γ env l n c Q s'):awpR Γ env l n c Q s:=fun henv hok hnd μ a w hR=>by
 obtain ⟨μ',hR'⟩:=hw μ a w hR
 exact h henv hok hnd μ' a w hR'
end
def BackIter (P:Program) (fid:FuncId) (sz:Nat):Prop:=
 ∀ (l Bs:Nat) (A:Option Addr) (len cap:Nat) (f:Nat->Nat->Value),len<=100000->(0 < len->∃ g off,A=some ⟨g,off,none⟩)->∀ (J Jx:Nat->World->Prop),
  (∀ k W,J k W->W.cell? ⟨Bs,0,none⟩=some (.slice A len cap)/\∀ i j,i < len->j < sz->CellAt W (fun _=>False) A (i * sz + j) (f i j)) ->
  (∀ k W,k < len->J k W->YieldAt Fence.wide 0 P l #[.int .i64 ((len - 1 - k:Nat):Int),.agg ((List.range sz).map (f (len - 1 - k))).toArray] W fun e W'=>(e=.returned (.bool true)/\J (k + 1) W')\/(e=.returned (.bool false)/\Jx (k + 1) W')) ->
  ∀ W,J 0 W->CallsIn Fence.wide 1 P fid #[.func (.yield l) #[] #[],.pointer (some ⟨Bs,0,none⟩)] W fun e W'=>(∃ v,e=.returned v)/\(J len W'\/∃ k,k<=len/\Jx k W')
section
variable {Γ:Ctx} {s:St} {μ:Lay} {a:Act} {w:World}
theorem round_told (h:Rel Γ s μ a w) {bs:List Bid} (hbs:OkB s.H bs):Rel ⟨Γ.P,w,MxC Γ s.H μ bs,Γ.n,pinC bs μ,[],true⟩ ⟨fun i=>told s.H bs 5 (s.t i),hB (boxC s.H bs)⟩ (layC bs μ) { a with defers:=[] } w:=by
 have hm:=start_mem h hbs
 exact ⟨Marks.nil ⟨Γ.P,w,MxC Γ s.H μ bs,Γ.n,pinC bs μ,[],true⟩ _,h.hn,hm.hx,fun i=>told_rep h hbs 5 _ _ (h.ht i),hm.hb,hm.hi,hm.hf,hm.hw,hm.hp⟩
def RoundEnd (H:Heap) (bs:List Bid) (H1 H2:Heap):Prop:=
 ∃ ρ up,renOK ρ/\boxesOK (hOf (outL ⟨.tup [],up,[]⟩)) ρ H1 (outL ⟨.tup [],up,[]⟩)/\goOns (boxC H bs) up/\After H bs (0,0) up [] (back bs (0,0) 5) H2
theorem After.two {H H':Heap} {b0 b1:Bid} {u0 u1:Box} {f:AV->AV} (h0:H' b0=some (renB f u0)) (h1:H' b1=some (renB f u1)) (he:∀ b,b ≠ b0->b ≠ b1->H' b=H b):After H [b0,b1] (0,0) [u0,u1] [] f H':=by
 refine ⟨fun i b x hb hx=>?_,fun j x hx=>by simp at hx,fun b hb _=>he b (fun e=>hb (by simp [e])) (fun e=>hb (by simp [e]))⟩
 match i with
 | 0=>simp at hb hx; subst hb; subst hx; exact h0
 | 1=>simp at hb hx; subst hb; subst hx; exact h1
 | n + 2=>simp at hb
theorem round_back (h:Rel Γ s μ a w) {bs:List Bid} (hbs:OkB s.H bs) {n':Nat} {df':List Deferred} {mk':Bool} {s':St} {μ':Lay} {a':Act} {w':World}
  (h':Rel ⟨Γ.P,w,MxC Γ s.H μ bs,n',pinC bs μ,df',mk'⟩ s' μ' a' w') {H':Heap} (hE:RoundEnd s.H bs s'.H H'):∃ μ'',Rel Γ ⟨s.t,H'⟩ μ'' a w':=by
 obtain ⟨ρ,up,h1,h2,hgo,hA⟩:=hE
 obtain ⟨hm,_⟩:=retell h' ρ h1 h2
 obtain ⟨μ'',hr,_⟩:=end_rel h hbs (hr:=⟨.tup [],up,[]⟩) hgo rfl ⟨hm.hx,hm.hb,hm.hi,hm.hf,hm.hw,hm.hp⟩ hA
 exact ⟨μ'',hr⟩
theorem back_view {t:Nat->AV} {H:Heap} (h:Rel Γ ⟨t,H⟩ μ a w) {bx:Bid} {Bs cb:Nat} (hμ:μ bx=some (Bs,cb)) {c0:AV} {sz:Nat} {L:List (List AV)} (hH:H bx=some (.obj [c0])) (hc0:c0=.sl sz L\/c0=.nils/\L=[]) :
  ∃ (A:Option Addr) (cap:Nat) (f:Nat->Nat->Value),w.cell? ⟨Bs,0,none⟩=some (.slice A L.length cap)/\(∀ i j,i < L.length->j < sz->CellAt w (forb Γ.Mx μ H) A (i * sz + j) (f i j)) /\
   (∀ i j cs x,L[i]?=some cs->cs[j]?=some x->Rep w (forb Γ.Mx μ H) μ noH x (f i j))/\∀ x ∈ L,x.length=sz:=by
 obtain ⟨cur,e,q1,q2,q3⟩:=box_obj h hH hμ
 obtain ⟨v,r1,r2,r3⟩:=q3 0 c0 rfl
 have hc:=cell_heap (o:=0) q1
 rw [r1] at hc
 rcases hc0 with rfl | ⟨rfl,rfl⟩
 ·
  cases r3 with
  | sl _ _ _ A c f h1 h2 h3 h4 h5=>exact ⟨A,c,f,hc,h4,h5,h3⟩
 ·
  cases r3
  exact ⟨none,0,fun _ _=>undef,hc,fun i j hi=>absurd hi (by simp),fun i j cs x hi=>by simp at hi,by simp⟩
def backX (Q:X->St->Prop) (t:Nat->AV) (H:Heap) (bs:List Bid) (H2:Heap) (I2:Prop):X->St->Prop
 | .normal,s'=>RoundEnd H bs s'.H H2/\I2
 | .exit i,s'=>∃ E,RoundEnd H bs s'.H E/\Q (.exit i) ⟨t,E⟩
 | .ret,s'=>∃ E,RoundEnd H bs s'.H E/\Q .ret ⟨t,E⟩
 | _,_=>False
def noX:X->St->Prop:=fun _ _=>False
end
section
variable {Γ:Ctx} {env:Env} {Q:X->St->Prop} {s:St}
theorem awp_back {g:Operand} {p1 p2:Tmp} {asg body:Code} {fid:FuncId} {sz:Nat} {bx:Bid} {c0:AV} {L:List (List AV)} {bs:List Bid} {S:Nat->Heap} {I:Nat->Prop} (hI0:I 0)
  (hit:BackIter Γ.P fid sz) (hsz:0 < sz) (hent:entersB Γ.P fid=true) (hg:eva s.t g=.fn fid [.ref bx 0])
  (hc0:c0=.sl sz L\/c0=.nils/\L=[]) (hL:L.length<=100000) (hS0:S 0=s.H) (hbx:bx ∉ bs)
  (hS:∀ k,k<=L.length->(S k) bx=some (.obj [c0])/\OkB (S k) bs) (hnd:(noDef asg && noDef body)=true)
  (hround:∀ k x,I k->k < L.length->L[L.length - 1 - k]?=some x->∀ (Γ':Ctx) (l:Nat),Γ'.P=Γ.P->Γ'.n=Γ.n ->
   awpR Γ' env l 0 asg (thenX (fun s1=>∀ Γ'':Ctx,Γ''.P=Γ.P->Γ''.n=Γ.n->awpR Γ'' env l 0 body (backX Q s.t (S k) bs (S (k + 1)) (I (k + 1))) s1) noX)
    ⟨tput (tput (fun i=>told (S k) bs 5 (s.t i)) (some p1) (.int .i64 ((L.length - 1 - k:Nat):Int))) (some p2) (.agg x),hB (boxC (S k) bs)⟩)
  (hend:I L.length->Q .normal ⟨s.t,S L.length⟩) (hmk:Γ.lp=true:=by rfl):awp Γ env (.rangeFunc g #[p1,p2] asg body) Q s:=by
 intro henv hok μ a w hR
 simp only [codeOK,Bool.and_eq_true,List.all_cons,List.all_nil,decide_eq_true_eq] at hok
 obtain ⟨⟨⟨hp1,hp2,_⟩,hokA⟩,hokB⟩:=hok
 simp only [Bool.and_eq_true] at hnd
 refine (wpIn_wide (n:=1)).1 (wpIn_rangeFunc fun fn _=>?_)
 have hgv:=eva_rep hR g
 rw [hg] at hgv
 generalize hev:a.eval g=gv at hgv
 obtain ⟨Bs,rfl⟩:∃ Bs,gv=.func (.func fid) #[] #[.pointer (some ⟨Bs,0,none⟩)]:=by
  cases hgv with
  | fn _ _ _ vs gg hs hv hr=>
   have h0:=hr 0 _ rfl
   have hv0:=hv 0 (by simp)
   generalize gg 0=y at h0 hv0
   cases h0 with
   | ref _ _ _ cs g' c hH hμ=>
    refine ⟨g',?_⟩
    congr 1
    apply Array.ext
    · simpa using hs
    ·
     intro i h1 h2
     simp only [List.length_cons,List.length_nil] at hs
     obtain rfl:i=0:=by omega
     rw [Array.getElem?_eq_getElem h1] at hv0
     simpa using hv0
 obtain ⟨w1,hw1⟩:∃ x,x=(w.alloc (.deferred (some []))).alloc (.loop { state:=.ready,pending:=none,fn,tmps:=a.tmps,params:=#[p1,p2],assign:=asg,body,defers:=w.heap.size }):=⟨_,rfl⟩
 obtain ⟨r0,hr0⟩:∃ x:Loop,x={ state:=.ready,pending:=none,fn,tmps:=a.tmps,params:=#[p1,p2],assign:=asg,body,defers:=w.heap.size }:=⟨_,rfl⟩
 obtain ⟨l,hl⟩:∃ x,x=w.heap.size + 1:=⟨_,rfl⟩
 have hbel:Below w.heap.size w w1:=by rw [hw1]; exact ((Below.refl _ w).alloc (Nat.le_refl _) _).alloc (by simp) _
 have hl1:w1.heap[l]?=some (.loop r0):=by rw [hw1,hl,hr0]; have:=World.alloc_heap_new (w.alloc (.deferred (some []))) (.loop { state:=.ready,pending:=none,fn,tmps:=a.tmps,params:=#[p1,p2],assign:=asg,body,defers:=w.heap.size }); rw [World.size_alloc] at this; exact this
 have hD1:w1.heap[w.heap.size]?=some (.deferred (some [])):=by rw [hw1,((Below.refl _ (w.alloc (.deferred (some [])))).alloc (Nat.le_refl _) _).block w.heap.size (by rw [World.size_alloc]; omega)]; exact World.alloc_heap_new w _
 have hlw:Γ.w0.heap.size<=l:=by have:=hR.hw.size; omega
 obtain ⟨a1,ha1⟩:∃ x:Act,x={ a with defers:={ target:=.collected w.heap.size,args:=#[] } :: a.defers }:=⟨_,rfl⟩
 have hat:a1.tmps=a.tmps:=by rw [ha1]
 have hR1:Rel Γ s μ a1 w1:=by
  refine (hR.grow hbel (by rw [hw1]; exact (NF.push (w:=w) rfl (by intro _ _ _ h; cases h)).trans (NF.push rfl (by intro _ _ _ h; cases h)))).turned (Turned.refl _) (BelowX.refl _ _ _) hat ?_
  obtain ⟨ms,q1,q2,q3⟩:=hR.hd
  refine ⟨w.heap.size :: ms,by rw [ha1]; simp [q1],List.nodup_cons.2 ⟨fun hm=>?_,q2⟩,fun D hD=>?_⟩
  ·
   have:=(Array.getElem?_eq_some_iff.1 (q3 _ hm).2.1).1
   omega
  ·
   rcases List.mem_cons.1 hD with rfl | hD
   · exact ⟨hR.hw.size,hD1,hmk⟩
   ·
    have:=(Array.getElem?_eq_some_iff.1 (q3 _ hD).2.1).1
    exact ⟨(q3 D hD).1,(hbel.block D this).trans (q3 D hD).2.1,(q3 D hD).2.2⟩
 have hev1:a1.eval g=.func (.func fid) #[] #[.pointer (some ⟨Bs,0,none⟩)]:=by
  rw [<-hev,ha1]
  cases g <;> rfl
 have hμx:∀ {H:Heap} {μ':Lay} {W:World},Rel Γ ⟨s.t,H⟩ μ' a1 W->∃ cb,μ' bx=some (Bs,cb):=by
  intro H μ' W hr
  have h1:=eva_rep hr g
  rw [hev1] at h1
  simp only at h1
  rw [hg] at h1
  cases h1 with
  | fn _ _ _ vs gg hs hv hrr=>
   have h0:=hrr 0 _ rfl
   have hv0:=hv 0 (by simp)
   simp at hv0
   rw [<-hv0] at h0
   cases h0 with
   | ref _ _ _ cs g' c hH hμ=>exact ⟨c,hμ⟩
 have hR10:Rel Γ ⟨s.t,S 0⟩ μ a1 w1:=by rw [hS0]; exact hR1
 obtain ⟨cb,hμb⟩:=hμx hR10
 obtain ⟨A,cap,f,v1,v2,v3,v4⟩:=back_view hR10 hμb (hS 0 (Nat.zero_le _)).1 hc0
 obtain ⟨Has,hHas⟩:∃ Has:World->Prop,Has=fun W=>W.cell? ⟨Bs,0,none⟩=some (.slice A L.length cap)/\∀ i j,i < L.length->j < sz->CellAt W (fun _=>False) A (i * sz + j) (f i j):=⟨_,rfl⟩
 have hHas1:Has w1:=by
  rw [hHas]
  refine ⟨v1,fun i j hi hj=>?_⟩
  obtain ⟨g',off,e1,e2,e3,e4⟩:=v2 i j hi hj
  exact ⟨g',off,e1,id,e3,e4⟩
 have seen:∀ {H:Heap} {μ':Lay} {W:World},Rel Γ ⟨s.t,H⟩ μ' a1 W->H bx=some (.obj [c0])->Has W ->
   (∀ i j,i < L.length->j < sz->CellAt W (forb Γ.Mx μ' H) A (i * sz + j) (f i j))/\(∀ i j cs x,L[i]?=some cs->cs[j]?=some x->Rep W (forb Γ.Mx μ' H) μ' noH x (f i j)):=by
  intro H μ' W hr hH hh
  rw [hHas] at hh
  obtain ⟨cb',hμ'⟩:=hμx hr
  obtain ⟨A',cap',f',u1,u2,u3,u4⟩:=back_view hr hμ' hH hc0
  rw [hh.1] at u1
  cases u1
  have hf:∀ i j,i < L.length->j < sz->f' i j=f i j:=by
   intro i j hi hj
   obtain ⟨g1,o1,e1,_,e3,_⟩:=u2 i j hi hj
   obtain ⟨g2,o2,d1,_,d3,_⟩:=hh.2 i j hi hj
   rw [e1] at d1
   cases d1
   rw [e3] at d3
   exact Option.some.inj d3
  refine ⟨fun i j hi hj=>hf i j hi hj ▸ u2 i j hi hj,fun i j cs x hi hj=>?_⟩
  have h1:=(List.getElem?_eq_some_iff.1 hi).1
  have h2:=(List.getElem?_eq_some_iff.1 hj).1
  rw [u4 cs (List.mem_of_getElem? hi)] at h2
  rw [<-hf i j h1 h2]
  exact u3 i j cs x hi hj
 have hdom:0 < L.length->∃ g off,A=some ⟨g,off,none⟩:=by
  intro h1
  obtain ⟨g',off,e1,_⟩:=v2 0 0 h1 hsz
  exact ⟨g',off,e1⟩
 let J:Nat->World->Prop:=fun k W=>(k<=L.length/\I k)/\(∃ μ',Rel Γ ⟨s.t,S k⟩ μ' a1 W)/\W.heap[l]?=some (.loop r0)/\Has W
 let Jx:Nat->World->Prop:=fun k W=>∃ (E:Heap) (μ':Lay) (c:Code) (x:X),Rel Γ ⟨s.t,E⟩ μ' a1 W/\W.heap[l]?=some (.loop { r0 with state:=.done,pending:=some c })/\Q x ⟨s.t,E⟩/\((∃ i,c=.exit i/\x=.exit i)\/(c=.ret/\x=.ret))
 have hcall:CallsIn Fence.wide 1 Γ.P fid #[.func (.yield l) #[] #[],.pointer (some ⟨Bs,0,none⟩)] w1 fun e W'=>(∃ v,e=.returned v)/\(J L.length W'\/∃ k,k<=L.length/\Jx k W'):=by
  refine hit l Bs A L.length cap f hL hdom J Jx (fun k W hJ=>?_) (fun k W hk hJ=>?_) w1 ⟨⟨Nat.zero_le _,hI0⟩,⟨μ,hR10⟩,hl1,hHas1⟩
  ·
   have:=hJ.2.2.2
   rw [hHas] at this
   exact this
  ·
   obtain ⟨⟨hkl,hIk⟩,⟨μk,hRk⟩,hlk,hHk⟩:=hJ
   obtain ⟨hHx,hOk⟩:=hS k hkl
   obtain ⟨s1,s2⟩:=seen hRk hHx hHk
   have hlt:L.length - 1 - k < L.length:=by omega
   have hx:=List.getElem?_eq_getElem hlt
   generalize hxd:L[L.length - 1 - k]=x at hx
   have hxl:x.length=sz:=v4 x (List.mem_of_getElem? hx)
   refine ⟨_,_,_,_,run_yield hlk (by rw [hr0]; rfl),roundIn_of_wpIn trivial ?_⟩
   have hrt:=round_told hRk hOk
   have hrp:=(hrt.put (d:=some p1) (fun t ht=>by cases ht; exact hp1) (.int _ .i64 ((L.length - 1 - k:Nat):Int))).put (d:=some p2) (fun t ht=>by cases ht; exact hp2) (v:=.agg x) (x:=.agg ((List.range sz).map (f (L.length - 1 - k))).toArray)
    (.agg _ _ _ (f (L.length - 1 - k)) (by simp [hxl]) (fun i hi=>by
     obtain ⟨_,_,_,_,_,h4⟩:=s1 _ i hlt (by omega)
     exact ⟨by simp [<-hxl,hi],h4⟩) (fun i c hc=>((s2 _ i x c hx hc).mono (fun g _ hg=>⟨fun hc=>hg (forbC hOk hc),rfl⟩) (HLe.noH _) (fun b hb=>absurd rfl hb):_)))
   have hw:=hround k x hIk hk hx ⟨Γ.P,W,MxC Γ (S k) μk bs,Γ.n,pinC bs μk,[],true⟩ l rfl rfl henv hokA hnd.1 _ _ W hrp
   have hact:({ tmps:=(r0.params.zip #[.int .i64 ((L.length - 1 - k:Nat):Int),.agg ((List.range sz).map (f (L.length - 1 - k))).toArray]).foldl (fun tmps (t,a)=>tmps.setIfInBounds t a) r0.tmps,defers:=[] }:Act) =
     (({ a1 with defers:=[] }:Act).put (some p1) (.int .i64 ((L.length - 1 - k:Nat):Int))).put (some p2) (.agg ((List.range sz).map (f (L.length - 1 - k))).toArray):=by
    rw [hr0,ha1]; simp [Act.put]
   rw [hact]
   rw [show r0.assign=asg by rw [hr0],show r0.body=body by rw [hr0]]
   have hlW:l < W.heap.size:=(Array.getElem?_eq_some_iff.1 hlk).1
   have hnio:¬ ∃ i c,pinC bs μk i=some (l,c):=by
    rintro ⟨i,c,hp⟩
    obtain ⟨_,_,_,_,_,_,_,hfb⟩:=lt_of_pin hRk hOk hp
    exact hRk.mark_free hlw hlk rfl hfb
   have same:∀ {W':World} {Γ':Ctx} {s' μ' a' W2},Rel Γ' s' μ' a' W2->Γ'.w0=W'->Γ'.pin=pinC bs μk->W'.heap.size=W.heap.size->(∀ g,g ≠ l->W'.heap[g]?=W.heap[g]?)->∀ g,g < W.heap.size->g ≠ l->¬ forb Γ.Mx μk (S k) g->W2.heap[g]?=W.heap[g]?:=by
    intro W' Γ' s' μ' a' W2 h' hw0 hpin hsz' hoth g hg hgl hgf
    have:=h'.hw.block g (by rw [hw0,hsz']; exact hg) (fun hio=>?_)
    · rw [this,hw0]; exact hoth g hgl
    ·
     obtain ⟨i,c,hp⟩:=hio
     rw [hpin] at hp
     obtain ⟨_,_,_,_,_,_,_,hfb⟩:=lt_of_pin hRk hOk hp
     exact hgf hfb
   refine Code.wpIn_mono (fun e a2 w2 he=>?_) hw
   cases e with
   | normal=>
    obtain ⟨s3,μ3,hR3,hK⟩:=he
    have hl2:w2.heap[l]?=some (.loop r0):=(hR3.hw.block l hlW hnio).trans hlk
    refine ⟨_,run_beginRound hl2 (by rw [hr0]),?_⟩
    have hR4:=hR3.turned0 hlW hl2 rfl (.loop { r0 with state:=.busy })
    refine Code.wpIn_mono (fun e a4 w4 he=>?_) (hK { (⟨Γ.P,W,MxC Γ (S k) μk bs,Γ.n,pinC bs μk,[],true⟩:Ctx) with w0:=W.putObj l (.loop { r0 with state:=.busy }) } rfl rfl henv hokB hnd.2 _ _ _ hR4)
    have fin:∀ (s5:St) (μ5:Lay) (o:Loop),Rel { (⟨Γ.P,W,MxC Γ (S k) μk bs,Γ.n,pinC bs μk,[],true⟩:Ctx) with w0:=W.putObj l (.loop { r0 with state:=.busy }) } s5 μ5 a4 w4->∀ E,RoundEnd (S k) bs s5.H E ->
      w4.heap[l]?=some (.loop { r0 with state:=.busy })/\(∃ μ',Rel Γ ⟨s.t,E⟩ μ' a1 (w4.putObj l (.loop o)))/\(w4.putObj l (.loop o)).heap[l]?=some (.loop o)/\Has (w4.putObj l (.loop o)):=by
     intro s5 μ5 o hR5 E hE
     have hl4:w4.heap[l]?=some (.loop { r0 with state:=.busy }):=(hR5.hw.block l (by rw [World.putObj_size]; exact hlW) hnio).trans (World.putObj_heap_same hlW)
     have hl4s:l < w4.heap.size:=(Array.getElem?_eq_some_iff.1 hl4).1
     have hR6:=hR5.turned0 (by rw [World.putObj_size]; exact hlW) hl4 rfl (.loop o)
     have hRk2:=(hRk.turnAt hlw hlk (.loop { r0 with state:=.busy })).turnAt hlw (World.putObj_heap_same hlW) (.loop o)
     refine ⟨hl4,round_back hRk2 hOk hR6 hE,World.putObj_heap_same hl4s,?_⟩
     have hsm:=fun g hg hgl hgf=>same hR6 rfl rfl (by rw [World.putObj_size,World.putObj_size]) (fun g hgl=>(World.putObj_heap_other hgl).trans (World.putObj_heap_other hgl)) g hg hgl hgf
     obtain ⟨cbk,hμk⟩:=hμx hRk
     rw [hHas] at hHk ⊢
     refine ⟨?_,fun i j hi hj=>?_⟩
     ·
      obtain ⟨cur,e,q1,_⟩:=box_obj hRk hHx hμk
      have hBl:Bs ≠ l:=fun e=>by subst e; rw [hlk] at q1; cases q1
      have hBf:¬ forb Γ.Mx μk (S k) Bs\/w4.heap[Bs]?=W.heap[Bs]?:=by
       right
       have:=hR5.hw.block Bs (by rw [World.putObj_size]; exact (Array.getElem?_eq_some_iff.1 q1).1) (fun hio=>?_)
       · exact this.trans (World.putObj_heap_other hBl)
       ·
        obtain ⟨i,c,hp⟩:=hio
        obtain ⟨b,y,p1',p2',p3',p4',_⟩:=lt_of_pin hRk hOk hp
        have:=hRk.hi b bx y _ Bs c cbk p2' hHx p3' rfl p4' hμk
        subst this
        exact hbx (List.mem_of_getElem? p1')
      have hB4:(w4.putObj l (.loop o)).heap[Bs]?=W.heap[Bs]?:=by
       rw [World.putObj_heap_other hBl]
       rcases hBf with h | h
       · rw [<-hsm Bs (Array.getElem?_eq_some_iff.1 q1).1 hBl h,World.putObj_heap_other hBl]
       · exact h
      rw [World.cell?_of_block (w:=W) hB4]
      exact hHk.1
     ·
      obtain ⟨g',off,e1,e2,e3,e4⟩:=s1 i j hi hj
      have hgs:=World.block_lt_of_cell? W _ e3
      have hgl:g' ≠ l:=fun e=>by subst e; simp [World.cell?,hlk] at e3
      exact ⟨g',off,e1,id,by rw [World.cell?_of_block (w:=W) (hsm g' hgs hgl e2)]; exact e3,e4⟩
    cases e with
    | normal=>
     obtain ⟨s5,μ5,hR5,hq,hI2⟩:=he
     obtain ⟨f1,f2,f3,f4⟩:=fin s5 μ5 r0 hR5 _ hq
     have hend':=run_endRound (P:=Γ.P) none f1
     refine ⟨_,_,hend',.inl ⟨rfl,⟨by omega,hI2⟩,?_,?_,?_⟩⟩
     all_goals (simp only [Option.isNone_none,if_true])
     all_goals (have hrr:({ r0 with state:=.ready,pending:=none }:Loop)=r0:=by rw [hr0])
     all_goals (simp only [hrr])
     · exact f2
     · exact f3
     · exact f4
    | exit i=>
     obtain ⟨s5,μ5,hR5,E,hq,hqq⟩:=he
     obtain ⟨f1,f2,f3,f4⟩:=fin s5 μ5 { r0 with state:=.done,pending:=some (.exit i) } hR5 _ hq
     obtain ⟨μ',f2⟩:=f2
     exact ⟨_,_,run_endRound (P:=Γ.P) (some (.exit i)) f1,.inr ⟨rfl,E,μ',_,_,f2,f3,hqq,.inl ⟨i,rfl,rfl⟩⟩⟩
    | ret=>
     obtain ⟨s5,μ5,hR5,E,hq,hqq⟩:=he
     obtain ⟨f1,f2,f3,f4⟩:=fin s5 μ5 { r0 with state:=.done,pending:=some .ret } hR5 _ hq
     obtain ⟨μ',f2⟩:=f2
     exact ⟨_,_,run_endRound (P:=Γ.P) (some .ret) f1,.inr ⟨rfl,E,μ',_,_,f2,f3,hqq,.inr ⟨rfl,rfl⟩⟩⟩
    | panic ch=>obtain ⟨_,_,_,_,_,_,_,hq⟩:=he; exact hq.elim
    | goto _=>exact he.elim
    | outgrown=>exact he.elim
   | exit i=>obtain ⟨_,_,_,hq⟩:=he; exact hq.elim
   | ret=>obtain ⟨_,_,_,hq⟩:=he; exact hq.elim
   | panic ch=>obtain ⟨_,_,_,_,_,_,_,hq⟩:=he; exact hq.elim
   | goto _=>exact he.elim
   | outgrown=>exact he.elim
 refine ⟨l,[{ target:=.collected w.heap.size,args:=#[] }],w1,{ target:=.fn (.func fid) #[.pointer (some ⟨Bs,0,none⟩)],args:=#[.func (.yield l) #[] #[]] },w1,fid,#[.func (.yield l) #[] #[],.pointer (some ⟨Bs,0,none⟩)],w1,?_,?_,fun _ _=>trivial,?_,fun h=>(by cases h),?_⟩
 · rw [hw1,hl]; exact run_enterLoop_outer fn a.tmps #[p1,p2] asg body
 ·
  simp only [resolve,hev,Deferred.ofValue,Sem.run_pure,Array.empty_append,List.map_toArray,List.map_cons,List.map_nil]
  rfl
 ·
  simp only [invoke]
  exact run_callFunc hent _
 ·
  refine callsIn_wide.2 (Calls.mono (callsIn_wide.1 hcall) ?_)
  rintro e W' ⟨⟨v,rfl⟩,hJ⟩
  have hat1:({ a with defers:=[{ target:=.collected w.heap.size,args:=#[] }]++a.defers }:Act)=a1:=by rw [ha1]; rfl
  rw [hat1]
  rcases hJ with ⟨⟨_,hIf⟩,⟨μ',hRf⟩,hlf,_⟩ | ⟨k,_,E,μ',c,x,hRf,hlf,hQx,hcx⟩
  · exact ⟨_,_,run_endLoop hlf (by rw [hr0]; simp),by rw [show r0.pending=none by rw [hr0]]; exact ⟨_,μ',hRf.turnAt hlw hlf _,hend hIf⟩⟩
  ·
   refine ⟨_,_,run_endLoop hlf (by simp),?_⟩
   have hRf':=hRf.turnAt hlw hlf (.loop { { r0 with state:=.done,pending:=some c } with state:=.exhausted })
   rcases hcx with ⟨i,rfl,rfl⟩ | ⟨rfl,rfl⟩
   · exact wpIn_exit ⟨_,μ',hRf',hQx⟩
   · exact wpIn_ret ⟨_,μ',hRf',hQx⟩
end
def YSound (P:Program) (l:Nat) (r0:Loop) (p0 p1:Option (Nat × Nat)) (S:HSpec):Prop:=
 ∀ (args:List AV) (bx:List Box) (hr:HR),S args bx=some hr->goOns bx hr.up/\hr.v=.bool true/\∀ (w:World) (Mx:Nat->Prop) (pin:Nat->Option (Nat × Nat)) (vals:Array Value) (μ:Lay),
  HArgs P w Mx pin args bx vals μ->w.heap[l]?=some (.loop r0)->(¬ ∃ i c,pin i=some (l,c))->pin 0=p0->pin 1=p1->YieldAt Fence.wide 0 P l vals w (HPost P w Mx pin hr)
section
variable {P:Program} {F:Fence} {n:Nat}
theorem wpIn_of_wp0 {o:Oper} {a:Act} {w:World} {next next':Act->World->Prop} {Q Q':Exit->Act->World->Prop} (hd:noDefO o=true) (hn:∀ a w,next a w->next' a w)
  (hq:∀ ch a w,Q (.panic ch) a w->Q' (.panic ch) a w) (hQ:¬ LetsOut Q) (h:o.wp P a w next Q):o.wpIn Fence.wide n P a w next' Q':=by
 refine ⟨fun _ _=>trivial,?_⟩
 rw [Oper.semAt_eq _ _ _ (noDefO_ne hd)]
 unfold Oper.wp at h
 revert h
 cases (execOp a.eval o).run P w with
 | ok nx w'=>
  cases nx with
  | value v=>exact fun h=>hn _ _ h
  | skip=>exact fun h=>hn _ _ h
  | defer d=>exact fun h=>hn _ _ h
  | enter f args=>
   intro h
   refine ⟨fun h=>(by cases h),callsIn_wide.2 (Calls.mono h fun e w'' he=>?_)⟩
   cases e with
   | returned v=>exact hn _ _ he
   | panicked ch=>exact hq _ _ _ he
   | outgrown=>exact absurd he hQ
  | row row args=>
   intro h
   refine ⟨fun h=>(by cases h),fun c cs _=>?_⟩
   obtain ⟨v,w',r,s⟩:=h c cs
   exact ⟨v,w',hn _ _ r,stepsIn_wide.2 s⟩
  | _=>exact fun h=>h.elim
 | halt hl w'=>
  cases hl with
  | panic v=>exact fun h=>hq _ _ _ h
  | _=>exact fun h=>h.elim
theorem wpListIn_pre {ops:Array Oper} {Q Q':Exit->Act->World->Prop} (hQ:¬ LetsOut Q) {l2:List Oper} (hn:∀ a w,Q .normal a w->wpListIn Fence.wide n P ops Q' l2 a w) (hq:∀ ch a w,Q (.panic ch) a w->Q' (.panic ch) a w) :
  ∀ (os:List Oper) (a:Act) (w:World),os.all noDefO=true->wpList P ops Q os a w->wpListIn Fence.wide n P ops Q' (os++l2) a w
 | [],a,w,_,h=>hn a w h
 | o :: os,a,w,hd,h=>by
  simp only [List.all_cons,Bool.and_eq_true] at hd
  simp only [wpList] at h
  simp only [List.cons_append,wpListIn]
  split
  ·
   rename_i hw
   rw [if_pos hw] at h
   rcases h with h | ⟨_,h⟩
   · exact wpIn_of_wp0 hd.1 (fun a w=>wpListIn_pre hQ hn hq os a w hd.2) hq hQ h
   · exact absurd h hQ
  ·
   rename_i hw
   rw [if_neg hw] at h
   exact ⟨fun _ _=>trivial,wpListIn_pre hQ hn hq os _ _ hd.2 h⟩
end
theorem pin_cells {Γ:Ctx} {s:St} {μ:Lay} {a:Act} {w:World} (h:Rel Γ s μ a w) {bs:List Bid} (hbs:OkB s.H bs) {l:Nat} {o:Obj} (hl:w.heap[l]?=some o) (ho:noCells o=true):¬ ∃ i c,pinC bs μ i=some (l,c):=by
 rintro ⟨i,c,hp⟩
 obtain ⟨b,y,_,q2,q3,q4,_⟩:=lt_of_pin h hbs hp
 rcases h.hb b y q2 with rfl | ⟨g,c',cur,e,r1,r2,_⟩ | ⟨r1,_⟩
 · cases q3
 ·
  rw [q4] at r1
  cases r1
  rw [hl] at r2
  cases r2
  cases ho
 · rw [q4] at r1; cases r1
section
variable {Γ:Ctx} {env:Env} {Q:X->St->Prop} {s:St}
def yieldK (Γ:Ctx) (S:HSpec) (d:Tmp) (args:List Operand) (bs:List Bid) (K:St->Prop) (s:St):Prop:=
 OkB s.H bs/\∃ hr,S (args.map fun x=>told s.H bs 5 (eva s.t x)) (boxC s.H bs)=some hr/\∃ H',After s.H bs (0,16 * d) hr.up hr.nw (back bs (0,16 * d) 5) H'/\K ⟨tput s.t (some d) (.bool true),H'⟩
theorem awp_yield {id l:Nat} {r0:Loop} {p0 p1:Option (Nat × Nat)} {S:HSpec} {bs:List Bid} {j0 j1:Nat} {pre post:List Oper} {y:Operand} {args:List Operand} {ts:Array TypeId} {d:Tmp} {ty:TypeId} {pos:String} {af:Array Edge}
  (hY:YSound Γ.P l r0 p0 p1 S) (hl:Γ.w0.heap[l]?=some (.loop r0)) (hio:¬ Γ.io l) (hp0:Γ.pin j0=p0) (hp1:Γ.pin j1=p1) (hb0:bs[0]?=some (1,j0)) (hb1:bs[1]?=some (1,j1))
  (hnd:(pre.all noDefO && post.all noDefO)=true)
  (h:opsK Γ env (pre++⟨some d,.call ⟨.value y,args.toArray,ts⟩,ty,pos,af,none⟩ :: post).toArray pre s (fun s1 _=>eva s1.t y=.yl l /\
   yieldK Γ S d args bs (fun s2=>opsK Γ env (pre++⟨some d,.call ⟨.value y,args.toArray,ts⟩,ty,pos,af,none⟩ :: post).toArray post s2 (fun s' _=>Q .normal s') (fun _ _=>False)) s1) (fun _ _=>False)) :
  awp Γ env (.region id (pre++⟨some d,.call ⟨.value y,args.toArray,ts⟩,ty,pos,af,none⟩ :: post).toArray false) Q s:=by
 intro henv hok μ a w hR
 simp only [codeOK,Bool.and_eq_true] at hok
 simp only [Bool.and_eq_true] at hnd
 obtain ⟨hok1,hokd⟩:=hok
 have hops:=List.all_eq_true.1 hok1
 generalize hO:(pre++⟨some d,.call ⟨.value y,args.toArray,ts⟩,ty,pos,af,none⟩ :: post).toArray=ops at h hops ⊢
 refine (wpIn_wide (n:=1)).1 (wpIn_region_list ?_)
 rw [<-hO,List.toList_toArray,hO]
 have hnoL:∀ K:Act->World->Prop,¬ LetsOut (fun (e:Exit) a w=>match e with | .normal=>K a w | _=>False):=fun K ⟨a,w,h⟩=>h
 refine wpListIn_pre (Q:=fun (e:Exit) a w=>match e with | .normal=>wpListIn Fence.wide 1 Γ.P ops (liftX Γ Q) (⟨some d,.call ⟨.value y,args.toArray,ts⟩,ty,pos,af,none⟩ :: post) a w | _=>False) (fun ⟨_,_,h⟩=>h) (fun a w h=>h) (fun ch a w h=>h.elim) pre a w hnd.1 ?_
 refine sim_list henv pre s μ a w (fun o ho=>hops o (by simp [ho])) hR ?_
 unfold opsK runK at h
 unfold RunK
 split at h
 ·
  rename_i s1 tr hr
  rw [hr]
  intro μ1 a1 w1 hR1
  obtain ⟨hy,hbs,hr',hS,H',hA,hK⟩:=h
  obtain ⟨hgo,hv,hcall⟩:=hY _ _ _ hS
  simp only [wpListIn]
  rw [if_pos (by simp [Region.wanted])]
  refine ⟨fun _ _=>trivial,?_⟩
  rw [Oper.semAt_eq _ _ _ (fun c hc=>by cases hc)]
  have hyv:=eva_rep hR1 y
  rw [hy] at hyv
  generalize hev:a1.eval y=fv at hyv
  cases hyv
  have hlw:l < Γ.w0.heap.size:=(Array.getElem?_eq_some_iff.1 hl).1
  have hl1:w1.heap[l]?=some (.loop r0):=(hR1.hw.block l hlw hio).trans hl
  have hH:HArgs Γ.P w1 (MxC Γ s1.H μ1 bs) (pinC bs μ1) (args.map fun x=>told s1.H bs 5 (eva s1.t x)) (boxC s1.H bs) (args.toArray.map a1.eval) (layC bs μ1):=by
   refine ⟨start_mem hR1 hbs,by simp,fun i v hi=>?_,fun x hx=>?_⟩
   ·
    rw [List.getElem?_map,Option.map_eq_some_iff] at hi
    obtain ⟨q,hq,rfl⟩:=hi
    have:(args.toArray.map a1.eval).getD i undef=a1.eval q:=by simp [Array.getD_eq_getD_getElem?,hq]
    rw [this]
    exact told_rep hR1 hbs 5 _ _ (eva_rep hR1 q)
   ·
    obtain ⟨i,hi⟩:=List.mem_iff_getElem?.1 hx
    obtain ⟨b,y',h1,h2,h3,rfl⟩:=boxC_at hbs hi
    rw [renB_hot]; exact h3
  have hpin:∀ i j,bs[i]?=some (1,j)->pinC bs μ1 i=Γ.pin j:=by
   intro i j hi
   obtain ⟨x,hx,hh⟩:=hbs.hot (1,j) (List.mem_of_getElem? hi)
   simp only [pinC,hi,Option.bind_some]
   exact hR1.hp j x hx (hot_live hh)
  obtain ⟨fn,tmps,assign,body,hrun,hround⟩:=hcall w1 _ _ _ _ hH hl1 (pin_cells hR1 hbs hl1 rfl) ((hpin 0 j0 hb0).trans hp0) ((hpin 1 j1 hb1).trans hp1)
  have hex:(execOp a1.eval ⟨some d,.call ⟨.value y,args.toArray,ts⟩,ty,pos,af,none⟩).run Γ.P w1=.ok (.round l fn tmps assign body) w1:=by
   simp only [execOp,resolve,hev,Deferred.ofValue,invoke,Sem.run_bind,Sem.run_pure,Result.andThen_ok,Array.empty_append,callFunc]
   exact hrun
  rw [hex,Oper.uponIn_round]
  refine ⟨fun h=>(by cases h),hround.mono fun e w2 he=>?_⟩
  obtain ⟨μ2,hm,hp⟩:=he
  rcases hp with ⟨p,x,hp,_⟩ | ⟨_,v,rfl,hv2⟩
  · rw [hv] at hp; cases hp
  ·
   rw [hv] at hv2
   cases hv2
   obtain ⟨μ3,hR3,_⟩:=end_rel hR1 hbs hgo (b0:=(0,16 * d)) rfl hm hA
   have hod:=hops ⟨some d,.call ⟨.value y,args.toArray,ts⟩,ty,pos,af,none⟩ (by simp)
   have hR4:=hR3.put (d:=some d) (opOK_dst hod) (.bool _ true)
   have hlast:∀ (os:List Oper) a w,os.all noDefO=true->wpList Γ.P ops (fun (e:Exit) a w=>match e with | .normal=>liftX Γ Q .normal a w | _=>False) os a w->wpListIn Fence.wide 1 Γ.P ops (liftX Γ Q) os a w:=fun os a w hd h=>by
    have:=wpListIn_pre (n:=1) (Q:=fun (e:Exit) a w=>match e with | .normal=>liftX Γ Q .normal a w | _=>False) (Q':=liftX Γ Q) (l2:=[]) (fun ⟨_,_,h⟩=>h) (fun a w h=>h) (fun ch a w h=>h.elim) os a w hd h
    rw [List.append_nil] at this
    exact this
   refine hlast post _ _ hnd.2 (sim_list henv post _ μ3 _ _ (fun o ho=>hops o (by simp [ho])) hR4 ?_)
   unfold RunK
   split at hK
   · rename_i s3 tr3 hr3; rw [hr3]; exact fun μ' a' w' hR'=>⟨s3,μ',hR',hK⟩
   · exact hK.elim
   · exact hK.elim
 · exact h.elim
 · exact h.elim
end
theorem calls_ofH {P:Program} {f:FuncId} {fn:Func} {c:Code} {env:Env} (hf:P.funcs[f]?=some fn) (hb:fn.body=some c) (hok:codeOK P fn.ntmps c=true) (henv:EnvOK P env)
  {args:List AV} {bx:List Box} {hr:HR} (hlen:args.length<=fn.ntmps) {w:World} {Mx:Nat->Prop} {pin:Nat->Option (Nat × Nat)} {vals:Array Value} {μ:Lay} (hA:HArgs P w Mx pin args bx vals μ)
  (hbody:awp ⟨P,w,Mx,fn.ntmps,pin,[],true⟩ env c (fW_ (TI.of P) fn.results.toList hr) ⟨argsF args,hB bx⟩):Calls P f vals w (HPost P w Mx pin hr):=by
 refine callsIn_wide.1 (callsIn_of_wp_marks (F:=Fence.wide) (n:=0) hf hb trivial (wpIn_wide.2 ?_))
 have hsz:=hA.sz
 have hR:Rel ⟨P,w,Mx,fn.ntmps,pin,[],true⟩ ⟨argsF args,hB bx⟩ μ { tmps:=vals++Array.replicate (fn.ntmps - vals.size) undef,defers:=[] } w:=by
  refine ⟨Marks.nil ⟨P,w,Mx,fn.ntmps,pin,[],true⟩ _,by simp; omega,hA.mem.hx,fun i=>?_,hA.mem.hb,hA.mem.hi,hA.mem.hf,hA.mem.hw,hA.mem.hp⟩
  simp only [argsF]
  by_cases hi:i < args.length
  ·
   have hgi:args[i]?=some args[i]:=List.getElem?_eq_getElem hi
   have hv:=hA.rep i _ hgi
   have e1:args.getD i .u=args[i]:=by simp [hi]
   have e2:(vals++Array.replicate (fn.ntmps - vals.size) undef).getD i undef=vals.getD i undef:=by
    simp only [Array.getD_eq_getD_getElem?,Array.getElem?_append,show i < vals.size by omega,if_true]
   rw [e1,e2]
   exact hv
  ·
   have e1:args.getD i .u=.u:=by simp [List.getD_eq_getElem?_getD,List.getElem?_eq_none (by omega:args.length<=i)]
   rw [e1]
   exact .u _ _
 have hwp:=hbody henv hok μ _ w hR
 refine Code.wp_mono ?_ hwp
 intro e a' w' he
 have done:∀ s μ',Rel ⟨P,w,Mx,fn.ntmps,pin,[],true⟩ s μ' a' w'->∀ ρ,(renOK ρ/\boxesOK (hOf (outL hr)) ρ s.H (outL hr)/\resH (TI.of P) s (hOf (outL hr)) ρ hr.v fn.results.toList/\(∀ p,hr.v ≠ .pnc p))->LeavesInM Fence.wide 0 P fn a'.tmps (HPost P w Mx pin hr) a'.defers .returning w':=by
  rintro s μ' hR' ρ ⟨h1,h2,h3,h4⟩
  refine leavesM (by simp) hR' fun w2 ht hR2=>?_
  obtain ⟨hm,hrep⟩:=retell hR2 ρ h1 h2
  obtain ⟨x,hx1,hx2⟩:=resH_run hR2 hrep h3
  exact ⟨x,hx1,renLay ρ μ',⟨hm.hx,hm.hb,hm.hi,hm.hf,hm.hw,hm.hp⟩,.inr ⟨h4,x,rfl,hx2⟩⟩
 cases e with
 | normal=>obtain ⟨s,μ',hR',ρ,hq⟩:=he; exact done s μ' hR' ρ hq
 | ret=>obtain ⟨s,μ',hR',ρ,hq⟩:=he; exact done s μ' hR' ρ hq
 | exit i=>obtain ⟨s,μ',hR',ρ,hq⟩:=he; exact hq.elim
 | goto l=>exact he.elim
 | outgrown=>exact he.elim
 | panic ch=>
  obtain ⟨s,μ',v,x,rfl,hR',hx,ρ,h1,h2,p,hp,h3⟩:=he
  refine leavesM (by simp) hR' fun w2 ht hR2=>?_
  obtain ⟨hm,hrep⟩:=retell hR2 ρ h1 h2
  exact ⟨renLay ρ μ',⟨hm.hx,hm.hb,hm.hi,hm.hf,hm.hw,hm.hp⟩,.inl ⟨p,x,hp,rfl,hrep v x (hx.turned ht) p h3⟩⟩
def IterSound (P:Program) (fid:FuncId) (caps:List AV) (S:HSpec) (bx:List Box) (hr:HR) (j0 j1:Nat):Prop:=
 goOns bx hr.up/\(∀ p,hr.v ≠ .pnc p)/\∀ (l:Nat) (r0:Loop) (p0 p1:Option (Nat × Nat)) (w:World) (Mx:Nat->Prop) (pin:Nat->Option (Nat × Nat)) (vals:Array Value) (μ:Lay),YSound P l r0 p0 p1 S->HArgs P w Mx pin (.yl l :: caps) bx vals μ ->
  w.heap[l]?=some (.loop r0)->(¬ ∃ i c,pin i=some (l,c))->pin j0=p0->pin j1=p1->Calls P fid vals w (HPost P w Mx pin hr)
def roundX (q:HR):X->St->Prop
 | .normal,s'=>∃ ρ,renOK ρ/\boxesOK (hOf (outL q)) ρ s'.H (outL q)
 | _,_=>False
theorem putObj_back {w:World} {l:Nat} {o o':Obj} (h:w.heap[l]?=some o):(w.putObj l o').putObj l o=w:=by
 obtain ⟨hl,he⟩:=Array.getElem?_eq_some_iff.1 h
 cases w
 simp only [World.putObj] at *
 congr 1
 apply Array.ext_getElem?
 intro i
 simp only [Array.getElem?_setIfInBounds,Array.size_setIfInBounds]
 by_cases e:l=i
 · subst e; simp [hl,he]
 · simp [e]
section
variable {Γ:Ctx} {env:Env} {Q:X->St->Prop} {s:St}
theorem awp_range {g:Operand} {p1 p2:Tmp} {asg body:Code} {fid:FuncId} {caps:List AV} {S:HSpec} {bs:List Bid} {hr:HR} {b0:Bid} {H':Heap} {to tl:Tmp} {bo bl:Bid} {j0 j1:Nat}
  (hg:eva s.t g=.fn fid caps) (hent:entersB Γ.P fid=true) (hbs:OkB s.H bs) (hit:IterSound Γ.P fid (caps.map (told s.H bs 5)) S (boxC s.H bs) hr j0 j1)
  (hto:s.t to=.ref bo 0) (htl:s.t tl=.ref bl 0) (hj0:bs[j0]?=some bo) (hj1:bs[j1]?=some bl) (h0:b0.1=0) (hA:After s.H bs b0 hr.up hr.nw (back bs b0 5) H')
  (hnd:(noDef asg && noDef body)=true)
  (hS:∀ args bx q,S args bx=some q->goOns bx q.up/\q.v=.bool true/\∃ v0 v1 cs0 cs1 r,args=[v0,v1]/\bx=.obj cs0 :: .obj cs1 :: r /\
   ∀ (Γ':Ctx) (l:Nat),Γ'.P=Γ.P->Γ'.n=Γ.n->awpR Γ' env l 0 asg (thenX (fun s1=>∀ Γ'':Ctx,Γ''.P=Γ.P->Γ''.n=Γ.n->awpR Γ'' env l 0 body (roundX q) s1) noX)
    ⟨tput (tput (ofL [(to,.ref (1,0) 0),(tl,.ref (1,1) 0)]) (some p1) v0) (some p2) v1,hB bx⟩)
  (hend:Q .normal ⟨s.t,H'⟩) (hmk:Γ.lp=true:=by rfl):awp Γ env (.rangeFunc g #[p1,p2] asg body) Q s:=by
 intro henv hok μ a w hR
 simp only [codeOK,Bool.and_eq_true,List.all_cons,List.all_nil,decide_eq_true_eq] at hok
 obtain ⟨⟨⟨hp1,hp2,_⟩,hokA⟩,hokB⟩:=hok
 simp only [Bool.and_eq_true] at hnd
 refine (wpIn_wide (n:=1)).1 (wpIn_rangeFunc fun fn _=>?_)
 have hgv:=eva_rep hR g
 rw [hg] at hgv
 generalize hev:a.eval g=gv at hgv
 obtain ⟨vs,rfl,hvs,hvr⟩:∃ vs:Array Value,gv=.func (.func fid) #[] vs/\vs.size=caps.length/\∀ i c,caps[i]?=some c->Rep w (forb Γ.Mx μ s.H) μ s.H c (vs.getD i undef):=by
  cases hgv with
  | fn _ _ _ vs gg hs hv hr=>
   refine ⟨vs,rfl,hs,fun i c hc=>?_⟩
   have:=hv i (List.getElem?_eq_some_iff.1 hc).1
   simp only [Array.getD_eq_getD_getElem?,this,Option.getD_some]
   exact hr i c hc
 obtain ⟨w1,hw1⟩:∃ x,x=(w.alloc (.deferred (some []))).alloc (.loop { state:=.ready,pending:=none,fn,tmps:=a.tmps,params:=#[p1,p2],assign:=asg,body,defers:=w.heap.size }):=⟨_,rfl⟩
 obtain ⟨r0,hr0⟩:∃ x:Loop,x={ state:=.ready,pending:=none,fn,tmps:=a.tmps,params:=#[p1,p2],assign:=asg,body,defers:=w.heap.size }:=⟨_,rfl⟩
 obtain ⟨l,hl⟩:∃ x,x=w.heap.size + 1:=⟨_,rfl⟩
 have hbel:Below w.heap.size w w1:=by rw [hw1]; exact ((Below.refl _ w).alloc (Nat.le_refl _) _).alloc (by simp) _
 have hl1:w1.heap[l]?=some (.loop r0):=by rw [hw1,hl,hr0]; have:=World.alloc_heap_new (w.alloc (.deferred (some []))) (.loop { state:=.ready,pending:=none,fn,tmps:=a.tmps,params:=#[p1,p2],assign:=asg,body,defers:=w.heap.size }); rw [World.size_alloc] at this; exact this
 have hD1:w1.heap[w.heap.size]?=some (.deferred (some [])):=by rw [hw1,((Below.refl _ (w.alloc (.deferred (some [])))).alloc (Nat.le_refl _) _).block w.heap.size (by rw [World.size_alloc]; omega)]; exact World.alloc_heap_new w _
 have hlw:Γ.w0.heap.size<=l:=by have:=hR.hw.size; omega
 have hl1s:l < w1.heap.size:=(Array.getElem?_eq_some_iff.1 hl1).1
 obtain ⟨a1,ha1⟩:∃ x:Act,x={ a with defers:={ target:=.collected w.heap.size,args:=#[] } :: a.defers }:=⟨_,rfl⟩
 have hat:a1.tmps=a.tmps:=by rw [ha1]
 have hR1:Rel Γ s μ a1 w1:=by
  refine (hR.grow hbel (by rw [hw1]; exact (NF.push (w:=w) rfl (by intro _ _ _ h; cases h)).trans (NF.push rfl (by intro _ _ _ h; cases h)))).turned (Turned.refl _) (BelowX.refl _ _ _) hat ?_
  obtain ⟨ms,q1,q2,q3⟩:=hR.hd
  refine ⟨w.heap.size :: ms,by rw [ha1]; simp [q1],List.nodup_cons.2 ⟨fun hm=>?_,q2⟩,fun D hD=>?_⟩
  ·
   have:=(Array.getElem?_eq_some_iff.1 (q3 _ hm).2.1).1
   omega
  ·
   rcases List.mem_cons.1 hD with rfl | hD
   · exact ⟨hR.hw.size,hD1,hmk⟩
   ·
    have:=(Array.getElem?_eq_some_iff.1 (q3 _ hD).2.1).1
    exact ⟨(q3 D hD).1,(hbel.block D this).trans (q3 D hD).2.1,(q3 D hD).2.2⟩
 have hev1:a1.eval g=.func (.func fid) #[] vs:=by
  rw [<-hev,ha1]
  cases g <;> rfl
 have hvr1:∀ i c,caps[i]?=some c->Rep w1 (forb Γ.Mx μ s.H) μ s.H c (vs.getD i undef):=by
  have h1:=eva_rep hR1 g
  rw [hev1,hg] at h1
  cases h1 with
  | fn _ _ _ _ gg hs hv hr=>
   intro i c hc
   have:=hv i (List.getElem?_eq_some_iff.1 hc).1
   simp only [Array.getD_eq_getD_getElem?,this,Option.getD_some]
   exact hr i c hc
 have hnio:¬ ∃ i c,pinC bs μ i=some (l,c):=pin_cells hR1 hbs hl1 rfl
 have href:∀ (t:Tmp) (b:Bid),s.t t=.ref b 0->∃ g c,μ b=some (g,c)/\a.tmps.getD t undef=.pointer (some ⟨g,0,none⟩):=by
  intro t b ht
  have:=hR.ht t
  rw [ht] at this
  generalize a.tmps.getD t undef=v at this
  cases this with
  | ref _ _ _ cs g c hH hμ=>exact ⟨g,c,hμ,rfl⟩
 obtain ⟨go,co,hgo1,hgo2⟩:=href to bo hto
 obtain ⟨gl,cl,hgl1,hgl2⟩:=href tl bl htl
 have hY:YSound Γ.P l r0 (μ bo) (μ bl) S:=by
  intro args bx q hq
  obtain ⟨hgoq,hvq,v0,v1,cs0,cs1,r,rfl,rfl,hround⟩:=hS args bx q hq
  refine ⟨hgoq,hvq,fun w2 Mx pin vals μ2 hA2 hl2 hn2 hq0 hq1=>?_⟩
  obtain ⟨x0,x1,rfl⟩:∃ x0 x1,vals=#[x0,x1]:=by
   have hsz:=hA2.sz
   obtain ⟨vl⟩:=vals
   match vl,hsz with
   | [x0,x1],_=>exact ⟨x0,x1,rfl⟩
  have hl2s:l < w2.heap.size:=(Array.getElem?_eq_some_iff.1 hl2).1
  refine ⟨_,_,_,_,run_yield hl2 (by rw [hr0]; rfl),roundIn_of_wpIn trivial ?_⟩
  have hRb:Rel ⟨Γ.P,w2,Mx,Γ.n,pin,[],true⟩ ⟨ofL [(to,.ref (1,0) 0),(tl,.ref (1,1) 0)],hB (.obj cs0 :: .obj cs1 :: r)⟩ μ2 { a with defers:=[] } w2:=by
   refine ⟨Marks.nil ⟨Γ.P,w2,Mx,Γ.n,pin,[],true⟩ _,hR.hn,hA2.mem.hx,fun i=>?_,hA2.mem.hb,hA2.mem.hi,hA2.mem.hf,hA2.mem.hw,hA2.mem.hp⟩
   have b0':hB (.obj cs0 :: .obj cs1 :: r) (1,0)=some (.obj cs0):=hB_one _ 0
   have b1':hB (.obj cs0 :: .obj cs1 :: r) (1,1)=some (.obj cs1):=hB_one _ 1
   simp only [ofL,fput]
   by_cases e0:i=to
   ·
    subst e0
    rw [if_pos rfl,hgo2]
    exact .ref _ _ _ _ _ co b0' ((hA2.mem.hp 0 _ b0' rfl).trans (hq0.trans hgo1))
   ·
    rw [if_neg e0]
    by_cases e1:i=tl
    ·
     subst e1
     rw [if_pos rfl,hgl2]
     exact .ref _ _ _ _ _ cl b1' ((hA2.mem.hp 1 _ b1' rfl).trans (hq1.trans hgl1))
    ·
     rw [if_neg e1]
     exact .u _ _
  have hrp:=(hRb.put (d:=some p1) (fun t ht=>by cases ht; exact hp1) (hA2.rep 0 v0 rfl)).put (d:=some p2) (fun t ht=>by cases ht; exact hp2) (hA2.rep 1 v1 rfl)
  have hw:=hround ⟨Γ.P,w2,Mx,Γ.n,pin,[],true⟩ l rfl rfl henv hokA hnd.1 _ _ w2 hrp
  have hact:({ tmps:=(r0.params.zip #[x0,x1]).foldl (fun tmps (t,a)=>tmps.setIfInBounds t a) r0.tmps,defers:=[] }:Act)=(({ a with defers:=[] }:Act).put (some p1) x0).put (some p2) x1:=by
   rw [hr0]; simp [Act.put]
  rw [hact]
  rw [show r0.assign=asg by rw [hr0],show r0.body=body by rw [hr0]]
  refine Code.wpIn_mono (fun e a2 w3 he=>?_) hw
  cases e with
  | normal=>
   obtain ⟨s3,μ3,hR3,hK⟩:=he
   have hl3:w3.heap[l]?=some (.loop r0):=(hR3.hw.block l hl2s hn2).trans hl2
   refine ⟨_,run_beginRound hl3 (by rw [hr0]),?_⟩
   have hR4:=hR3.turned0 hl2s hl3 rfl (.loop { r0 with state:=.busy })
   refine Code.wpIn_mono (fun e a4 w4 he=>?_) (hK { (⟨Γ.P,w2,Mx,Γ.n,pin,[],true⟩:Ctx) with w0:=w2.putObj l (.loop { r0 with state:=.busy }) } rfl rfl henv hokB hnd.2 _ _ _ hR4)
   cases e with
   | normal=>
    obtain ⟨s5,μ5,hR5,ρ,hρ,hbx⟩:=he
    have hl4:w4.heap[l]?=some (.loop { r0 with state:=.busy }):=(hR5.hw.block l (by rw [World.putObj_size]; exact hl2s) hn2).trans (World.putObj_heap_same hl2s)
    have hR6:=hR5.turned0 (by rw [World.putObj_size]; exact hl2s) hl4 rfl (.loop r0)
    have hend':=run_endRound (P:=Γ.P) none hl4
    obtain ⟨hm,_⟩:=retell hR6 ρ hρ hbx
    have hrr:({ r0 with state:=.ready,pending:=none }:Loop)=r0:=by rw [hr0]
    simp only [Option.isNone_none,if_true,hrr] at hend'
    have e0:(w2.putObj l (.loop { r0 with state:=.busy })).putObj l (.loop r0)=w2:=putObj_back hl2
    have hx:=hm.hx
    have hb:=hm.hb
    have hf:=hm.hf
    have hw:=hm.hw
    simp only [Ctx.io,e0] at hx hb hf hw
    refine ⟨_,_,hend',renLay ρ μ5,⟨hx,hb,hm.hi,hf,hw,hm.hp⟩,.inr ⟨by rw [hvq]; simp,_,rfl,by rw [hvq]; exact .bool _ _⟩⟩
   | exit i=>obtain ⟨_,_,_,hq⟩:=he; exact hq.elim
   | ret=>obtain ⟨_,_,_,hq⟩:=he; exact hq.elim
   | panic ch=>obtain ⟨_,_,_,_,_,_,_,hq⟩:=he; exact hq.elim
   | goto _=>exact he.elim
   | outgrown=>exact he.elim
  | exit i=>obtain ⟨_,_,_,hq⟩:=he; exact hq.elim
  | ret=>obtain ⟨_,_,_,hq⟩:=he; exact hq.elim
  | panic ch=>obtain ⟨_,_,_,_,_,_,_,hq⟩:=he; exact hq.elim
  | goto _=>exact he.elim
  | outgrown=>exact he.elim
 obtain ⟨hgoI,hvI,hcallI⟩:=hit
 have hpinC:∀ (j:Nat) (b:Bid),bs[j]?=some b->pinC bs μ j=μ b:=fun j b hj=>by simp [pinC,hj]
 have hAr:HArgs Γ.P w1 (MxC Γ s.H μ bs) (pinC bs μ) (.yl l :: caps.map (told s.H bs 5)) (boxC s.H bs) (#[Value.func (.yield l) #[] #[]]++vs) (layC bs μ):=by
  refine ⟨start_mem hR1 hbs,by simp [hvs]; omega,fun i v hi=>?_,fun x hx=>?_⟩
  ·
   cases i with
   | zero=>
    simp only [List.getElem?_cons_zero,Option.some.injEq] at hi
    subst hi
    have:(#[Value.func (.yield l) #[] #[]]++vs).getD 0 undef=.func (.yield l) #[] #[]:=by simp [Array.getD_eq_getD_getElem?,Array.getElem?_append]
    rw [this]
    exact .yl _ _
   | succ i=>
    simp only [List.getElem?_cons_succ,List.getElem?_map,Option.map_eq_some_iff] at hi
    obtain ⟨c,hc,rfl⟩:=hi
    have:(#[Value.func (.yield l) #[] #[]]++vs).getD (i + 1) undef=vs.getD i undef:=by simp [Array.getD_eq_getD_getElem?,Array.getElem?_append]
    rw [this]
    exact told_rep hR1 hbs 5 _ _ (hvr1 i c hc)
  ·
   obtain ⟨i,hi⟩:=List.mem_iff_getElem?.1 hx
   obtain ⟨b,y',h1,h2,h3,rfl⟩:=boxC_at hbs hi
   rw [renB_hot]; exact h3
 have hcall:=hcallI l r0 _ _ w1 _ _ _ _ hY hAr hl1 hnio (hpinC j0 bo hj0) (hpinC j1 bl hj1)
 refine ⟨l,[{ target:=.collected w.heap.size,args:=#[] }],w1,{ target:=.fn (.func fid) vs,args:=#[.func (.yield l) #[] #[]] },w1,fid,#[.func (.yield l) #[] #[]]++vs,w1,?_,?_,fun _ _=>trivial,?_,fun h=>(by cases h),?_⟩
 · rw [hw1,hl]; exact run_enterLoop_outer fn a.tmps #[p1,p2] asg body
 ·
  simp only [resolve,hev,Deferred.ofValue,Sem.run_pure,Array.empty_append,List.map_toArray,List.map_cons,List.map_nil]
  rfl
 ·
  simp only [invoke]
  exact run_callFunc hent _
 ·
  refine callsIn_wide.2 (Calls.mono hcall ?_)
  rintro e W' ⟨μ',hm,he⟩
  have hat1:({ a with defers:=[{ target:=.collected w.heap.size,args:=#[] }]++a.defers }:Act)=a1:=by rw [ha1]; rfl
  rcases he with ⟨p,x,hp,_⟩ | ⟨_,v,rfl,_⟩
  · exact absurd hp (hvI p)
  ·
   have hlf:W'.heap[l]?=some (.loop r0):=(hm.hw.block l hl1s hnio).trans hl1
   obtain ⟨μ'',hRf,_⟩:=end_rel hR1 hbs hgoI h0 hm hA
   rw [hat1]
   exact ⟨_,_,run_endLoop hlf (by rw [hr0]; simp),by rw [show r0.pending=none by rw [hr0]]; exact ⟨_,μ'',hRf.turnAt hlw hlf _,hend⟩⟩
end
open Go
section
variable (T:TypeId->Option TI) (env:Env) (ops:Array Oper) (dst:Option Tmp) (op:Op) (ty:TypeId) (pos:String) (af:Array Edge) (s:St) (ρ:Operand->AV) (H:Heap)
@[go_sem] theorem aStep_plain:aStep T env ops ⟨dst,op,ty,pos,af,none⟩ s=fin dst s (aVal T env dst op (eva s.t) s.H):=rfl
@[go_sem] theorem aStep_guard (j w):aStep T env ops ⟨dst,op,ty,pos,af,some (j,w)⟩ s=guarded w dst s (fin dst s (aVal T env dst op (eva s.t) s.H)) (guardV ops j s.t):=rfl
@[go_sem] theorem aVal_move (x):aVal T env dst (.move x) ρ H=val (ρ x):=rfl
@[go_sem] theorem aVal_assign (x):aVal T env dst (.assign x) ρ H=val (ρ x):=rfl
@[go_sem] theorem aVal_pick (c a b):aVal T env dst (.pick c a b) ρ H=vPick (ρ c) (ρ a) (ρ b):=rfl
@[go_sem] theorem aVal_alloc (t):aVal T env dst (.alloc t) ρ H=vAlloc (nid dst) (T t):=rfl
@[go_sem] theorem aVal_box (t x):aVal T env dst (.box t x) ρ H=vBox (nid dst) (cells (ρ x)):=rfl
@[go_sem] theorem aVal_build (t) (l:List (Nat × Operand)):aVal T env dst (.build t l.toArray) ρ H=vBuild (T t) (l.map fun p=>(p.1,ρ p.2)):=rfl
@[go_sem] theorem aVal_buildSlice (t n) (l:List (Nat × Operand)):aVal T env dst (.buildSlice t n l.toArray) ρ H=vBuildSlice (nid dst) n H (T t) ((T t).bind fun i=>T i.etype) (l.map fun p=>(p.1,ρ p.2)):=rfl
@[go_sem] theorem aVal_loadE (t a):aVal T env dst (.load t a) ρ H=vLoad H (T t) (ρ a):=rfl
@[go_sem] theorem aVal_store (t a x):aVal T env dst (.store t a x) ρ H=vStore H (T t) (ρ a) (ρ x):=rfl
@[go_sem] theorem aVal_nilCheck (a):aVal T env dst (.nilCheck a) ρ H=vNil (ρ a):=rfl
@[go_sem] theorem aVal_binOp (o t x y t'):aVal T env dst (.binOp o t x y t') ρ H=vBin (T t) o (ρ x) (ρ y):=rfl
@[go_sem] theorem aVal_unOp (o t x):aVal T env dst (.unOp o t x) ρ H=vUn o (ρ x):=rfl
@[go_sem] theorem aVal_convert (t t' x):aVal T env dst (.convert t t' x) ρ H=vConv (T t) ((T t).bind fun i=>T i.etype) (T t') (ρ x):=rfl
@[go_sem] theorem aVal_iface (t x):aVal T env dst (.makeInterface t x) ρ H=vIface t (ρ x):=rfl
@[go_sem] theorem aVal_panic (x):aVal T env dst (.panic x) ρ H=vPanic (ρ x):=rfl
@[go_sem] theorem aVal_makeFunc (f) (l:List Operand):aVal T env dst (.makeFunc (.func f) #[] l.toArray) ρ H=val (.fn f (l.map ρ)):=rfl
@[go_sem] theorem aVal_slice (t x lo hi):aVal T env dst (.slice t x lo hi none) ρ H=vSliceA H (T t) (lo.map ρ) (hi.map ρ) (ρ x):=rfl
@[go_sem] theorem vSliceA_own (i lo hi b n):vSliceA H i lo hi (.own b n)=vSlice H (.own b n) i (content H (.own b n)) (bnd (some 0) lo) (bnd ((content H (.own b n)).map (·.2.length)) hi):=rfl
@[go_sem] theorem vSliceA_sl (i lo hi k L):vSliceA H i lo hi (.sl k L)=vSlice H (.sl k L) i (content H (.sl k L)) (bnd (some 0) lo) (bnd ((content H (.sl k L)).map (·.2.length)) hi):=rfl
@[go_sem] theorem vSliceA_nils (i lo hi):vSliceA H i lo hi .nils=vSlice H .nils i (content H .nils) (bnd (some 0) lo) (bnd ((content H .nils).map (·.2.length)) hi):=rfl
@[go_sem] theorem vSliceA_iref (i cs o):vSliceA H i none none (.iref cs o)=arrS cs o i:=rfl
@[go_sem] theorem arrS_some (i cs o):arrS cs o (some i)=if i.arr=true/\i.esize=1/\o + i.len<=cs.length/\i.len<=maxLen then val (.sl 1 (((cs.drop o).take i.len).map fun x=>[x])) else none:=rfl
@[go_sem] theorem aVal_fieldAddr (t x f):aVal T env dst (.fieldAddr t x f) ρ H=vFieldAddr H (T t) (ρ x) f:=rfl
@[go_sem] theorem aVal_field (t x f):aVal T env dst (.field t x f) ρ H=vField (T t) (ρ x) f:=rfl
@[go_sem] theorem aVal_index (t x i):aVal T env dst (.index t x i) ρ H=vIndex (T t) ((T t).bind fun i=>T i.etype) (ρ x) (ρ i):=rfl
@[go_sem] theorem aVal_indexAddr (t x i):aVal T env dst (.indexAddr t x i) ρ H=vIndexAddr H (T t) (ρ x) (ρ i):=rfl
@[go_sem] theorem aVal_extract (x i):aVal T env dst (.extract x i) ρ H=vExtract i (ρ x):=rfl
@[go_sem] theorem aVal_len (x t):aVal T env dst (.call ⟨.builtin .len,#[x],#[t]⟩) ρ H=vLen H (T t) (ρ x):=rfl
@[go_sem] theorem aVal_max (x y ts):aVal T env dst (.call ⟨.builtin .max,#[x,y],ts⟩) ρ H=vMax (ρ x) (ρ y):=rfl
@[go_sem] theorem aVal_max4 (x y z uu ts):aVal T env dst (.call ⟨.builtin .max,#[x,y,z,uu],ts⟩) ρ H=vMax4 (ρ x) (ρ y) (ρ z) (ρ uu):=rfl
@[go_sem] theorem aVal_min (x y ts):aVal T env dst (.call ⟨.builtin .min,#[x,y],ts⟩) ρ H=vMin (ρ x) (ρ y):=rfl
@[go_sem] theorem aVal_append (a x t):aVal T env dst (.call ⟨.builtin .append,#[a,x],#[t,t]⟩) ρ H=vAppend H (nid dst) (ρ a) (T t) ((T t).bind fun i=>T i.etype) (content H (ρ x)):=by
 simp [aVal,vCallC,vBuiltin]
@[go_sem] theorem aVal_call (f) (l:List Operand) (ts):aVal T env dst (.call ⟨.value f,l.toArray,ts⟩) ρ H=vCall (nid dst) H env (ρ f) (l.map ρ):=rfl
end
@[go_sem] theorem fin_none (d s):fin d s none=none:=rfl
@[go_sem] theorem stepK_val (d s v K Q):stepK K Q (fin d s (val v))=K ⟨tput s.t d v,s.H⟩ [] []:=rfl
@[go_sem] theorem fin_val (d s v):fin d s (val v)=some ⟨⟨tput s.t d v,s.H⟩,[],[],none⟩:=rfl
@[go_sem] theorem fin_some' (d s v nw up fp):fin d s (some ⟨v,nw,up,fp,none⟩)=finH d s ⟨v,nw,up,fp,none⟩ (hnews s.H nw):=rfl
@[go_sem] theorem fin_pan (d s v nw up fp p):fin d s (some ⟨v,nw,up,fp,some p⟩)=finH d s ⟨v,nw,up,fp,some p⟩ (hnews s.H nw):=rfl
@[go_sem] theorem finH_some (d s v nw up fp H):finH d s ⟨v,nw,up,fp,none⟩ (some H)=some ⟨⟨tput s.t d v,hputs H up⟩,up.map (·.1),fp,none⟩:=rfl
@[go_sem] theorem finH_pan (d s v nw up fp p H):finH d s ⟨v,nw,up,fp,some p⟩ (some H)=some ⟨⟨s.t,hputs H up⟩,up.map (·.1),fp,some p⟩:=rfl
@[go_sem] theorem stepK_out (s c f K Q):stepK K Q (some ⟨s,c,f,none⟩)=K s c f:=rfl
@[go_sem] theorem stepK_pan (s c f v K Q):stepK K Q (some ⟨s,c,f,some v⟩)=Q (.pan v) s:=rfl
@[go_sem] theorem guarded_bool (w d s go b):guarded w d s go (.bool b)=if b=w then go else some ⟨⟨tput s.t d (.tup []),s.H⟩,[],[],none⟩:=rfl
@[go_sem] theorem guarded_ud (w d s go):guarded w d s go (.tup [])=some ⟨⟨tput s.t d (.tup []),s.H⟩,[],[],none⟩:=rfl
@[go_sem] theorem vPick_bool (t a b):vPick (.bool t) a b=val (bif t then a else b):=rfl
@[go_sem] theorem vAlloc_some (b i):vAlloc b (some i)=if i.zero.isEmpty=true then none else some ⟨.ref b 0,[(b,.obj i.zero)],[],[],none⟩:=rfl
@[go_sem] theorem vBox_some (b cs):vBox b (some cs)=some ⟨.ref b 0,[(b,.obj cs)],[],[],none⟩:=rfl
@[go_sem] theorem vBuild_some (i l):vBuild (some i) l=if i.zero.isEmpty=true\/i.agg=false then none else optA (if i.arr then arrP i.esize l (some i.zero) else structP i.fields l (some i.zero)):=rfl
@[go_sem] theorem optA_some (l):optA (some l)=val (.agg l):=rfl
@[go_sem] theorem vBuildSlice_some (b n H i e l):vBuildSlice b n H (some i) (some e) l=if i.slc=true/\e.zero.length=i.esize/\0 < i.esize/\n * i.esize<=16777216/\(l.map (·.2)).all plainA=true then rowP b i n (frzs H (rowsIn (l.map (·.2)))) (rowsIn (l.map (·.2))) (arrP i.esize (l.map fun p=>(p.1,view H 2 p.2)) (some (List.replicate n e.zero).flatten)) else none:=rfl
@[go_sem] theorem rowP_some (b i n up fp cs):rowP b i n up fp (some cs)=if cs.all flatC=true/\cs.length=n * i.esize then some ⟨.own b n,[(b,.row i.etype i.esize (chunk i.esize n cs) false)],up,fp,none⟩ else none:=rfl
@[go_sem] theorem vLoad_ref (H i b o):vLoad H (some i) (.ref b o)=loadB i b o (H b):=rfl
@[go_sem] theorem vLoad_iref (H i b o):vLoad H (some i) (.iref b o)=optV (ld i b o):=rfl
@[go_sem] theorem vLoad_eref (H i b j o):vLoad H (some i) (.eref b j o)=loadE i b o (nthRow j (H b)):=rfl
@[go_sem] theorem loadB_obj (i b o cs):loadB i b o (some (.obj cs))=(ld i cs o).map fun v=>⟨v,[],[],[b],none⟩:=rfl
@[go_sem] theorem loadE_some (i b o cs):loadE i b o (some cs)=(ld i cs o).map fun v=>⟨v,[],[],[b],none⟩:=rfl
@[go_sem] theorem nthRow_row (j e sz L f):nthRow j (some (.row e sz L f))=L[j]?:=rfl
@[go_sem] theorem vStore_ref (H i b o x):vStore H (some i) (.ref b o) x=storeB b o i.size (cells x) (H b):=rfl
@[go_sem] theorem vStore_eref (H i b j o x):vStore H (some i) (.eref b j o) x=storeE b j o i.size (cells x) (H b):=rfl
@[go_sem] theorem storeB_obj (b o n d cs):storeB b o n (some d) (some (.obj cs))=if d.length=n/\o + n<=cs.length then some ⟨.u,[],[(b,.obj (over cs o d))],[b],none⟩ else none:=rfl
@[go_sem] theorem storeE_row (b j o n d e sz L):storeE b j o n (some d) (some (.row e sz L false))=storeR b j o n d e sz L L[j]?:=rfl
@[go_sem] theorem storeR_some (b j o n d e sz L cs):storeR b j o n d e sz L (some cs)=if d.length=n/\o + n<=cs.length/\d.all flatC=true then some ⟨.u,[],[(b,.row e sz (L.set j (over cs o d)) false)],[b],none⟩ else none:=rfl
@[go_sem] theorem vNil_ref (b o):vNil (.ref b o)=val (.ref b o):=rfl
@[go_sem] theorem vNil_iref (b o):vNil (.iref b o)=val (.iref b o):=rfl
@[go_sem] theorem vUn_not (b):vUn .not (.bool b)=val (.bool !b):=rfl
@[go_sem] theorem vUn_neg (k n):vUn .neg (.int k n)=val (.int k (k.wrap (0 - n))):=rfl
@[go_sem] theorem vConv_int (s e i k n):vConv s e (some i) (.int k n)=convK n i.kind:=rfl
@[go_sem] theorem vConv_sl (s e i k L):vConv s e (some i) (.sl k L)=if k=1 then vStr s e i L else none:=rfl
@[go_sem] theorem vStr_some (s e i L):vStr (some s) (some e) i L=if s.slc=true/\e.kind=some .u8/\i.agg=false/\i.kinds=some [.str] then strO (strL L) else none:=rfl
@[go_sem] theorem strO_some (ns):strO (some ns)=val (.str (bytesB ns)):=rfl
@[go_sem] theorem convK_some (n k):convK n (some k)=val (.int k (k.wrap n)):=rfl
@[go_sem] theorem vFieldAddr_some (H i x f):vFieldAddr H (some i) x f=fieldO H x i.fields[f]?:=rfl
@[go_sem] theorem fieldO_some (H x f):fieldO H x (some f)=if f.2.1=0 then none else addO H f.1 x:=rfl
@[go_sem] theorem addO_ref (H o b p):addO H o (.ref b p)=val (.ref b (p + o)):=rfl
@[go_sem] theorem addO_iref (H o b p):addO H o (.iref b p)=val (.iref b (p + o)):=rfl
@[go_sem] theorem addO_eref (H o b j p):addO H o (.eref b j p)=if isRow (H b)=true then some ⟨.eref b j (p + o),[],[],[b],none⟩ else none:=rfl
@[go_sem] theorem vIndex_agg (i e cs k n):vIndex (some i) (some e) (.agg cs) (.int k n)=if i.arr=true/\0<=n/\n < i.len/\e.agg=false then optV cs[n.toNat * i.esize]? else none:=rfl
@[go_sem] theorem vField_agg (i cs f):vField (some i) (.agg cs) f=fieldV cs i.fields[f]?:=rfl
@[go_sem] theorem fieldV_some (cs f):fieldV cs (some f)=if f.2.2 then (if f.1 + f.2.1<=cs.length then val (.agg ((cs.drop f.1).take f.2.1)) else none) else optV cs[f.1]?:=rfl
@[go_sem] theorem vIndexAddr_sl (H i k L q n):vIndexAddr H (some i) (.sl k L) (.int q n)=if k=i.esize/\k ≠ 0/\i.slc=true/\0<=n then irefO L[n.toNat]? else none:=rfl
@[go_sem] theorem vIndexAddr_own (H i b m k n):vIndexAddr H (some i) (.own b m) (.int k n)=if i.slc=true/\0<=n/\n < m/\erow i.esize (H b)=true then some ⟨.eref b n.toNat 0,[],[],[b],none⟩ else none:=rfl
@[go_sem] theorem vIndexAddr_ows (H i b l m k n):vIndexAddr H (some i) (.ows b l m) (.int k n)=if i.slc=true/\0<=n/\n < m/\erow i.esize (H b)=true then some ⟨.eref b (l + n.toNat) 0,[],[],[b],none⟩ else none:=rfl
@[go_sem] theorem vIndexAddr_ref (H i b o k n):vIndexAddr H (some i) (.ref b o) (.int k n)=if i.arr=true/\0<=n/\n < i.len then addO H (n.toNat * i.esize) (.ref b o) else none:=rfl
@[go_sem] theorem vIndexAddr_iref (H i b o k n):vIndexAddr H (some i) (.iref b o) (.int k n)=if i.arr=true/\0<=n/\n < i.len then addO H (n.toNat * i.esize) (.iref b o) else none:=rfl
@[go_sem] theorem irefO_some (cs):irefO (some cs)=val (.iref cs 0):=rfl
@[go_sem] theorem bnd_none (d):bnd d none=d:=rfl
@[go_sem] theorem bnd_int (d k n):bnd d (some (.int k n))=if 0<=n then some n.toNat else none:=rfl
@[go_sem] theorem vSlice_some (H x i k L l h):vSlice H x (some i) (some (k,L)) (some l) (some h)=if i.slc=true/\(k=i.esize\/L=[]) then cutS H x k L l h else none:=rfl
@[go_sem] theorem cutS_sl (H k' L' k L l h):cutS H (.sl k' L') k L l h=if l<=h/\h<=L.length then val (.sl k ((L.take h).drop l)) else none:=rfl
@[go_sem] theorem cutS_nils (H k L l h):cutS H .nils k L l h=if l<=h/\h<=L.length then val .nils else none:=rfl
@[go_sem] theorem vCap_nils (i):vCap .nils (some i)=if i.slc=true then val (.int .i64 0) else none:=rfl
@[go_sem] theorem vZeros_nils (b k n i ie i'):vZeros b .nils (.int k n) (some i) (some ie) (some i')=if i.slc=true/\ie.zero.length=i.esize/\0 < i.esize/\i'.kind.isSome=true/\0 < n/\n.toNat * i.ebytes<=140737488355328/\n<=4611686018427387904 then some ⟨.own b n.toNat,[(b,.row i.etype i.esize (List.replicate n.toNat ie.zero) false)],[],[],none⟩ else none:=rfl
@[go_sem] theorem cutS_own (H b n k L l h):cutS H (.own b n) k L l h=if l<=h/\h<=L.length then (if l=0 then some ⟨.own b h,[],[],[b],none⟩ else frzB b (.sl k ((L.take h).drop l)) (H b)) else none:=rfl
@[go_sem] theorem frzB_row (b v e sz M z):frzB b v (some (.row e sz M z))=some ⟨v,[],[(b,.row e sz M true)],[b],none⟩:=rfl
@[go_sem] theorem vAppend_nils (H b i e k M):vAppend H b .nils (some i) (some e) (some (k,M))=if i.slc=true/\e.zero.length=i.esize/\0 < i.esize/\(k=i.esize\/M=[]) then (if M.length * i.ebytes<=140737488355328/\M.length<=maxLen then some ⟨.own b M.length,[(b,.row i.etype i.esize M false)],[],[],none⟩ else none) else none:=rfl
@[go_sem] theorem vAppend_own (H b b' n i e k M):vAppend H b (.own b' n) (some i) (some e) (some (k,M))=if i.slc=true/\e.zero.length=i.esize/\0 < i.esize/\(k=i.esize\/M=[]) then (if (n + M.length) * i.ebytes<=140737488355328/\n + M.length<=maxLen then appO b b' n i M (H b') else none) else none:=rfl
@[go_sem] theorem appO_row (b b' n i M e sz L):appO b b' n i M (some (.row e sz L false))=if e=i.etype/\sz=i.esize then some ⟨.own b (n + M.length),[(b,.row e sz (L.take n++M) false)],[(b',.dead)],[b'],none⟩ else none:=rfl
@[go_sem] theorem vLen_sl (H i k L):vLen H (some i) (.sl k L)=if i.slc=true then val (.int .i64 L.length) else none:=rfl
@[go_sem] theorem vLen_own (H i b n):vLen H (some i) (.own b n)=if i.slc=true then lenB b (rowOf n (H b)) else none:=rfl
@[go_sem] theorem lenB_some (b k L):lenB b (some (k,L))=some ⟨.int .i64 L.length,[],[],[b],none⟩:=rfl
@[go_sem] theorem vLen_ows (H i b l n):vLen H (some i) (.ows b l n)=if i.slc=true/\isRow (H b)=true then some ⟨.int .i64 n,[],[],[b],none⟩ else none:=rfl
@[go_sem] theorem vLen_nils (H i):vLen H (some i) .nils=if i.slc=true then val (.int .i64 0) else none:=rfl
@[go_sem] theorem vLen_str (H i s):vLen H (some i) (.str s)=if i.agg=false/\i.kinds=some [.str] then val (.int .i64 s.size) else none:=rfl
@[go_sem] theorem lenO_some (k L):lenO (some (k,L))=val (.int .i64 L.length):=rfl
@[go_sem] theorem vExtract_tup (i vs):vExtract i (.tup vs)=optV vs[i]?:=rfl
@[go_sem] theorem vCall_fn (b H env g caps l):vCall b H env (.fn g caps) l=callS b H (env.lookup g) (l++caps):=rfl
@[go_sem] theorem callS_some (b H S l):callS b H (some (.p S)) l=callR b H l (S (l.map (view H 3))):=rfl
@[go_sem] theorem callS_h (b H S l):callS b H (some (.h S)) l=runH b H S l (l.foldl (coll H 6) []):=rfl
@[go_sem] theorem callS_v (b H S l):callS b H (some (.v S)) l=callV b H l (S (l.map (view H 3)) []):=rfl
@[go_sem] theorem callV_some (b0 H args hr):callV b0 H args (some hr)=if lightH hr=true then callH b0 [] (some hr) else if args.all plainA=true then withUp (frzs H (rowsIn args)) (callH b0 [] (some hr)) else none:=rfl
section
variable (H:Heap) (bs:List Bid) (b0:Bid) (d:Nat)
@[go_sem] theorem told_own (b n):told H bs (d + 1) (.own b n)=optOwn n (frzV n (H b)) (place b 0 bs):=rfl
@[go_sem] theorem told_ows (b l n):told H bs (d + 1) (.ows b l n)=owsOf l (optOwn n (frzV n (H b)) (place b 0 bs)):=rfl
@[go_sem] theorem told_pt (b k n):told H bs (d + 1) (.pt b k n)=ptOf k n (optRef 0 (place b 0 bs)):=rfl
@[go_sem] theorem told_ref (b n):told H bs (d + 1) (.ref b n)=optRef n (place b 0 bs):=rfl
@[go_sem] theorem told_agg (cs):told H bs (d + 1) (.agg cs)=.agg (cs.map (told H bs d)):=rfl
@[go_sem] theorem told_fn (f cs):told H bs (d + 1) (.fn f cs)=.fn f (cs.map (told H bs d)):=rfl
@[go_sem] theorem told_ifc (t x):told H bs (d + 1) (.ifc t x)=.ifc t (told H bs d x):=rfl
@[go_sem] theorem told_iref (cs o):told H bs (d + 1) (.iref cs o)=.iref cs o:=rfl
@[go_sem] theorem told_int (k n):told H bs d (.int k n)=.int k n:=by cases d <;> rfl
@[go_sem] theorem told_bool (b):told H bs d (.bool b)=.bool b:=by cases d <;> rfl
@[go_sem] theorem told_str (b):told H bs d (.str b)=.str b:=by cases d <;> rfl
@[go_sem] theorem told_sl (k L):told H bs d (.sl k L)=.sl k L:=by cases d <;> rfl
@[go_sem] theorem told_nils:told H bs d .nils=.nils:=by cases d <;> rfl
@[go_sem] theorem told_nilp:told H bs d .nilp=.nilp:=by cases d <;> rfl
@[go_sem] theorem told_nili:told H bs d .nili=.nili:=by cases d <;> rfl
@[go_sem] theorem told_u:told H bs d .u=.u:=by cases d <;> rfl
@[go_sem] theorem back_ows (b l n):back bs b0 (d + 1) (.ows b l n)=owsOf l (ownO n (backB bs b0 b)):=rfl
@[go_sem] theorem back_own (b n):back bs b0 (d + 1) (.own b n)=ownO n (backB bs b0 b):=rfl
@[go_sem] theorem back_pt (b k n):back bs b0 (d + 1) (.pt b k n)=ptOf k n (refO 0 (backB bs b0 b)):=rfl
@[go_sem] theorem back_ref (b n):back bs b0 (d + 1) (.ref b n)=refO n (backB bs b0 b):=rfl
@[go_sem] theorem back_agg (cs):back bs b0 (d + 1) (.agg cs)=.agg (cs.map (back bs b0 d)):=rfl
@[go_sem] theorem back_fn (f cs):back bs b0 (d + 1) (.fn f cs)=.fn f (cs.map (back bs b0 d)):=rfl
@[go_sem] theorem back_tup (cs):back bs b0 (d + 1) (.tup cs)=.tup (cs.map (back bs b0 d)):=rfl
@[go_sem] theorem back_ifc (t x):back bs b0 (d + 1) (.ifc t x)=.ifc t (back bs b0 d x):=rfl
@[go_sem] theorem back_iref (cs o):back bs b0 (d + 1) (.iref cs o)=.iref cs o:=rfl
@[go_sem] theorem back_int (k n):back bs b0 d (.int k n)=.int k n:=by cases d <;> rfl
@[go_sem] theorem back_bool (b):back bs b0 d (.bool b)=.bool b:=by cases d <;> rfl
@[go_sem] theorem back_str (b):back bs b0 d (.str b)=.str b:=by cases d <;> rfl
@[go_sem] theorem back_sl (k L):back bs b0 d (.sl k L)=.sl k L:=by cases d <;> rfl
@[go_sem] theorem back_nils:back bs b0 d .nils=.nils:=by cases d <;> rfl
@[go_sem] theorem back_nilp:back bs b0 d .nilp=.nilp:=by cases d <;> rfl
@[go_sem] theorem back_nili:back bs b0 d .nili=.nili:=by cases d <;> rfl
@[go_sem] theorem back_u:back bs b0 d .u=.u:=by cases d <;> rfl
end
@[go_sem] theorem runH_at (b0 H S l bs):runH b0 H S l bs=callH b0 bs (S (l.map (told H bs 5)) (bs.map fun b=>renB (told H bs 5) ((H b).getD .dead))):=rfl
section
variable (b0:Bid) (bs:List Bid) (up nw:List Box)
def endH (v:AV):Option R:=some ⟨back bs b0 5 v,labB b0 0 (nw.map (renB (back bs b0 5))),bs.zip (up.map (renB (back bs b0 5))),bs,none⟩
@[go_sem] theorem endH_at (v):endH b0 bs up nw v=some ⟨back bs b0 5 v,labB b0 0 (nw.map (renB (back bs b0 5))),bs.zip (up.map (renB (back bs b0 5))),bs,none⟩:=rfl
@[go_sem] theorem callH_pnc (p):callH b0 bs (some ⟨.pnc p,up,nw⟩)=some ⟨.u,labB b0 0 (nw.map (renB (back bs b0 5))),bs.zip (up.map (renB (back bs b0 5))),bs,some (back bs b0 5 p)⟩:=rfl
@[go_sem] theorem callH_int (k n):callH b0 bs (some ⟨.int k n,up,nw⟩)=endH b0 bs up nw (.int k n):=rfl
@[go_sem] theorem callH_bool (n):callH b0 bs (some ⟨.bool n,up,nw⟩)=endH b0 bs up nw (.bool n):=rfl
@[go_sem] theorem callH_str (n):callH b0 bs (some ⟨.str n,up,nw⟩)=endH b0 bs up nw (.str n):=rfl
@[go_sem] theorem callH_agg (n):callH b0 bs (some ⟨.agg n,up,nw⟩)=endH b0 bs up nw (.agg n):=rfl
@[go_sem] theorem callH_tup (n):callH b0 bs (some ⟨.tup n,up,nw⟩)=endH b0 bs up nw (.tup n):=rfl
@[go_sem] theorem callH_sl (k n):callH b0 bs (some ⟨.sl k n,up,nw⟩)=endH b0 bs up nw (.sl k n):=rfl
@[go_sem] theorem callH_own (b n):callH b0 bs (some ⟨.own b n,up,nw⟩)=endH b0 bs up nw (.own b n):=rfl
@[go_sem] theorem callH_ref (b n):callH b0 bs (some ⟨.ref b n,up,nw⟩)=endH b0 bs up nw (.ref b n):=rfl
@[go_sem] theorem callH_fn (f l):callH b0 bs (some ⟨.fn f l,up,nw⟩)=endH b0 bs up nw (.fn f l):=rfl
@[go_sem] theorem callH_ifc (f l):callH b0 bs (some ⟨.ifc f l,up,nw⟩)=endH b0 bs up nw (.ifc f l):=rfl
@[go_sem] theorem callH_nils:callH b0 bs (some ⟨.nils,up,nw⟩)=endH b0 bs up nw .nils:=rfl
@[go_sem] theorem callH_nilp:callH b0 bs (some ⟨.nilp,up,nw⟩)=endH b0 bs up nw .nilp:=rfl
@[go_sem] theorem callH_nili:callH b0 bs (some ⟨.nili,up,nw⟩)=endH b0 bs up nw .nili:=rfl
end
@[go_sem] theorem callR_some (b H args r):callR b H args (some r)=if lightR r=true then some (took b [] r) else if args.all plainA=true then some (took b (frzs H (rowsIn args)) r) else none:=rfl
@[go_sem] theorem vMax_int (k a k' b):vMax (.int k a) (.int k' b)=val (.int k (mx a b)):=rfl
@[go_sem] theorem vMax4_int (k a k' b k'' c k''' d):vMax4 (.int k a) (.int k' b) (.int k'' c) (.int k''' d)=val (.int k (mx (mx (mx a b) c) d)):=rfl
@[go_sem] theorem vMin_int (k a k' b):vMin (.int k a) (.int k' b)=val (.int k (mn a b)):=rfl
@[go_sem] theorem lookup_if (g h:FuncId) (S:Con) (l:Env):List.lookup g ((h,S) :: l)=if g=h then some S else l.lookup g:=by
 by_cases e:g=h
 · simp [List.lookup,e]
 ·
  have:(g == h)=false:=by simpa using e
  simp [List.lookup,e,this]
section
variable (b:Bid) (up:List (Bid × Box))
@[go_sem] theorem took_frs (e sz L):took b up (.frs e sz L)=⟨.own b L.length,[(b,.row e sz L false)],up,[],none⟩:=rfl
@[go_sem] theorem took_pnc (v):took b up (.pnc v)=⟨.u,[],up,[],some v⟩:=rfl
@[go_sem] theorem took_int (k n):took b up (.int k n)=⟨.int k n,[],up,[],none⟩:=rfl
@[go_sem] theorem took_bool (n):took b up (.bool n)=⟨.bool n,[],up,[],none⟩:=rfl
@[go_sem] theorem took_str (n):took b up (.str n)=⟨.str n,[],up,[],none⟩:=rfl
@[go_sem] theorem took_agg (n):took b up (.agg n)=⟨.agg n,[],up,[],none⟩:=rfl
@[go_sem] theorem took_tup (n):took b up (.tup n)=⟨.tup n,[],up,[],none⟩:=rfl
@[go_sem] theorem took_sl (k n):took b up (.sl k n)=⟨.sl k n,[],up,[],none⟩:=rfl
@[go_sem] theorem took_nils:took b up .nils=⟨.nils,[],up,[],none⟩:=rfl
@[go_sem] theorem took_nilp:took b up .nilp=⟨.nilp,[],up,[],none⟩:=rfl
end
section
@[go_sem] theorem light_int (k n):light (.int k n)=true:=rfl
@[go_sem] theorem light_bool (n):light (.bool n)=true:=rfl
@[go_sem] theorem light_str (n):light (.str n)=true:=rfl
@[go_sem] theorem light_nils:light .nils=true:=rfl
@[go_sem] theorem light_nilp:light .nilp=true:=rfl
@[go_sem] theorem light_sl (k L):light (.sl k L)=L.isEmpty:=by cases L <;> rfl
@[go_sem] theorem lightA_agg (cs):lightA (.agg cs)=cs.all light:=rfl
@[go_sem] theorem lightA_int (k n):lightA (.int k n)=true:=rfl
@[go_sem] theorem lightA_bool (n):lightA (.bool n)=true:=rfl
@[go_sem] theorem lightA_str (n):lightA (.str n)=true:=rfl
@[go_sem] theorem lightA_nils:lightA .nils=true:=rfl
@[go_sem] theorem lightA_nilp:lightA .nilp=true:=rfl
@[go_sem] theorem lightA_sl (k L):lightA (.sl k L)=L.isEmpty:=by cases L <;> rfl
@[go_sem] theorem lightR_agg (cs):lightR (.agg cs)=cs.all light:=rfl
@[go_sem] theorem lightR_tup (cs):lightR (.tup cs)=cs.all lightA:=rfl
@[go_sem] theorem lightR_int (k n):lightR (.int k n)=true:=rfl
@[go_sem] theorem lightR_bool (n):lightR (.bool n)=true:=rfl
@[go_sem] theorem lightR_str (n):lightR (.str n)=true:=rfl
@[go_sem] theorem lightR_nils:lightR .nils=true:=rfl
@[go_sem] theorem lightR_nilp:lightR .nilp=true:=rfl
@[go_sem] theorem lightR_sl (k L):lightR (.sl k L)=L.isEmpty:=by cases L <;> rfl
@[go_sem] theorem lightR_frs (e sz L):lightR (.frs e sz L)=L.all fun xs=>xs.all light:=rfl
@[go_sem] theorem lightR_pnc (t v):lightR (.pnc (.ifc t v))=lightA v:=rfl
@[go_sem] theorem plainA_int (k n):plainA (.int k n)=true:=rfl
@[go_sem] theorem plainA_bool (n):plainA (.bool n)=true:=rfl
@[go_sem] theorem plainA_str (n):plainA (.str n)=true:=rfl
@[go_sem] theorem plainA_sl (k n):plainA (.sl k n)=true:=rfl
@[go_sem] theorem plainA_own (k n):plainA (.own k n)=true:=rfl
@[go_sem] theorem plainA_nils:plainA .nils=true:=rfl
@[go_sem] theorem plainA_nilp:plainA .nilp=true:=rfl
@[go_sem] theorem plainA_agg (cs):plainA (.agg cs)=cs.all flatC:=by
 unfold plainA
 induction cs with
 | nil=>rfl
 | cons x l ih=>simp only [List.all_cons,ih]; cases x <;> rfl
@[go_sem] theorem plainA_fn (f):plainA (.fn f [])=true:=rfl
@[go_sem] theorem flatC_int (k n):flatC (.int k n)=true:=rfl
@[go_sem] theorem flatC_bool (n):flatC (.bool n)=true:=rfl
@[go_sem] theorem flatC_str (n):flatC (.str n)=true:=rfl
@[go_sem] theorem flatC_sl (k n):flatC (.sl k n)=true:=rfl
@[go_sem] theorem flatC_nils:flatC .nils=true:=rfl
@[go_sem] theorem flatC_nilp:flatC .nilp=true:=rfl
@[go_sem] theorem rowsIn_nil:rowsIn []=[]:=rfl
@[go_sem] theorem rowsIn_own' (b n l):rowsIn (.own b n :: l)=b :: rowsIn l:=rfl
@[go_sem] theorem rowsIn_int (k n l):rowsIn (.int k n :: l)=rowsIn l:=rfl
@[go_sem] theorem rowsIn_bool (n l):rowsIn (.bool n :: l)=rowsIn l:=rfl
@[go_sem] theorem rowsIn_str (n l):rowsIn (.str n :: l)=rowsIn l:=rfl
@[go_sem] theorem rowsIn_agg (n l):rowsIn (.agg n :: l)=rowsIn l:=rfl
@[go_sem] theorem rowsIn_sl (k n l):rowsIn (.sl k n :: l)=rowsIn l:=rfl
@[go_sem] theorem rowsIn_nils (l):rowsIn (.nils :: l)=rowsIn l:=rfl
@[go_sem] theorem rowsIn_fn (f c l):rowsIn (.fn f c :: l)=rowsIn l:=rfl
@[go_sem] theorem frzs_nil (H):frzs H []=[]:=rfl
def frzC (b:Bid) (l:List (Bid × Box)):Option Box->List (Bid × Box)
 | some (.row e sz L false)=>(b,.row e sz L true) :: l
 | _=>l
@[go_sem] theorem frzs_cons (H b l):frzs H (b :: l)=frzC b (frzs H l) (H b):=by
 cases h:H b with
 | none=>simp [frzs,frzC,h]
 | some x=>
  cases x with
  | obj l=>simp [frzs,frzC,h]
  | dead=>simp [frzs,frzC,h]
  | row e sz L z=>cases z <;> simp [frzs,frzC,h]
@[go_sem] theorem frzC_row (b l e sz L):frzC b l (some (.row e sz L false))=(b,.row e sz L true) :: l:=rfl
@[go_sem] theorem frzC_frz (b l e sz L):frzC b l (some (.row e sz L true))=l:=rfl
end
attribute [go_sem] ld chunk List.replicate argsF
@[go_sem low] theorem over_at (cs:List AV) (o:Nat) (d:List AV):over cs o d=cs.take o++d++cs.drop (o + d.length):=rfl
@[go_sem] theorem thenX_normal (K Q s):thenX K Q .normal s=K s:=rfl
@[go_sem] theorem thenX_exit (K Q i s):thenX K Q (.exit i) s=Q (.exit i) s:=rfl
@[go_sem] theorem thenX_ret (K Q s):thenX K Q .ret s=Q .ret s:=rfl
@[go_sem] theorem thenX_pan (K Q v s):thenX K Q (.pan v) s=Q (.pan v) s:=rfl
@[go_sem] theorem blockX_normal (i Q s):blockX i Q .normal s=Q .normal s:=rfl
@[go_sem] theorem blockX_exit (i j Q s):blockX i Q (.exit j) s=if j=i then Q .normal s else Q (.exit j) s:=rfl
@[go_sem] theorem blockX_ret (i Q s):blockX i Q .ret s=Q .ret s:=rfl
@[go_sem] theorem blockX_pan (i v Q s):blockX i Q (.pan v) s=Q (.pan v) s:=rfl
def cellB (o:Nat):Option TI->Option Box->Option AV
 | some i,some (.obj cs)=>ld i cs o
 | _,_=>none
@[go_sem] theorem cellB_obj (o i cs):cellB o (some i) (some (.obj cs))=ld i cs o:=rfl
def cellV (T:TypeId->Option TI) (s:St) (t:TypeId):AV->Option AV
 | .ref b o=>cellB o (T t) (s.H b)
 | _=>none
theorem resV_cell (T s a t):resV T s (.cell a t)=cellV T s t (s.t a):=by
 simp only [resV,cellV]
 cases T t with
 | none=>cases s.t a <;> simp [cellB]
 | some i=>
  cases s.t a with
  | ref b o=>
   dsimp only
   cases s.H b with
   | none=>rfl
   | some x=>cases x <;> rfl
  | _=>rfl
section
variable (H:Heap)
@[go_sem] theorem res_int (k n v):res H (.int k n) v=(v=.int k n):=by cases v <;> simp [res]
@[go_sem] theorem res_bool (n v):res H (.bool n) v=(v=.bool n):=by cases v <;> simp [res]
@[go_sem] theorem res_str (n v):res H (.str n) v=(v=.str n):=by cases v <;> simp [res]
@[go_sem] theorem res_agg (l m):res H (.agg l) (.agg m)=res.resC H l m:=by simp [res]
@[go_sem] theorem res_sl_own (k L b n):res H (.sl k L) (.own b n)=(rowOf n (H b)=some (k,L)):=by simp [res]
@[go_sem] theorem res_sl_nils (k L):res H (.sl k L) .nils=(L=[]):=by simp [res]
@[go_sem] theorem res_sl_sl (k L k' M):res H (.sl k L) (.sl k' M)=(k'=k/\M=L):=by simp [res]
@[go_sem] theorem resC_nil:res.resC H [] []=True:=by simp [res.resC]
@[go_sem] theorem resC_cons (a l b m):res.resC H (a :: l) (b :: m)=(res H a b/\res.resC H l m):=by simp [res.resC]
end
section
variable (H0 H:Heap) (ρ:Ren)
@[go_sem] theorem le_u (v):le H0 H ρ .u v=True:=by simp [le]
@[go_sem] theorem le_int (k n v):le H0 H ρ (.int k n) v=(v=.int k n):=by cases v <;> simp [le]
@[go_sem] theorem le_bool (n v):le H0 H ρ (.bool n) v=(v=.bool n):=by cases v <;> simp [le]
@[go_sem] theorem le_str (n v):le H0 H ρ (.str n) v=(v=.str n):=by cases v <;> simp [le]
@[go_sem] theorem le_own (b n b' m):le H0 H ρ (.own b n) (.own b' m)=(ρ.lookup b=some (some b')/\n=m/\isRow (H b)=true):=by simp [le]
@[go_sem] theorem le_own_nils (b n):le H0 H ρ (.own b n) .nils=(ρ.lookup b=some none/\n=0/\isRow (H b)=true):=by simp [le]
@[go_sem] theorem le_sl_own (k L b n):le H0 H ρ (.sl k L) (.own b n)=(rowOf n (H0 b)=some (k,L)/\dropped ρ b):=by simp [le]
@[go_sem] theorem rowS_row (l n e sz L z):rowS l n (some (.row e sz L z))=some (sz,(L.drop l).take n):=rfl
@[go_sem] theorem le_pt (b k n b' l m):le H0 H ρ (.pt b k n) (.pt b' l m)=(ρ.lookup b=some (some b')/\k=l/\n=m/\isObj (H b)=true):=by simp [le]
@[go_sem] theorem le_ows (b l n b' l' m):le H0 H ρ (.ows b l n) (.ows b' l' m)=(ρ.lookup b=some (some b')/\l=l'/\n=m/\isRow (H b)=true):=by simp [le]
@[go_sem] theorem le_sl_ows (k L b l n):le H0 H ρ (.sl k L) (.ows b l n)=(rowS l n (H0 b)=some (k,L)/\dropped ρ b):=by simp [le]
@[go_sem] theorem le_mpv (g es c v):le H0 H ρ (.mpv g es c) v=(v=.mpv g es c):=by cases v <;> simp [le]
@[go_sem] theorem le_ref (b n b' m):le H0 H ρ (.ref b n) (.ref b' m)=(ρ.lookup b=some (some b')/\n=m/\isObj (H b)=true):=by simp [le]
@[go_sem] theorem le_agg (l m):le H0 H ρ (.agg l) (.agg m)=le.leC H0 H ρ l m:=by simp [le]
@[go_sem] theorem le_fn (f l g m):le H0 H ρ (.fn f l) (.fn g m)=(f=g/\le.leC H0 H ρ l m):=by simp [le]
@[go_sem] theorem le_ifc (t x t' y):le H0 H ρ (.ifc t x) (.ifc t' y)=(t=t'/\le H0 H ρ x y):=by simp [le]
@[go_sem] theorem le_iref (cs o ds p):le H0 H ρ (.iref cs o) (.iref ds p)=(AV.iref ds p=.iref cs o):=by simp [le]
@[go_sem] theorem le_iref_ref (cs o b p):le H0 H ρ (.iref cs o) (.ref b p)=(objCs (H0 b)=some cs/\o=p/\cs.map leafV=cs/\dropped ρ b):=by simp [le]
@[go_sem] theorem objCs_obj (cs):objCs (some (.obj cs))=some cs:=rfl
@[go_sem] theorem le_ub (v):le H0 H ρ .ub v=(v=.ub):=by cases v <;> simp [le]
@[go_sem] theorem le_sl (k L k' M):le H0 H ρ (.sl k L) (.sl k' M)=(k'=k/\M=L):=by simp [le]
@[go_sem] theorem le_sl_nils (k L):le H0 H ρ (.sl k L) .nils=(L=[]):=by simp [le]
@[go_sem] theorem le_nils:le H0 H ρ .nils .nils=True:=by simp [le]
@[go_sem] theorem le_nilp:le H0 H ρ .nilp .nilp=True:=by simp [le]
@[go_sem] theorem leC_nil:le.leC H0 H ρ [] []=True:=by simp [le.leC]
@[go_sem] theorem leC_cons (a l b m):le.leC H0 H ρ (a :: l) (b :: m)=(le H0 H ρ a b/\le.leC H0 H ρ l m):=by simp [le.leC]
@[go_sem] theorem leB_obj (l m):leB H0 H ρ (.obj l) (.obj m)=le.leC H0 H ρ l m:=rfl
@[go_sem] theorem leB_row (e sz L z e' sz' L' z'):leB H0 H ρ (.row e sz L z) (.row e' sz' L' z')=(e=e'/\sz=sz'/\leRows L L'/\(z=false->z'=false)):=rfl
@[go_sem] theorem leRows_self (L):leRows L L=True:=eq_true (leRows_refl L)
@[go_sem] theorem leRows_cons (x l y m):leRows (x :: l) (y :: m)=(leRow x y/\leRows l m):=rfl
@[go_sem] theorem leRow_nil:leRow [] []=True:=rfl
@[go_sem] theorem leRow_cons (x l y m):leRow (x :: l) (y :: m)=(le0 x y/\leRow l m):=rfl
@[go_sem] theorem leRow_self (L):leRow L L=True:=eq_true (leRow_refl L)
@[go_sem] theorem le0_int (k n v):le0 (.int k n) v=(v=.int k n):=rfl
@[go_sem] theorem le0_bool (n v):le0 (.bool n) v=(v=.bool n):=rfl
@[go_sem] theorem le0_str (n v):le0 (.str n) v=(v=.str n):=rfl
@[go_sem] theorem le0_nils (v):le0 .nils v=(v=.nils):=rfl
@[go_sem] theorem le0_sl (k L k' M):le0 (.sl k L) (.sl k' M)=(k'=k/\M=L):=by simp [le0]
@[go_sem] theorem le0_sl_nils (k L):le0 (.sl k L) .nils=(L=[]):=by simp [le0]
@[go_sem] theorem leB_dead_row (e' sz' L' z'):leB H0 H ρ .dead (.row e' sz' L' z')=True:=rfl
@[go_sem] theorem leB_dead:leB H0 H ρ .dead .dead=True:=rfl
@[go_sem] theorem boxesOK_nil (H'):boxesOK H ρ H' []=True:=rfl
@[go_sem] theorem boxesOK_cons (H' b x l):boxesOK H ρ H' ((b,x) :: l)=(boxOK H ρ H' b x/\boxesOK H ρ H' l):=rfl
@[go_sem] theorem tmpsOK_nil (t):tmpsOK H0 H ρ t []=True:=rfl
@[go_sem] theorem tmpsOK_cons (t i v l):tmpsOK H0 H ρ t ((i,v) :: l)=(le H0 H ρ v (t i)/\tmpsOK H0 H ρ t l):=rfl
@[go_sem] theorem dropped_nil (b):dropped [] b=True:=by simp [dropped]
@[go_sem] theorem dropped_cons (p l b):dropped (p :: l) b=(p.2 ≠ some b/\dropped l b):=by simp [dropped]
def boxO (H':Heap) (ρ:Ren) (H:Heap) (x:Box):Option Box->Prop
 | some y=>leB H H' ρ x y
 | none=>False
@[go_sem] theorem boxO_some (x y H'):boxO H' ρ H x (some y)=leB H H' ρ x y:=rfl
def boxR (H':Heap) (ρ:Ren) (H:Heap) (x:Box):Option (Option Bid)->Prop
 | some (some b)=>boxO H' ρ H x (H b)
 | some none=>match x with
  | .row _ sz L _=>0 < sz/\L=[]
  | _=>False
 | none=>x=.dead
@[go_sem] theorem boxOK_eq (H' b x):boxOK H ρ H' b x=boxR H ρ H' x (ρ.lookup b):=by
 unfold boxOK boxR boxO
 cases ρ.lookup b with
 | none=>rfl
 | some o=>cases o <;> rfl
@[go_sem] theorem boxR_some (H' x b):boxR H ρ H' x (some (some b))=boxO H ρ H' x (H' b):=rfl
@[go_sem] theorem boxR_dead (H'):boxR H ρ H' .dead none=True:=by simp [boxR]
@[go_sem] theorem boxR_none (H' e sz L z):boxR H ρ H' (.row e sz L z) (some none)=(0 < sz/\L=[]):=rfl
end
@[go_sem] theorem lookupR (b c:Bid) (o:Option Bid) (l:Ren):List.lookup b ((c,o) :: l)=if b=c then some o else l.lookup b:=by
 by_cases e:b=c
 · simp [List.lookup,e]
 ·
  have:(b == c)=false:=by simpa using e
  simp [List.lookup,e,this]
@[go_sem] theorem isObj_obj (cs):isObj (some (.obj cs))=true:=rfl
@[go_sem] theorem renOK_nil:renOK []=True:=rfl
@[go_sem] theorem renOK_none (b l):renOK ((b,none) :: l)=(b.1 ≠ 1/\renOK l):=rfl
@[go_sem] theorem renOK_some (b c l):renOK ((b,some c) :: l)=((∀ p ∈ l,p.2 ≠ some c)/\(b.1=1->c=b)/\renOK l):=rfl
section
variable {Γ:Ctx} {env:Env} {Q:X->St->Prop} {s:St}
theorem aT_ {c:Operand} {x y:Code} (hc:eva s.t c=.bool true) (h1:awp Γ env x Q s):awp Γ env (.cond c x y) Q s:=aC_ hc (fun _=>h1) fun h=>by cases h
theorem aF_ {c:Operand} {x y:Code} (hc:eva s.t c=.bool false) (h1:awp Γ env y Q s):awp Γ env (.cond c x y) Q s:=aC_ hc (fun h=>by cases h) fun _=>h1
theorem awp_condNil {c:Operand} {x y:Code} {L:List (List AV)} (hc:eva s.t c=nilB false L) (h1:L=[]->awp Γ env x Q s) (h2:awp Γ env y Q s):awp Γ env (.cond c x y) Q s:=by
 intro henv hok μ a w hR
 have hok':=hok
 simp only [codeOK,Bool.and_eq_true] at hok
 have hv:=eva_rep hR c
 rw [hc] at hv
 have:∃ b,a.eval c=.bool b/\(b=true->L=[]):=by
  generalize a.eval c=v at hv
  cases L with
  | nil=>cases hv with | ub _ b=>exact ⟨b,rfl,fun _=>rfl⟩
  | cons z L=>cases hv with | bool=>exact ⟨false,rfl,fun h=>by cases h⟩
 obtain ⟨b,hb,hbL⟩:=this
 exact wp_cond_split hb (fun ht=>h1 (hbL ht) henv hok.1 μ a w hR) (fun _=>h2 henv hok.2 μ a w hR)
end
theorem wrap_ok {n:Int} (h0:-9223372036854775808<=n) (h1:n < 9223372036854775808):IntKind.i64.wrap n=n:=by
 rw [IntKind.wrap_i64]
 omega
@[go_sem] theorem cellV_ref (T s t b o):cellV T s t (.ref b o)=cellB o (T t) (s.H b):=rfl
@[go_sem] theorem finW_normal (T rs hr ρ s):finW T rs hr ρ .normal s=(renOK ρ/\boxesOK (hOf (outL hr)) ρ s.H (outL hr)/\resH T s (hOf (outL hr)) ρ hr.v rs/\(∀ p,hr.v ≠ .pnc p)):=rfl
@[go_sem] theorem finW_ret (T rs hr ρ s):finW T rs hr ρ .ret s=(renOK ρ/\boxesOK (hOf (outL hr)) ρ s.H (outL hr)/\resH T s (hOf (outL hr)) ρ hr.v rs/\(∀ p,hr.v ≠ .pnc p)):=rfl
@[go_sem] theorem finW_pan (T rs hr ρ v s):finW T rs hr ρ (.pan v) s=(renOK ρ/\boxesOK (hOf (outL hr)) ρ s.H (outL hr)/\∃ p,hr.v=.pnc p/\le s.H (hOf (outL hr)) ρ p v):=rfl
theorem fQ_ {T rs hr x s} (ρ:Ren) (h:finW T rs hr ρ x s):fW_ T rs hr x s:=⟨ρ,h⟩
section
variable (T:TypeId->Option TI) (s:St) (H:Heap) (ρ:Ren)
@[go_sem] theorem resH_nil (rs):resH T s H ρ (.tup rs) []=le.leC s.H H ρ rs []:=rfl
@[go_sem] theorem resH_tmp (r t):resH T s H ρ r [.tmp t]=le s.H H ρ r (s.t t):=rfl
@[go_sem] theorem resH_tmp2 (rs t t'):resH T s H ρ (.tup rs) [.tmp t,.tmp t']=le.leC s.H H ρ rs [s.t t,s.t t']:=rfl
@[go_sem] theorem resH_tmp3 (rs t t' t''):resH T s H ρ (.tup rs) [.tmp t,.tmp t',.tmp t'']=le.leC s.H H ρ rs [s.t t,s.t t',s.t t'']:=rfl
def optLe (H0 H:Heap) (ρ:Ren) (r:AV):Option AV->Prop
 | some v=>le H0 H ρ r v
 | none=>False
@[go_sem] theorem optLe_some (H0 r v):optLe H0 H ρ r (some v)=le H0 H ρ r v:=rfl
@[go_sem] theorem resH_cell (r a t):resH T s H ρ r [.cell a t]=optLe s.H H ρ r (cellV T s t (s.t a)):=by
 rw [<-resV_cell]
 simp only [resH,optLe]
 try (cases resV T s (.cell a t) <;> rfl)
end
@[go_sem] theorem hB_at (bx):hB bx=hOf (lab 1 0 bx):=rfl
section
variable {Γ:Ctx} {env:Env} {Q:X->St->Prop} {s:St} {l:Nat} {J:St->Prop}
end
def opsW (Γ:Ctx) (env:Env) (ops:Array Oper) (l:List Oper) (s:St) (Q:X->St->Prop):Prop:=
 EnvOK Γ.P env->(∀ o ∈ l,opOK Γ.P Γ.n o=true)->∀ μ a w,Rel Γ s μ a w->wpList Γ.P ops (liftX Γ Q) l a w
section
variable {Γ:Ctx} {env:Env} {Q:X->St->Prop} {s:St}
theorem awp_regionW {id:Nat} {l:List Oper} (h:opsW Γ env l.toArray l s Q):awp Γ env (.region id l.toArray false) Q s:=by
 intro henv hok μ a w hR
 simp only [codeOK,Bool.and_eq_true] at hok
 exact wp_region_list (h henv (fun o ho=>List.all_eq_true.1 hok.1 o (by simpa using ho)) μ a w hR)
theorem opsW_nil {ops:Array Oper} (h:Q .normal s):opsW Γ env ops [] s Q:=fun _ _ μ a w hR=>⟨s,μ,hR,h⟩
theorem opsW_cons {ops:Array Oper} {o:Oper} {l:List Oper} (h:∀ K':St->List Bid->List Bid->Prop,(∀ s c f,opsW Γ env ops l s Q->K' s c f)->stepK K' Q (aStep (TI.of Γ.P) env ops o s)):opsW Γ env ops (o :: l) s Q:=by
 intro henv hok μ a w hR
 have hk:=h (fun s _ _=>opsW Γ env ops l s Q) (fun _ _ _ h=>h)
 refine wpList_step fun K hK=>?_
 cases hs:aStep (TI.of Γ.P) env ops o s with
 | none=>rw [hs] at hk; exact hk.elim
 | some out=>
  rw [hs] at hk
  refine sim_step hR (hok o (by simp)) henv hs ⟨fun hp μ' a' w' hR'=>hK _ _ ?_,fun v hp x μ' a' w' hR' hx=>?_⟩
  ·
   obtain ⟨s',c,f,pan⟩:=out
   simp only at hp
   subst hp
   exact hk henv (fun o ho=>hok o (by simp [ho])) μ' a' w' hR'
  ·
   obtain ⟨s',c,f,pan⟩:=out
   simp only at hp
   subst hp
   exact ⟨s',μ',v,x,rfl,hR',hx,hk⟩
theorem opsW_weak {ops:Array Oper} {l:List Oper} {s':St} (hw:Weak Γ s' s) (h:opsW Γ env ops l s' Q):opsW Γ env ops l s Q:=by
 intro henv hok μ a w hR
 obtain ⟨μ',hR'⟩:=hw μ a w hR
 exact h henv hok μ' a w hR'
theorem opsW_frz {ops:Array Oper} {l:List Oper} {e:TypeId} {sz:Nat} {L:List (List AV)} {z:Bool} (b:Bid) (hb:s.H b=some (.row e sz L z)) (h:opsW Γ env ops l ⟨s.t,hput s.H b (.row e sz L true)⟩ Q):opsW Γ env ops l s Q:=opsW_weak (weak_frz b hb) h
theorem opsW_sim {ops:Array Oper} {o:Oper} {l:List Oper} {r:R} (hg:o.guard=none) (hr:∀ μ a w,opOK Γ.P Γ.n o=true->Rel Γ s μ a w->SimR Γ s μ a w o r) {H1:Heap} (hn:hnews s.H r.nw=some H1) (hp:r.pan=none)
  (h:opsW Γ env ops l ⟨tput s.t o.dst r.v,hputs H1 r.up⟩ Q):opsW Γ env ops (o :: l) s Q:=by
 intro henv hok μ a w hR
 refine wpList_step fun K hK=>?_
 rw [if_pos (by simp [Region.wanted,hg])]
 exact hr μ a w (hok o (by simp)) hR H1 hn K _ (fun _ μ' a' w' hR'=>hK _ _ (h henv (fun o ho=>hok o (by simp [ho])) μ' a' w' hR')) (fun v hv=>by rw [hp] at hv; cases hv)
end
open Go Go.Proofs Go.RowKit
set_option maxRecDepth 100000
def AI (l:List Int):List AV:=l.map (.int .i64)
@[go_sem] theorem AI_len (l:List Int):(AI l).length=l.length:=by simp [AI]
@[go_sem] theorem AI_get (l:List Int) (i:Nat):(AI l)[i]?=(l[i]?).map (.int .i64):=by simp [AI]
@[go_sem] theorem AI_light (l:List Int):(AI l).all light=true:=by simp [AI,light]
@[go_sem] theorem AI_flat (l:List Int):(AI l).all flatC=true:=by simp [AI,flatC]
@[go_sem] theorem AI_take (l:List Int) (n:Nat):(AI l).take n=AI (l.take n):=by simp [AI,List.map_take]
@[go_sem] theorem AI_drop (l:List Int) (n:Nat):(AI l).drop n=AI (l.drop n):=by simp [AI,List.map_drop]
@[go_sem] theorem AI_nil:AI []=[]:=rfl
@[go_sem] theorem AI_getE (l:List Int) (i:Nat) (h:i < (AI l).length):(AI l)[i]=.int .i64 (nth l i):=by
 have h':i < l.length:=by simpa [AI] using h
 simp [AI,nth_eq h']
theorem AI_inj {l m:List Int} (h:AI l=AI m):l=m:=by
 induction l generalizing m with
 | nil=>cases m with | nil=>rfl | cons=>simp [AI] at h
 | cons a l ih=>cases m with
  | nil=>simp [AI] at h
  | cons b m=>simp only [AI,List.map_cons,List.cons.injEq,AV.int.injEq,true_and] at h; rw [h.1,ih h.2]
@[go_sem] theorem leC_AI (H0 Hp:Heap) (ρ:Ren) (l m:List Int):le.leC H0 Hp ρ (AI l) (AI m)=(m=l):=by
 induction l generalizing m with
 | nil=>cases m <;> simp [AI,le.leC]
 | cons a l ih=>cases m with
  | nil=>simp [AI,le.leC]
  | cons b m=>
   have:=ih m
   simp only [AI] at this
   simp [AI,le.leC,le,this]
@[go_sem] theorem resC_AI (Hp:Heap) (l m:List Int):res.resC Hp (AI l) (AI m)=(m=l):=by
 induction l generalizing m with
 | nil=>cases m <;> simp [AI,res.resC]
 | cons a l ih=>cases m with
  | nil=>simp [AI,res.resC]
  | cons b m=>
   have:=ih m
   simp only [AI] at this
   simp [AI,res.resC,res,this]
@[go_sem] theorem view_AI (Hp:Heap) (n:Nat) (l:List Int):(AI l).map (view Hp n)=AI l:=by
 simp only [AI,List.map_map]
 congr 1
 funext a
 cases n <;> rfl
def toI:List AV->Option (List Int)
 | []=>some []
 | .int .i64 a :: l=>(toI l).map (a :: ·)
 | _=>none
@[go_sem] theorem toI_AI (l:List Int):toI (AI l)=some l:=by
 induction l with
 | nil=>rfl
 | cons a l ih=>show (toI (AI l)).map (a :: ·)=_; rw [ih]; rfl
def RI (L:List (List Int)):List (List AV):=L.map AI
@[go_sem] theorem RI_len (L:List (List Int)):(RI L).length=L.length:=by simp [RI]
@[go_sem] theorem RI_get (L:List (List Int)) (i:Nat):(RI L)[i]?=(L[i]?).map AI:=by simp [RI]
@[go_sem] theorem RI_take (L:List (List Int)) (n:Nat):(RI L).take n=RI (L.take n):=by simp [RI,List.map_take]
@[go_sem] theorem RI_drop (L:List (List Int)) (n:Nat):(RI L).drop n=RI (L.drop n):=by simp [RI,List.map_drop]
def two (m n:Nat) (f:List Int->List Int->AV):Spec
 | [.agg a,.agg b]=>(toI a).bind fun a=>(toI b).bind fun b=>if a.length=m/\b.length=n then some (f a b) else none
 | _=>none
theorem over_AI {l:List Int} {i:Nat} (h:i < l.length) (x:Int):AI (l.take i)++.int .i64 x :: AI (l.drop (i + 1))=AI (l.set i x):=by
 rw [List.set_eq_take_append_cons_drop,if_pos h]
 simp [AI]
@[go_sem] theorem kd_AI (l:List Int):(AI l).map kd=List.replicate l.length (some (.int .i64)):=by
 induction l with
 | nil=>rfl
 | cons a l ih=>show some _ :: List.map kd (AI l)=_; rw [ih]; rfl
theorem eqvs_AI:∀ (l m:List Int),l.length=m.length->eqvs (AI l) (AI m)=some (l == m)
 | [],[],_=>rfl
 | a :: l,b :: m,h=>by
  show both (eqv _ _) (eqvs (AI l) (AI m))=_
  rw [eqvs_AI l m (by simpa using h),eqv_int]
  rfl
 | [],_ :: _,h=>by simp at h
 | _ :: _,[],h=>by simp at h
theorem slk_rep {k:Nat} {w:World} {a:Option Addr} {L:List (List Int)} {cap:Nat} (h:SlK w.heap.size k w a L) (h1:L.length<=cap) (h2:cap<=maxLen):Rep w (fun _=>False) noLay noH (.sl k (RI L)) (.slice a L.length cap):=by
 have:(RI L).length=L.length:=RI_len L
 rw [<-this]
 refine .sl _ _ _ _ _ (fun i j=>.int .i64 (nth (el L i) j)) (by omega) h2 (fun x hx=>?_) (fun i j hi hj=>?_) fun i j cs x hi hj=>?_
 ·
  simp only [RI,List.mem_map] at hx
  obtain ⟨l,hl,rfl⟩:=hx
  rw [AI_len]
  exact (h.1 l hl).1
 ·
  obtain ⟨b,off,q1,q2,q3⟩:=h.cell (i:=i) (by omega)
  exact ⟨b,off,q1,fun hf=>hf,by rw [<-Nat.add_assoc]; exact q3 j hj,rfl⟩
 ·
  simp only [RI_get,Option.map_eq_some_iff] at hi
  obtain ⟨l,hl,rfl⟩:=hi
  obtain ⟨hi,rfl⟩:=List.getElem?_eq_some_iff.1 hl
  simp only [AI_get,Option.map_eq_some_iff] at hj
  obtain ⟨z,hz,rfl⟩:=hj
  obtain ⟨hj,rfl⟩:=List.getElem?_eq_some_iff.1 hz
  rw [el_eq hi,nth_eq hj]
  exact .int _ _ _
end Go.Proofs.YtjoaigccapegpaaGreat.AE
