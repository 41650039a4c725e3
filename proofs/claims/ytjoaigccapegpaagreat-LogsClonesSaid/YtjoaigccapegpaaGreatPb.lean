/-
 A plain machine for the code of functions, and its soundness: part AE10. Conditions: none; every lemma names its own.
-/
import Derived.Test.YtjoaigccapegpaaGreatPa
import Derived.Great.BuildSlice
import Derived.Laws.AppendOwn
import Derived.Lib.AppendZeros
set_option linter.constructorNameAsVariable false
namespace Go.Proofs.YtjoaigccapegpaaGreat.AE
open Go Go.RowKit
set_option linter.unusedVariables false
section
variable {Γ:Ctx} {s:St} {μ:Lay} {a:Act} {w:World} {o:Oper}
theorem Rep.flat {M H H' μ'} {v:AV} {x:Value} (h:Rep w M μ H v x) (hf:flatC v=true):Rep w M μ' H' v x:=by
 cases h with
 | int=>exact .int _ _ _
 | bool=>exact .bool _ _
 | str=>exact .str _ _
 | nils=>exact .nils _
 | nilp=>exact .nilp _
 | nili=>exact .nili _
 | yl=>exact .yl _ _
 | sl _ k L a c f hc hm hk hv hr=>exact .sl _ _ _ _ _ f hc hm hk hv fun i j cs x hi hj=>(hr i j cs x hi hj).ofNo
 | _=>simp [flatC] at hf
theorem hle_put {H:Heap} {b:Bid} {x y:Box} (hx:H b=some x) (hxy:match x with | .obj _=>∃ cs,y=.obj cs | .row e sz L _=>(∃ L' z,y=.row e sz L' z/\L'.length=L.length)\/y=.dead | .dead=>y=.dead):HLe H (hput H b y):=by
 intro i
 by_cases e:i=b
 ·
  subst e
  rw [hx]
  cases x <;> simp only at hxy ⊢ <;> simp only [hput,if_true,Option.some.injEq] <;> exact hxy
 ·
  have:hput H b y i=H i:=by simp [hput,e]
  rw [this]; exact HLe.refl H i
theorem hput_swap (H:Heap) {b b':Bid} (x y:Box) (h:b ≠ b'):hput (hput H b x) b' y=hput (hput H b' y) b x:=by
 funext i
 simp only [hput]
 by_cases h1:i=b <;> by_cases h2:i=b' <;> simp_all
theorem sim_store (h:Rel Γ s μ a w) (hd:o.dst=none) {ad x:Operand} {t:TypeId} (ho:o.op=.store t ad x) {r:R} (hr:vStore s.H (TI.of Γ.P t) (eva s.t ad) (eva s.t x)=some r):SimR Γ s μ a w o r:=by
 have hx:=eva_rep h x
 have hax:=eva_rep h ad
 generalize eva s.t ad=X at hr hax
 cases hT:TI.of Γ.P t with
 | none=>rw [hT] at hr; simp [vStore] at hr
 | some i=>
  rw [hT] at hr
  obtain ⟨q,d,h1,h2,_,hsz,_⟩:=TI.of_some hT
  generalize hval:a.eval ad=y at hax
  have run:∀ (g p:Nat) (cur:Array Value) (e:TypeId) (cs:List AV),y=.pointer (some ⟨g,p,none⟩)->w.heap[g]?=some (.cells cur e (0,0))->cells (eva s.t x)=some cs->cs.length=i.size->p + i.size<=cur.size ->
    (execOp a.eval o).run Γ.P w=.ok .skip (w.setRow g (cur.toList.take p++(a.eval x).cells.toList++cur.toList.drop (p + cs.length)).toArray):=by
   intro g p cur e cs hy hg hc hl hp
   obtain ⟨c1,c2⟩:=cells_rep hx hc
   have hst:=run_storeCells_at Γ.P g p e (a.eval x).cells.toList 0 cur w hg (by simp [c1]; omega) (fun v hv=>by
    obtain ⟨k,hk,rfl⟩:=List.mem_iff_getElem.1 hv
    simp at hk
    obtain ⟨y,y1,y2,_⟩:=c2 k cs[k] (List.getElem?_eq_getElem (by omega))
    have:(a.eval x).cells[k]=y:=by rw [Array.getElem?_eq_getElem hk] at y1; exact Option.some.inj y1
    simp [this,y2])
   rw [Nat.add_zero,Array.length_toList,c1] at hst
   have hn:¬ ((a.eval x).cells.size ≠ q.size):=by rw [c1,hl,hsz]; simp
   subst hy
   simp only [execOp,ho,hval,Instr.storeAt,Instr.sureAddr,storeVar,Sem.run_bind,Sem.run_pure,Result.andThen_ok,run_sizeOf' h1,Sem.run_ite,hn,if_false,hst]
  have getd:∀ (cur:Array Value) (p:Nat) (cs:List AV) (k:Nat),cells (eva s.t x)=some cs->p + cs.length<=cur.size ->
    (cur.toList.take p++(a.eval x).cells.toList++cur.toList.drop (p + cs.length)).toArray[k]?=if p<=k/\k < p + cs.length then (a.eval x).cells[k - p]? else cur[k]?:=by
   intro cur p cs k hc hp
   obtain ⟨c1,_⟩:=cells_rep hx hc
   simp only [List.getElem?_toArray]
   by_cases h1:k < p
   · rw [if_neg (by omega),List.append_assoc,List.getElem?_append_left (by simp; omega),List.getElem?_take,if_pos h1]; simp
   ·
    by_cases h2:k < p + cs.length
    ·
     rw [if_pos (by omega),List.append_assoc,List.getElem?_append_right (by simp; omega),List.getElem?_append_left (by simp; omega)]
     simp only [List.length_take,Array.length_toList,Array.getElem?_toList]
     congr 1
     omega
    ·
     rw [if_neg (by omega),List.getElem?_append_right (by simp; omega),List.getElem?_drop]
     simp only [List.length_append,List.length_take,Array.length_toList,Array.getElem?_toList]
     congr 1
     omega
  cases hax with
  | ref _ b p cs g c hH hμ=>
   simp only [vStore,hH] at hr
   cases hc:cells (eva s.t x) with
   | none=>rw [hc] at hr; simp [storeB] at hr
   | some ds=>
    rw [hc] at hr
    simp only [storeB] at hr
    split at hr
    ·
     rename_i hl
     obtain ⟨hl,hp⟩:=hl
     cases hr
     obtain ⟨cur,e,q1,q2,q3⟩:=box_obj h hH hμ
     obtain ⟨c1,c2⟩:=cells_rep hx hc
     intro H1 hH1 K Q hK _
     simp only [hnews,Option.some.injEq] at hH1
     subst hH1
     refine wp_skipped (run g p cur e ds rfl q1 hc hl (by omega)) ?_
     have hput:a.put o.dst undef=a:=by rw [hd]; rfl
     rw [hput]
     refine hK rfl μ a _ ?_
     rw [hd]
     refine h.write hH rfl rfl hμ (hle_put hH ⟨_,rfl⟩) (setRow_heap w g cur _ e _ q1) rfl rfl rfl (by simp) (fun k hk=>setRow_other w g k _ (by omega)) ⟨?_,fun k uu hu=>?_⟩
     ·
      rw [over_len _ _ _ (by omega)]
      simp [c1]
      omega
     ·
      rw [over_get _ _ _ _ (by omega)] at hu
      rw [getd cur p ds k hc (by omega)]
      by_cases hin:p<=k/\k < p + ds.length
      ·
       rw [if_pos hin] at hu ⊢
       exact c2 _ _ hu
      ·
       rw [if_neg hin] at hu ⊢
       exact q3 k uu hu
    · cases hr
  | eref _ b j p e sz L z g c hH hμ hi=>
   simp only [vStore,hH] at hr
   cases hc:cells (eva s.t x) with
   | none=>rw [hc] at hr; simp [storeE] at hr
   | some ds=>
    cases z with
    | true=>rw [hc] at hr; simp [storeE] at hr
    | false=>
     rw [hc] at hr
     simp only [storeE] at hr
     cases hL:L[j]? with
     | none=>rw [hL] at hr; simp [storeR] at hr
     | some xs=>
      rw [hL] at hr
      simp only [storeR] at hr
      split at hr
      ·
       rename_i hl
       obtain ⟨hl,hp,hflat⟩:=hl
       cases hr
       obtain ⟨cur,q1,q2,q3,q4,q5,q6,q7⟩:=box_row h hH hμ
       obtain ⟨c1,c2⟩:=cells_rep hx hc
       have hxs:=q3 xs (List.mem_of_getElem? hL)
       have hjc:j * sz + sz<=cur.size:=by
        rw [q4]
        calc j * sz + sz=(j + 1) * sz:=(Nat.succ_mul _ _).symm
         _<=c * sz:=Nat.mul_le_mul_right _ (by omega)
       have hpc:j * sz + p + i.size<=cur.size:=by omega
       intro H1 hH1 K Q hK _
       simp only [hnews,Option.some.injEq] at hH1
       subst hH1
       refine wp_skipped (run g (j * sz + p) cur e ds rfl q1 hc hl hpc) ?_
       have hput:a.put o.dst undef=a:=by rw [hd]; rfl
       rw [hput]
       refine hK rfl μ a _ ?_
       rw [hd]
       have flat_no:∀ v uu,v ∈ ds->Rep w (forb Γ.Mx μ s.H) μ s.H v uu->Rep w (forb Γ.Mx μ s.H) μ noH v uu:=by
        intro v uu hv hr
        exact hr.flat (List.all_eq_true.1 hflat v hv)
       refine h.write hH rfl rfl hμ (hle_put hH (.inl ⟨_,false,rfl,by simp⟩)) (setRow_heap w g cur _ e _ q1) rfl rfl rfl (by simp) (fun k hk=>setRow_other w g k _ (by omega)) ⟨rfl,q2,?_,?_,by simpa using q5,q6,?_⟩
       ·
        intro ys hy
        rcases List.mem_or_eq_of_mem_set hy with hy | rfl
        · exact q3 ys hy
        · rw [over_len _ _ _ (by omega)]; exact hxs
       ·
        rw [<-q4]
        simp [c1]
        omega
       ·
        intro i' k ys uu hys hu
        rw [getd cur (j * sz + p) ds (i' * sz + k) hc (by omega)]
        rw [List.getElem?_set] at hys
        by_cases hij:j=i'
        ·
         subst hij
         rw [if_pos rfl,if_pos hi] at hys
         cases hys
         have hk:k < sz:=by
          have:=(List.getElem?_eq_some_iff.1 hu).1
          rw [over_len _ _ _ (by omega)] at this
          omega
         rw [over_get _ _ _ _ (by omega)] at hu
         by_cases hin:p<=k/\k < p + ds.length
         ·
          rw [if_pos hin] at hu
          rw [if_pos (by omega)]
          obtain ⟨v,v1,v2,v3⟩:=c2 _ _ hu
          refine ⟨v,?_,v2,flat_no _ _ (List.mem_of_getElem? hu) v3⟩
          rw [show j * sz + k - (j * sz + p)=k - p from by omega]
          exact v1
         ·
          rw [if_neg hin] at hu
          rw [if_neg (by omega)]
          exact q7 j k xs uu hL hu
        ·
         rw [if_neg hij] at hys
         have hk:k < sz:=by
          have:=(List.getElem?_eq_some_iff.1 hu).1
          rw [q3 ys (List.mem_of_getElem? hys)] at this
          exact this
         have hne:¬ (j * sz + p<=i' * sz + k/\i' * sz + k < j * sz + p + ds.length):=by
          rintro ⟨h1,h2⟩
          rcases Nat.lt_or_gt_of_ne hij with hlt | hgt
          ·
           have:(j + 1) * sz<=i' * sz:=Nat.mul_le_mul_right _ hlt
           rw [Nat.succ_mul] at this
           omega
          ·
           have:(i' + 1) * sz<=j * sz:=Nat.mul_le_mul_right _ hgt
           rw [Nat.succ_mul] at this
           omega
         rw [if_neg hne]
         exact q7 i' k ys uu hys hu
      · cases hr
  | erefd _ b j p v hH _=>
   simp only [vStore,hH] at hr
   cases hc:cells (eva s.t x) <;> rw [hc] at hr <;> simp [storeE] at hr
  | _=>simp only [vStore] at hr; cases hr
end
section
variable {Γ:Ctx} {s:St} {μ:Lay} {a:Act} {w:World} {o:Oper}
def FrzOf (H H0:Heap):Prop:=∀ b,H0 b=H b\/∃ e sz L,H b=some (.row e sz L false)/\H0 b=some (.row e sz L true)
theorem FrzOf.refl (H:Heap):FrzOf H H:=fun b=>.inl rfl
theorem frz_all {H:Heap}:∀ (bs:List Bid) (H0:Heap),FrzOf H H0->Rel Γ ⟨s.t,H0⟩ μ a w->Rel Γ ⟨s.t,hputs H0 (frzs H bs)⟩ μ a w/\FrzOf H (hputs H0 (frzs H bs)) /\
  (∀ b e sz L z,b ∈ bs->H b=some (.row e sz L z)->hputs H0 (frzs H bs) b=some (.row e sz L true))/\(∀ b e sz L,H0 b=some (.row e sz L true)->hputs H0 (frzs H bs) b=some (.row e sz L true)):=by
 intro bs
 induction bs with
 | nil=>intro H0 hf hR; exact ⟨hR,hf,fun b e sz L z hb=>by simp at hb,fun b e sz L h=>h⟩
 | cons b bs ih=>
  intro H0 hf hR
  by_cases hb:∃ e sz L,H b=some (.row e sz L false)
  ·
   obtain ⟨e,sz,L,hb⟩:=hb
   have hfz:frzs H (b :: bs)=(b,.row e sz L true) :: frzs H bs:=by simp [frzs,hb]
   rw [hfz]
   simp only [hputs]
   have h0:∃ z,H0 b=some (.row e sz L z):=by
    rcases hf b with h' | ⟨e',sz',L',h1,h2⟩
    · exact ⟨false,h'.trans hb⟩
    · rw [hb] at h1; cases h1; exact ⟨true,h2⟩
   obtain ⟨z,h0⟩:=h0
   have hR':=Rel.freeze (s:=⟨s.t,H0⟩) hR h0
   have hf':FrzOf H (hput H0 b (.row e sz L true)):=by
    intro i
    by_cases e1:i=b
    · subst e1; exact .inr ⟨e,sz,L,hb,by simp [hput]⟩
    ·
     have:hput H0 b (.row e sz L true) i=H0 i:=by simp [hput,e1]
     rw [this]; exact hf i
   obtain ⟨i1,i2,i3,i4⟩:=ih _ hf' hR'
   refine ⟨i1,i2,fun b' e' sz' L' z' hb' hh=>?_,fun b' e' sz' L' hh=>?_⟩
   ·
    rcases List.mem_cons.1 hb' with rfl | hb'
    ·
     rw [hb] at hh; cases hh
     exact i4 _ _ _ _ (by simp [hput])
    · exact i3 _ _ _ _ _ hb' hh
   ·
    by_cases e1:b'=b
    ·
     subst e1
     rw [h0] at hh; cases hh
     exact i4 _ _ _ _ (by simp [hput])
    · exact i4 _ _ _ _ (by simp [hput,e1,hh])
  ·
   have hfz:frzs H (b :: bs)=frzs H bs:=by
    simp only [frzs]
    split
    · rename_i e sz L h'; exact absurd ⟨e,sz,L,h'⟩ hb
    · rfl
   rw [hfz]
   obtain ⟨i1,i2,i3,i4⟩:=ih _ hf hR
   refine ⟨i1,i2,fun b' e' sz' L' z' hb' hh=>?_,i4⟩
   rcases List.mem_cons.1 hb' with rfl | hb'
   ·
    cases z' with
    | false=>exact absurd ⟨_,_,_,hh⟩ hb
    | true=>
     refine i4 _ _ _ _ ?_
     rcases hf b' with h' | ⟨_,_,_,h1,h2⟩
     · rw [h']; exact hh
     · rw [hh] at h1; cases h1
   · exact i3 _ _ _ _ _ hb' hh
theorem FrzOf.hle {H H0:Heap} (h:FrzOf H H0):HLe H H0:=by
 intro b
 rcases h b with h' | ⟨e,sz,L,h1,h2⟩
 ·
  have:=HLe.refl H b
  cases hb:H b with
  | none=>trivial
  | some x=>
   rw [hb] at this h'
   cases x <;> simp only at this ⊢ <;> rw [h']
   · exact ⟨_,rfl⟩
   · exact .inl ⟨_,_,rfl,rfl⟩
 · rw [h1]; exact .inl ⟨L,true,h2,rfl⟩
theorem FrzOf.forb {H H0:Heap} (h:FrzOf H H0) {Mx:Nat->Prop} {g:Nat} (hg:forb Mx μ H0 g):forb Mx μ H g:=by
 rcases hg with hg | ⟨b,x,c,h1,h2,h3⟩
 · exact .inl hg
 ·
  rcases h b with h' | ⟨e,sz,L,q1,q2⟩
  · exact .inr ⟨b,x,c,by rw [<-h']; exact h1,h2,h3⟩
  · rw [q2] at h1; cases h1; simp [Box.hot] at h2
theorem frozen_not (h:Rel Γ s μ a w) {b:Bid} {e:TypeId} {sz:Nat} {L:List (List AV)} (hb:s.H b=some (.row e sz L true)) {g c:Nat} (hg:μ b=some (g,c)):¬ forb Γ.Mx μ s.H g:=by
 rintro (hx | ⟨b',x',c',h1,h2,h3⟩)
 ·
  obtain ⟨h1,h2⟩:=h.hx g hx
  exact (h.hf b _ g c hb hg rfl).elim (fun h=>by omega) h2
 ·
  have:=h.hi b' b x' _ g c' c h1 hb h2 rfl h3 hg
  subst this
  rw [hb] at h1; cases h1; simp [Box.hot] at h2
theorem row_rep (h:Rel Γ s μ a w) {M:Nat->Prop} {b:Bid} {e:TypeId} {sz:Nat} {L:List (List AV)} {z:Bool} (hb:s.H b=some (.row e sz L z)) {n:Nat} (hn:n<=L.length) (hM:∀ g,¬ forb Γ.Mx μ s.H g->¬ M g) (hMb:∀ g c,μ b=some (g,c)->¬ M g) {μ' H'} :
  Rep w M μ' H' (.sl sz (L.take n)) (sliceV (μ b) n):=by
 rcases h.hb b _ hb with q | ⟨g,c,cur,e,q1,q2,q3⟩ | ⟨q1,e1,sz1,z1,q2,q3⟩
 · cases q
 ·
  obtain ⟨rfl,q3,q4,q5,q6,q7,q8⟩:=q3
  rw [q1]
  have hl:(L.take n).length=n:=by rw [List.length_take]; omega
  have:=@Rep.sl w M μ' H' sz (L.take n) (some ⟨g,0,none⟩) c (fun i j=>(cur[i * sz + j]?).getD undef) (by omega) q7 (fun x hx=>q4 x (List.mem_of_mem_take hx)) (fun i j hi hj=>by
   have hi':i < L.length:=by omega
   have hxl:(L[i]).length=sz:=q4 _ (List.getElem_mem hi')
   obtain ⟨v,v1,v2,v3⟩:=q8 i j L[i] (L[i][j]'(by omega)) (List.getElem?_eq_getElem hi') (List.getElem?_eq_getElem (by omega))
   refine ⟨g,0,rfl,hMb g c q1,?_,?_⟩
   · rw [Nat.zero_add,cell_heap q2,v1]; rfl
   · rw [v1]; exact v2) (fun i j cs x hi hj=>by
   rw [List.getElem?_take] at hi
   split at hi
   ·
    obtain ⟨v,v1,v2,v3⟩:=q8 i j cs x hi hj
    rw [v1]
    exact v3.mono (fun g _ hg=>⟨hM g hg,rfl⟩) (HLe.refl _) (fun b hb=>absurd rfl hb)
   · cases hi)
  rw [hl] at this
  exact this
 ·
  cases q2
  rw [q1]
  have hn0:n=0:=by simpa using hn
  subst hn0
  exact .sl _ _ _ none 0 (fun _ _=>undef) (Nat.le_refl _) (Nat.zero_le _) (by simp) (by simp) (by simp)
theorem ows_rep (h:Rel Γ s μ a w) {M:Nat->Prop} {b:Bid} {e:TypeId} {sz:Nat} {L:List (List AV)} {z:Bool} (hb:s.H b=some (.row e sz L z)) {l n cp:Nat} {ad:Option Addr} (hn:l + n<=L.length) (hc:n<=cp/\cp<=maxLen) (hv:0 < n->∃ g c,μ b=some (g,c)/\ad=some ⟨g,l * sz,none⟩)
  (hM:∀ g,¬ forb Γ.Mx μ s.H g->¬ M g) (hMb:∀ g c,μ b=some (g,c)->¬ M g) {μ' H'}:Rep w M μ' H' (.sl sz ((L.drop l).take n)) (.slice ad n cp):=by
 have hl:((L.drop l).take n).length=n:=by rw [List.length_take,List.length_drop]; omega
 rcases h.hb b _ hb with q | ⟨g,c,cur,e,q1,q2,q3⟩ | ⟨q1,e1,sz1,z1,q2,q3⟩
 · cases q
 ·
  obtain ⟨rfl,q3,q4,q5,q6,q7,q8⟩:=q3
  have:=@Rep.sl w M μ' H' sz ((L.drop l).take n) ad cp (fun i j=>(cur[(l + i) * sz + j]?).getD undef) (by omega) hc.2 (fun x hx=>q4 x (List.mem_of_mem_drop (List.mem_of_mem_take hx))) (fun i j hi hj=>by
   obtain ⟨g',c',h1,rfl⟩:=hv (by omega)
   rw [q1] at h1
   cases h1
   have hi':l + i < L.length:=by omega
   have hxl:(L[l + i]).length=sz:=q4 _ (List.getElem_mem hi')
   obtain ⟨v,v1,v2,v3⟩:=q8 (l + i) j L[l + i] (L[l + i][j]'(by omega)) (List.getElem?_eq_getElem hi') (List.getElem?_eq_getElem (by omega))
   refine ⟨g,l * sz,rfl,hMb g c q1,?_,?_⟩
   · rw [show l * sz + (i * sz + j)=(l + i) * sz + j by rw [Nat.add_mul,Nat.add_assoc],cell_heap q2,v1]; rfl
   · rw [v1]; exact v2) (fun i j cs x hi hj=>by
   rw [List.getElem?_take] at hi
   split at hi
   ·
    rw [List.getElem?_drop] at hi
    obtain ⟨v,v1,v2,v3⟩:=q8 (l + i) j cs x hi hj
    rw [v1]
    exact v3.mono (fun g _ hg=>⟨hM g hg,rfl⟩) (HLe.refl _) (fun b hb=>absurd rfl hb)
   · cases hi)
  rw [hl] at this
  exact this
 ·
  cases q2
  have hn0:n=0:=by simp at hn; omega
  subst hn0
  simp only [List.take_zero]
  exact @Rep.sl w M μ' H' sz [] ad cp (fun _ _=>undef) (Nat.zero_le _) hc.2 (by simp) (by simp) (by simp)
theorem leaf_rep {M M' H H' μ'} {v:AV} {x:Value} (h:Rep w M μ H v x) (hM:∀ g,¬ M g->¬ M' g):Rep w M' μ' H' (leafV v) x:=by
 cases h with
 | int=>exact .int _ _ _
 | bool=>exact .bool _ _
 | str=>exact .str _ _
 | nils=>exact .nils _
 | nilp=>exact .nilp _
 | nili=>exact .nili _
 | yl=>exact .u _ _
 | sl _ k L a c f hc hm hk hv hr=>
  exact .sl _ _ _ _ _ f hc hm hk (fun i j hi hj=>(hv i j hi hj).mono fun g _ hg=>⟨hM g hg,rfl⟩) fun i j cs x hi hj=>(hr i j cs x hi hj).mono (fun g _ hg=>⟨hM g hg,rfl⟩) (HLe.noH _) (fun b hb=>absurd rfl hb)
 | _=>exact .u _ _
theorem map_agg {M H} {cs:List AV} {vs:Array Value} {f:AV->AV} {M' μ' H'} (hx:Rep w M μ H (.agg cs) (.agg vs)) (hf:∀ c y,c ∈ cs->Rep w M μ H c y->Rep w M' μ' H' (f c) y):Rep w M' μ' H' (.agg (cs.map f)) (.agg vs):=by
 cases hx with
 | agg _ _ _ g hs hv hr=>
  refine .agg _ _ _ g (by simpa using hs) (fun i hi=>hv i (by simpa using hi)) fun i c hc=>?_
  rw [List.getElem?_map,Option.map_eq_some_iff] at hc
  obtain ⟨c',hc',rfl⟩:=hc
  exact hf c' (g i) (List.mem_of_getElem? hc') (hr i c' hc')
theorem view_rep (h:Rel Γ s μ a w):∀ (d:Nat) (v:AV) (x:Value),Rep w (forb Γ.Mx μ s.H) μ s.H v x->∀ (μ':Lay) (H':Heap),Rep w (fun _=>False) μ' H' (view s.H d v) x:=by
 intro d
 induction d with
 | zero=>intro v x hx μ' H'; exact leaf_rep hx (fun g hg hF=>hF)
 | succ d ih=>
  intro v x hx μ' H'
  cases v with
  | own b n=>
   simp only [view]
   cases hb:s.H b with
   | none=>exact .u _ _
   | some y=>
    cases y with
    | obj cs=>exact .u _ _
    | dead=>exact .u _ _
    | row e sz L z=>
     simp only [rowOf,slV]
     cases hx with
     | own _ _ _ e' sz' L' z' hH hn=>rw [hb] at hH; cases hH; exact row_rep h hb hn (fun g _ hF=>hF) (fun _ _ _ hF=>hF)
     | ownd _ _ _ _ hH _=>rw [hb] at hH; cases hH
  | ref b p=>
   simp only [view]
   cases hb:s.H b with
   | none=>exact .u _ _
   | some y=>
    cases y with
    | row e sz L z=>exact .u _ _
    | dead=>exact .u _ _
    | obj cs=>
     simp only [objV]
     cases hx with
     | ref _ _ _ cs' g c hH hμ=>
      obtain ⟨cur,e,q1,q2,q3⟩:=box_obj h hb hμ
      have:=@Rep.iref w (fun _=>False) μ' H' (cs.map (view s.H d)) p g 0 (fun j=>(cur[j]?).getD undef) (fun j hj=>by
       simp at hj
       obtain ⟨v,v1,v2,v3⟩:=q3 j cs[j] (List.getElem?_eq_getElem hj)
       exact ⟨g,0,rfl,fun hF=>hF,by rw [Nat.zero_add,cell_heap q1,v1]; rfl,by rw [v1]; exact v2⟩) (fun j x hj=>by
       rw [List.getElem?_map,Option.map_eq_some_iff] at hj
       obtain ⟨c',hc',rfl⟩:=hj
       obtain ⟨v,v1,v2,v3⟩:=q3 j c' hc'
       rw [v1]
       exact ih c' v v3 μ' noH)
      rw [Nat.zero_add] at this
      exact this
  | agg cs=>
   have hx':=hx
   cases hx with
   | agg _ _ vs g hs hv hr=>exact map_agg hx' fun c y _ hc=>ih c y hc μ' H'
  | fn f caps=>
   cases hx with
   | fn _ _ _ vs g hs hv hr=>
    refine .fn _ _ _ _ g (by simpa using hs) (fun i hi=>hv i (by simpa using hi)) fun i c hc=>?_
    rw [List.getElem?_map,Option.map_eq_some_iff] at hc
    obtain ⟨c',hc',rfl⟩:=hc
    exact ih c' (g i) (hr i c' hc') μ' H'
  | iref cs p=>
   cases hx with
   | iref _ _ _ g off f hv hr=>
    exact .iref _ _ _ _ _ f (fun j hj=>(hv j hj).mono fun g _ _=>⟨fun hF=>hF,rfl⟩) fun j x hj=>(hr j x hj).mono (fun g _ _=>⟨fun hF=>hF,rfl⟩) (HLe.noH _) (fun b hb=>absurd rfl hb)
  | _=>exact leaf_rep hx (fun g hg hF=>hF)
theorem plain_rep (h:Rel Γ s μ a w) {M:Nat->Prop} (hM:∀ g,¬ forb Γ.Mx μ s.H g->¬ M g) (d:Nat) {v:AV} {x:Value} (hx:Rep w (forb Γ.Mx μ s.H) μ s.H v x) (hp:plainA v=true)
  (hb:∀ b n e sz L z g c,v=.own b n->s.H b=some (.row e sz L z)->μ b=some (g,c)->¬ M g) (μ':Lay) (H':Heap):Rep w M μ' H' (view s.H (d + 1) v) x:=by
 cases v with
 | own b n=>
  simp only [view]
  cases hbb:s.H b with
  | none=>exact .u _ _
  | some y=>
   cases y with
   | obj cs=>exact .u _ _
   | dead=>exact .u _ _
   | row e sz L z=>
    simp only [rowOf,slV]
    cases hx with
    | own _ _ _ e' sz' L' z' hH hn=>rw [hbb] at hH; cases hH; exact row_rep h hbb hn hM (fun g c hg=>hb b n _ _ _ _ g c rfl hbb hg)
    | ownd _ _ _ _ hH _=>rw [hbb] at hH; cases hH
 | agg cs=>
  have hx':=hx
  cases hx with
  | agg _ _ vs g hs hv hr=>
   refine map_agg hx' fun c y hc hcy=>?_
   have hl:view s.H d c=leafV c:=by
    have:=List.all_eq_true.1 hp c hc
    cases c <;> simp at this <;> cases d <;> rfl
   rw [hl]
   exact leaf_rep hcy hM
 | fn f caps=>
  cases caps with
  | nil=>
   cases hx with
   | fn _ _ _ vs g hs hv hr=>exact .fn _ _ _ _ g hs hv fun i c hc=>by simp at hc
  | cons c cs=>simp [plainA] at hp
 | ref b p=>simp [plainA] at hp
 | eref b i p=>simp [plainA] at hp
 | iref cs p=>simp [plainA] at hp
 | tup vs=>simp [plainA] at hp
 | ifc t v=>simp [plainA] at hp
 | frs e sz L=>simp [plainA] at hp
 | pnc v=>simp [plainA] at hp
 | u=>simp [plainA] at hp
 | _=>exact leaf_rep hx hM
end
section
variable {Γ:Ctx} {s:St} {μ:Lay} {a:Act} {w:World} {o:Oper}
def genP (pl:Nat->Option (Nat × Nat × Bool)):List (Nat × AV)->Option (List AV)->Option (List AV)
 | [],r=>r
 | (j,v) :: r,cs=>genP pl r (pieceO v (pl j) cs)
theorem arrP_gen (sz:Nat):∀ (l:List (Nat × AV)) (r:Option (List AV)),arrP sz l r=genP (fun j=>some (j * sz,sz,false)) l r
 | [],r=>rfl
 | (j,v) :: l,r=>arrP_gen sz l _
theorem structP_gen (fs:List (Nat × Nat × Bool)):∀ (l:List (Nat × AV)) (r:Option (List AV)),structP fs l r=genP (fun j=>fs[j]?) l r
 | [],r=>rfl
 | (j,v) :: l,r=>structP_gen fs l _
theorem genP_none (pl:Nat->Option (Nat × Nat × Bool)):∀ (l:List (Nat × AV)),genP pl l none=none
 | []=>rfl
 | (j,v) :: l=>by simp only [genP]; cases pl j <;> exact genP_none pl l
theorem fill_rep {M H} (pl:Nat->Option (Nat × Nat × Bool)) (f:Operand->AV) (g:Operand->Value):∀ (l:List (Nat × Operand)) (hf:∀ p ∈ l,Rep w M μ H (f p.2) (g p.2)) (cs cs':List AV) (A:Array Value),ArrRep w M μ H A cs ->
  genP pl (l.map fun p=>(p.1,f p.2)) (some cs)=some cs'->∃ A',Instr.fill (fun j=>(pl j).map fun x=>(x.1,x.2.1)) A (l.map fun p=>(p.1,g p.2))=some A'/\ArrRep w M μ H A' cs'
 | [],hf,cs,cs',A,hA,h=>by cases h; exact ⟨A,rfl,hA⟩
 | (j,x) :: l,hf,cs,cs',A,hA,h=>by
  simp only [List.map_cons,genP] at h
  cases hp:pl j with
  | none=>rw [hp] at h; rw [show pieceO (f x) none (some cs)=none from rfl,genP_none] at h; cases h
  | some q=>
   rw [hp] at h
   simp only [pieceO] at h
   cases hq:piece q.1 q.2.1 cs (cells (f x)) with
   | none=>rw [hq,genP_none] at h; cases h
   | some cs1=>
    rw [hq] at h
    obtain ⟨e1,e2,e3⟩:=piece_rep hA (hf (j,x) (by simp)) hq
    obtain ⟨A',h1,h2⟩:=fill_rep pl f g l (fun p hp=>hf p (by simp [hp])) cs1 cs' _ e3 h
    refine ⟨A',?_,h2⟩
    simp only [List.map_cons,Instr.fill,hp,Option.map_some]
    rw [if_neg (by simp [e1]; omega)]
    exact h1
theorem places_ok {P:Program} {fs:List Field} (hok:fs.all (fun f=>(P.info? f.type).isSome && (P.underlying f.type).isSome)=true) :
  fs.mapM (fun f=>(P.info? f.type).map fun i=>(f.offset,i.size))=some (fs.map fun f=>(f.offset,P.cellsOf f.type)):=by
 induction fs with
 | nil=>rfl
 | cons f fs ih=>
  simp only [List.all_cons,Bool.and_eq_true] at hok
  obtain ⟨q,hq⟩:=Option.isSome_iff_exists.1 hok.1.1
  simp [List.mapM_cons,hq,ih hok.2,cellsOf_eq hq]
theorem sim_build (h:Rel Γ s μ a w) (hd:∀ t,o.dst=some t->t < Γ.n) {t:TypeId} {parts:Array (Nat × Operand)} (ho:o.op=.build t parts) {r:R} (hr:vBuild (TI.of Γ.P t) (parts.toList.map fun p=>(p.1,eva s.t p.2))=some r):SimR Γ s μ a w o r:=by
 cases hT:TI.of Γ.P t with
 | none=>rw [hT] at hr; cases hr
 | some i=>
  rw [hT] at hr
  simp only [vBuild] at hr
  split at hr
  · cases hr
  ·
   rename_i hz
   simp only [not_or,Bool.not_eq_false] at hz
   obtain ⟨hz,hagg'⟩:=hz
   obtain ⟨q,z,q1,q2,q3,q4,q5⟩:=zero_rep (w:=w) (μ:=μ) (M:=forb Γ.Mx μ s.H) (H:=s.H) hT hz
   obtain ⟨q',d,h1,h2,hok,_,hagg,_,hfl,hlen,hes,_,_,_,harr,_⟩:=TI.of_some hT
   have hparts:(parts.map fun (x:Nat × Operand)=>(x.1,a.eval x.2)).toList=parts.toList.map fun p=>(p.1,a.eval p.2):=by simp
   have hmap:(parts.map fun (x:Nat × Operand)=>match x with | (i,x)=>(i,a.eval x))=parts.map fun (x:Nat × Operand)=>(x.1,a.eval x.2):=by
    apply Array.map_congr_left; intro x _; rfl
   have key:∀ (pl:Nat->Option (Nat × Nat × Bool)) (cs:List AV),genP pl (parts.toList.map fun p=>(p.1,eva s.t p.2)) (some i.zero)=some cs->(∀ A',Instr.fill (fun j=>(pl j).map fun x=>(x.1,x.2.1)) z.cells (parts.toList.map fun p=>(p.1,a.eval p.2))=some A'->Γ.P.built t (parts.toList.map fun p=>(p.1,a.eval p.2))=some A') ->
     r=⟨.agg cs,[],[],[],none⟩->SimR Γ s μ a w o r:=by
    intro pl cs hg hb hrr
    obtain ⟨A',e1,e2⟩:=fill_rep (w:=w) pl (eva s.t) a.eval parts.toList (fun p _=>eva_rep h p.2) i.zero cs z.cells q5 hg
    have hrun:=run_build (P:=Γ.P) w t (parts.map fun (x:Nat × Operand)=>(x.1,a.eval x.2)) A' (by rw [hparts]; exact hb A' e1)
    subst hrr
    refine simV h hd (x:=.agg A') (by simp only [execOp,ho,Sem.run_bind,hrun,Result.andThen_ok,Sem.run_pure]) (.agg _ _ _ (fun k=>(A'[k]?).getD undef) e2.1 (fun k hk=>?_) fun k c hk=>?_)
    ·
     obtain ⟨y,y1,y2,_⟩:=e2.2 k cs[k] (List.getElem?_eq_getElem hk)
     rw [y1]; exact ⟨rfl,y2⟩
    ·
     obtain ⟨y,y1,_,y3⟩:=e2.2 k c hk
     rw [y1]; exact y3
   have hopt:∀ x:Option (List AV),optA x=some r->∃ cs,x=some cs/\r=⟨.agg cs,[],[],[],none⟩:=by
    intro x hx
    cases x with
    | none=>cases hx
    | some cs=>exact ⟨cs,rfl,val_inj hx⟩
   split at hr
   ·
    rename_i ha
    obtain ⟨cs,hcs,hrr⟩:=hopt _ hr
    rw [arrP_gen] at hcs
    obtain ⟨e,qe,de,u1,u2,u3,_⟩:=array_info hT ha
    refine key _ cs hcs (fun A' hA'=>?_) hrr
    unfold Program.built
    simp only [q1,u1,q2,u2]
    simpa [u3] using hA'
   ·
    rename_i ha
    obtain ⟨cs,hcs,hrr⟩:=hopt _ hr
    rw [structP_gen] at hcs
    have hst:∃ fs,d=.struct fs:=by
     rw [hagg] at hagg'
     cases d <;> simp [isAggD] at hagg'
     · exact absurd harr ha
     · exact ⟨_,rfl⟩
    obtain ⟨fs,rfl⟩:=hst
    refine key _ cs hcs (fun A' hA'=>?_) hrr
    unfold Program.built
    simp only [q1,h2,q2,places_ok hok]
    rw [<-hA']
    congr 1
    funext j
    rw [hfl]
    simp only [fieldsD,List.getElem?_toArray,List.getElem?_map,Option.map_map]
    rfl
theorem hputs_out {b:Bid} {x:Box}:∀ (l:List (Bid × Box)) (H:Heap),(∀ p ∈ l,p.1 ≠ b)->hputs (hput H b x) l=hput (hputs H l) b x
 | [],H,_=>rfl
 | (b',y) :: l,H,hl=>by
  simp only [hputs]
  rw [<-hputs_out l (hput H b' y) (fun p hp=>hl p (by simp [hp]))]
  congr 1
  exact hput_swap H x y (fun e=>hl (b',y) (by simp) e.symm)
theorem hputs_at {b:Bid}:∀ (l:List (Bid × Box)) (H:Heap),(∀ p ∈ l,p.1 ≠ b)->hputs H l b=H b
 | [],H,_=>rfl
 | (b',y) :: l,H,hl=>by
  simp only [hputs]
  rw [hputs_at l _ (fun p hp=>hl p (by simp [hp]))]
  have:b ≠ b':=fun e=>hl (b',y) (by simp) e.symm
  simp [hput,this]
theorem frzs_ids {H:Heap} {b:Bid} (hb:H b=none):∀ (l:List Bid),∀ p ∈ frzs H l,p.1 ≠ b
 | [],p,hp=>by simp [frzs] at hp
 | c :: l,p,hp=>by
  simp only [frzs] at hp
  split at hp
  ·
   rename_i e sz L hc
   rcases List.mem_cons.1 hp with rfl | hp
   ·
    intro he
    simp only at he
    rw [he,hb] at hc; cases hc
   · exact frzs_ids hb l p hp
  · exact frzs_ids hb l p hp
theorem rowsIn_mem:∀ (l:List AV) (b:Bid) (n:Nat),.own b n ∈ l->b ∈ rowsIn l
 | v :: l,b,n,h=>by
  rcases List.mem_cons.1 h with rfl | h
  · simp [rowsIn]
  ·
   have:=rowsIn_mem l b n h
   cases v <;> simp [rowsIn,this]
theorem frz_rep (h:Rel Γ s μ a w) (d:Nat) {vs:List AV} (hp:vs.all plainA=true):∃ H',H'=hputs s.H (frzs s.H (rowsIn vs))/\Rel Γ ⟨s.t,H'⟩ μ a w/\(∀ v x,v ∈ vs->Rep w (forb Γ.Mx μ s.H) μ s.H v x->∀ μ' H'',Rep w (forb Γ.Mx μ H') μ' H'' (view s.H (d + 1) v) x):=by
 obtain ⟨i1,i2,i3,i4⟩:=frz_all (Γ:=Γ) (s:=s) (μ:=μ) (a:=a) (w:=w) (rowsIn vs) s.H (FrzOf.refl _) h
 refine ⟨_,rfl,i1,fun v x hv hx μ' H''=>?_⟩
 refine plain_rep h (fun g hg hf=>hg (i2.forb hf)) d hx (List.all_eq_true.1 hp v hv) (fun b n e sz L z g c he hb hg=>?_) μ' H''
 subst he
 exact frozen_not i1 (i3 b e sz L z (rowsIn_mem _ _ _ hv) hb) hg
theorem chunk_get (k:Nat):∀ (n:Nat) (l:List AV) (i j:Nat) (xs:List AV) (x:AV),(chunk k n l)[i]?=some xs->xs[j]?=some x->l[i * k + j]?=some x/\j < k
 | 0,l,i,j,xs,x,h,_=>by simp [chunk] at h
 | n + 1,l,0,j,xs,x,h,hx=>by
  simp only [chunk,List.getElem?_cons_zero,Option.some.injEq] at h
  subst h
  rw [List.getElem?_take] at hx
  split at hx
  · rename_i hj; exact ⟨by rw [Nat.zero_mul,Nat.zero_add]; exact hx,hj⟩
  · cases hx
 | n + 1,l,i + 1,j,xs,x,h,hx=>by
  simp only [chunk,List.getElem?_cons_succ] at h
  obtain ⟨h1,h2⟩:=chunk_get k n (l.drop k) i j xs x h hx
  rw [List.getElem?_drop] at h1
  refine ⟨?_,h2⟩
  rw [<-h1,Nat.succ_mul]
  congr 1
  omega
theorem chunk_len (k:Nat):∀ (n:Nat) (l:List AV),l.length=n * k->(chunk k n l).length=n/\∀ x ∈ chunk k n l,x.length=k
 | 0,l,h=>by simp [chunk]
 | n + 1,l,h=>by
  rw [Nat.succ_mul] at h
  obtain ⟨h1,h2⟩:=chunk_len k n (l.drop k) (by simp; omega)
  refine ⟨by simp [chunk,h1],fun x hx=>?_⟩
  simp only [chunk,List.mem_cons] at hx
  rcases hx with rfl | hx
  · simp; omega
  · exact h2 x hx
theorem sim_buildSlice (h:Rel Γ s μ a w) (hd:∀ t,o.dst=some t->t < Γ.n) {t:TypeId} {n:Nat} {parts:Array (Nat × Operand)} (ho:o.op=.buildSlice t n parts) {r:R}
  (hr:vBuildSlice (nid o.dst) n s.H (TI.of Γ.P t) ((TI.of Γ.P t).bind fun i=>TI.of Γ.P i.etype) (parts.toList.map fun p=>(p.1,eva s.t p.2))=some r):SimR Γ s μ a w o r:=by
 cases hT:TI.of Γ.P t with
 | none=>rw [hT] at hr; simp [vBuildSlice] at hr
 | some i=>
  rw [hT] at hr
  simp only [Option.bind_some] at hr
  cases hE:TI.of Γ.P i.etype with
  | none=>rw [hE] at hr; simp [vBuildSlice] at hr
  | some ie=>
   rw [hE] at hr
   simp only [vBuildSlice] at hr
   split at hr
   ·
    rename_i hc
    obtain ⟨hs,hzl,hpos,hsmall,hplain⟩:=hc
    obtain ⟨e,qe,de,u1,u2,u3,u4,u5,u6⟩:=slice_info hT hs
    cases hcs:arrP i.esize ((parts.toList.map fun p=>(p.1,eva s.t p.2)).map fun p=>(p.1,view s.H 2 p.2)) (some (List.replicate n ie.zero).flatten) with
    | none=>rw [hcs] at hr; cases hr
    | some cs=>
     rw [hcs] at hr
     simp only [rowP] at hr
     split at hr
     ·
      rename_i hf
      obtain ⟨hflat,hlen⟩:=hf
      cases hr
      intro H1 hH1 K Q hK _
      simp only [hnews] at hH1
      split at hH1
      ·
       rename_i hn
       cases hH1
       have hn':s.H (nid o.dst)=none:=by simpa using hn
       obtain ⟨H',hH',hR',hrep⟩:=frz_rep h 1 hplain
       have hHn:H' (nid o.dst)=none:=by rw [hH',hputs_at _ _ (frzs_ids hn' _)]; exact hn'
       have hz:¬ ie.zero.isEmpty=true:=by
        rw [List.isEmpty_iff]
        intro h0
        rw [h0] at hzl
        simp at hzl
        omega
       obtain ⟨q,z,q1,q2,q3,q4,q5⟩:=zero_rep (w:=w) (μ:=μ) (M:=forb Γ.Mx μ H') (H:=noH) hE hz
       rw [u5] at q1
       have hqe:q=qe:=by rw [u2] at q1; exact (Option.some.inj q1).symm
       subst hqe
       have hzs:z.cells.size=i.esize:=by rw [q4,hzl]
       have hrow:ArrRep w (forb Γ.Mx μ H') μ noH ((Array.range (n * q.size)).map (z.cells[· % z.cells.size]!)) (List.replicate n ie.zero).flatten:=by
        refine ⟨by simp [hzl,u3],fun k c hk=>?_⟩
        have hkl:k < n * q.size:=by
         have:=(List.getElem?_eq_some_iff.1 hk).1
         simpa [hzl,u3] using this
        have hsz:q.size=ie.zero.length:=by rw [<-u3,hzl]
        have hk':ie.zero[k % ie.zero.length]?=some c:=by
         have hgen:∀ (n k:Nat),(List.replicate n ie.zero).flatten[k]?=some c->ie.zero[k % ie.zero.length]?=some c:=by
          intro n
          induction n with
          | zero=>intro k hk; simp at hk
          | succ n ihn=>
           intro k hk
           rw [List.replicate_succ,List.flatten_cons] at hk
           by_cases hlt:k < ie.zero.length
           ·
            rw [List.getElem?_append_left hlt] at hk
            rw [Nat.mod_eq_of_lt hlt]; exact hk
           ·
            rw [List.getElem?_append_right (by omega)] at hk
            have:=ihn _ hk
            rw [<-Nat.mod_eq_sub_mod (by omega)] at this
            exact this
         exact hgen n k hk
        obtain ⟨y,y1,y2,y3⟩:=q5.2 _ c hk'
        refine ⟨y,?_,y2,y3⟩
        simp only [Array.getElem?_map,Array.getElem?_range,hkl,if_true,Option.map_some]
        rw [q4]
        have hml:k % ie.zero.length < z.cells.size:=by rw [q4]; exact Nat.mod_lt _ (by omega)
        rw [Array.getElem?_eq_getElem hml] at y1
        rw [getElem!_pos z.cells _ hml]
        exact congrArg some (Option.some.inj y1)
       rw [arrP_gen] at hcs
       have hcs':genP (fun j=>some (j * i.esize,i.esize,false)) (parts.toList.map fun p=>(p.1,view s.H 2 (eva s.t p.2))) (some (List.replicate n ie.zero).flatten)=some cs:=by
        rw [List.map_map] at hcs; exact hcs
       obtain ⟨A',e1,e2⟩:=fill_rep (w:=w) (μ:=μ) (M:=forb Γ.Mx μ H') (H:=noH) (fun j=>some (j * i.esize,i.esize,false)) (fun x=>view s.H 2 (eva s.t x)) a.eval parts.toList
        (fun p hp=>hrep _ _ (by simp only [List.mem_map]; exact ⟨(p.1,eva s.t p.2),⟨p,hp,rfl⟩,rfl⟩) (eva_rep h p.2) _ _) _ cs _ hrow hcs'
       have hmap:(parts.map fun (x:Nat × Operand)=>match x with | (i,x)=>(i,a.eval x)).toList=parts.toList.map fun p=>(p.1,a.eval p.2):=by simp
       have e1':Instr.fill (fun j=>some (j * q.size,q.size)) ((Array.range (n * q.size)).map (z.cells[· % z.cells.size]!)) (parts.map fun (x:Nat × Operand)=>match x with | (i,x)=>(i,a.eval x)).toList=some A':=by
        rw [hmap,<-u3]
        rw [<-u3] at e1
        exact e1
       have hrun:(Instr.buildSlice t n (parts.map fun (x:Nat × Operand)=>match x with | (i,x)=>(i,a.eval x))).run Γ.P w=.ok (.slice (some ⟨w.heap.size,0,none⟩) n n) (w.alloc (.cells A' e)):=by
        by_cases h0:n * q.size=0
        ·
         have hm0:∀ f:Nat->Value,(Array.range 0).map f=#[]:=fun f=>by simp
         rw [h0] at e1'
         have e1'':Instr.fill (fun j=>some (j * q.size,q.size)) #[] (parts.map fun (x:Nat × Operand)=>match x with | (i,x)=>(i,a.eval x)).toList=some A':=by rw [<-e1',hm0]
         simp only [Instr.buildSlice,Sem.run_bind,run_underlying u1,Result.andThen_ok,run_sizeOf' u2,h0,Sem.run_ite,if_true,Sem.run_pure,hm0,e1'',newRow,run_newObj]
         rfl
        · exact run_buildSlice w t e n _ A' q z u1 u2 q2 (by rw [<-u3]; omega) h0 e1'
       have hL:=chunk_len i.esize n cs hlen
       refine wp_value (x:=.slice (some ⟨w.heap.size,0,none⟩) n n) (w':=w.alloc (.cells A' e)) (by simp only [execOp,ho,Sem.run_bind,hrun,Result.andThen_ok,Sem.run_pure]) ?_
       have hRn:=hR'.newbox (b:=nid o.dst) hHn rfl ((Below.refl _ _).alloc (Nat.le_refl _) _) (NF.alloc _ _ _) (Nat.le_refl _) (heap_alloc_new w (.cells A' e)) (c:=n) (x:=.row i.etype i.esize (chunk i.esize n cs) false) (by
        intro M μ' H'' hM hle hμ'
        refine ⟨u5,hpos,hL.2,by rw [e2.1,hlen],by omega,by unfold maxLen; exact Nat.le_trans (Nat.le_trans (Nat.le_mul_of_pos_right n hpos) hsmall) (by decide),fun k j xs x hk hj=>?_⟩
        obtain ⟨g1,g2⟩:=chunk_get _ _ _ _ _ _ _ hk hj
        obtain ⟨y,y1,y2,y3⟩:=e2.2 _ x g1
        exact ⟨y,y1,y2,y3.mono (fun g hg hf=>⟨hM g (by simp; omega) (by omega) hf,heap_alloc_old w _ hg⟩) (HLe.refl _) (fun b hb=>absurd rfl hb)⟩)
       have hfin:=hRn.put (d:=o.dst) hd (v:=.own (nid o.dst) n) (x:=.slice (some ⟨w.heap.size,0,none⟩) n n) (by
        have:=@Rep.own (w.alloc (.cells A' e)) (forb Γ.Mx (lput μ (nid o.dst) (some (w.heap.size,n))) (hput H' (nid o.dst) (.row i.etype i.esize (chunk i.esize n cs) false))) (lput μ (nid o.dst) (some (w.heap.size,n))) (hput H' (nid o.dst) (.row i.etype i.esize (chunk i.esize n cs) false)) (nid o.dst) n _ _ _ _ (by simp [hput]; exact ⟨rfl,rfl,rfl,rfl⟩) (by omega)
        simpa [lput,sliceV] using this)
       have hst:hputs (hput s.H (nid o.dst) (.row i.etype i.esize (chunk i.esize n cs) false)) (frzs s.H (rowsIn ((parts.toList.map fun p=>(p.1,eva s.t p.2)).map (·.2))))=hput H' (nid o.dst) (.row i.etype i.esize (chunk i.esize n cs) false):=by
        rw [hputs_out _ _ (frzs_ids hn' _),hH']
       refine hK rfl (lput μ (nid o.dst) (some (w.heap.size,n))) _ _ ?_
       simp only []
       rw [hst]
       exact hfin
      · cases hH1
     · cases hr
   · cases hr
end
section
variable {Γ:Ctx} {s:St} {μ:Lay} {a:Act} {w:World} {o:Oper}
theorem str_type {P:Program} {t:TypeId} {i:TI} (hT:TI.of P t=some i) (ha:i.agg=false) (hk:i.kinds=some [.str]):P.underlying t=some .string:=by
 obtain ⟨q,d,h1,h2,_,_,hagg,_,_,_,_,_,_,_,_,_,_,hkinds⟩:=TI.of_some hT
 rw [hk] at hkinds
 split at hkinds
 · cases hkinds
 ·
  have h:=hkinds.symm
  unfold kindsAt at h
  rw [hagg] at ha
  split at h
  · cases h
  ·
   rw [h2] at h
   cases d <;> simp [isAggD] at ha <;> simp at h
   exact h2
theorem content_vals (h:Rel Γ s μ a w) {x:AV} {v:Value} (hx:Rep w (forb Γ.Mx μ s.H) μ s.H x v) {k:Nat} {M:List (List AV)} (hc:content s.H x=some (k,M)) :
    ∃ (ad:Option Addr) (c:Nat) (news:List Value),v=.slice ad M.length c/\M.length<=c/\news.length=M.length * k/\(∀ xs ∈ M,xs.length=k) /\
      (∀ j uu,news[j]?=some uu->∃ ad',ad=some ad'/\w.cell? (ad'.add j)=some uu/\uu.oneCell'=true) /\
      (∀ (i j:Nat) (xs:List AV) (y:AV),M[i]?=some xs->xs[j]?=some y->∃ uu,news[i * k + j]?=some uu/\uu.oneCell'=true/\Rep w (forb Γ.Mx μ s.H) μ noH y uu):=by
  have fromSl:∀ (a':Option Addr) (c:Nat) (f:Nat->Nat->Value),M.length<=c->(∀ xs ∈ M,xs.length=k)->(∀ i j,i < M.length->j < k->∃ g off,a'=some ⟨g,off,none⟩/\w.cell? ⟨g,off + (i * k + j),none⟩=some (f i j)/\(f i j).oneCell'=true) ->
      (∀ i j cs x,M[i]?=some cs->cs[j]?=some x->Rep w (forb Γ.Mx μ s.H) μ noH x (f i j))->v=.slice a' M.length c ->
      ∃ (ad:Option Addr) (c:Nat) (news:List Value),v=.slice ad M.length c/\M.length<=c/\news.length=M.length * k/\(∀ xs ∈ M,xs.length=k) /\
      (∀ j uu,news[j]?=some uu->∃ ad',ad=some ad'/\w.cell? (ad'.add j)=some uu/\uu.oneCell'=true) /\
      (∀ (i j:Nat) (xs:List AV) (y:AV),M[i]?=some xs->xs[j]?=some y->∃ uu,news[i * k + j]?=some uu/\uu.oneCell'=true/\Rep w (forb Γ.Mx μ s.H) μ noH y uu):=by
    intro a' c f h1 h2 h3 h4 h5
    refine ⟨a',c,(List.range (M.length * k)).map fun n=>f (n / k) (n % k),h5,h1,by simp,h2,fun j uu hj=>?_,fun i j xs y hi hj=>?_⟩
    · rw [List.getElem?_map,Option.map_eq_some_iff] at hj
      obtain ⟨n,hn,rfl⟩:=hj
      have hlt:=(List.getElem?_eq_some_iff.1 hn).1
      simp at hlt
      have:n=j:=by simpa [hlt] using hn.symm
      subst this
      have hk0:0 < k:=Nat.pos_of_ne_zero fun h0=>by subst h0; simp at hlt
      obtain ⟨g,off,e1,e2,e3⟩:=h3 (n / k) (n % k) ((Nat.div_lt_iff_lt_mul hk0).2 hlt) (Nat.mod_lt _ hk0)
      refine ⟨_,e1,?_,e3⟩
      rw [Addr.add_lit]
      have:n / k * k + n % k=n:=by rw [Nat.mul_comm]; exact Nat.div_add_mod n k
      rw [this] at e2
      exact e2
    · have hil:=(List.getElem?_eq_some_iff.1 hi).1
      have hjl:=(List.getElem?_eq_some_iff.1 hj).1
      have hxl:=h2 xs (List.mem_of_getElem? hi)
      have hk0:0 < k:=by omega
      have hlt:i * k + j < M.length * k:=by
        calc i * k + j < i * k + k:=by omega
          _=(i + 1) * k:=(Nat.succ_mul _ _).symm
          _<=M.length * k:=Nat.mul_le_mul_right _ hil
      have hd:(i * k + j) / k=i:=by rw [Nat.mul_comm,Nat.mul_add_div hk0,Nat.div_eq_of_lt (by omega)]; rfl
      have hm:(i * k + j) % k=j:=by rw [Nat.mul_comm,Nat.mul_add_mod,Nat.mod_eq_of_lt (by omega)]
      refine ⟨f i j,?_,?_,h4 i j xs y hi hj⟩
      · simp [hlt,hd,hm]
      · obtain ⟨_,_,_,_,e3⟩:=h3 i j hil (by omega)
        exact e3
  cases x <;> simp only [content] at hc <;> try (cases hc; done)
  · cases hc
    rw [hx.nils_inv]
    exact ⟨none,0,[],rfl,Nat.le_refl _,rfl,by simp,by simp,by simp⟩
  · cases hc
    cases hx with
    | sl _ _ _ a' c f hcc hm hk hv hr=>
      exact fromSl a' c f hcc hk (fun i j hi hj=>by obtain ⟨g,off,e1,_,e3,e4⟩:=hv i j hi hj; exact ⟨g,off,e1,e3,e4⟩) hr rfl
  · rename_i b n
    cases hb:s.H b with
    | none=>rw [hb] at hc; cases hc
    | some y=>
      rw [hb] at hc
      cases y <;> simp only [rowOf] at hc <;> try (cases hc; done)
      rename_i e sz L z
      cases hc
      cases hx with
      | own _ _ _ e' sz' L' z' hH hn=>
        rw [hb] at hH; cases hH
        have hl:(L.take n).length=n:=by rw [List.length_take]; omega
        have hrep:=row_rep h hb hn (M:=fun _=>False) (fun _ _ hF=>hF) (fun _ _ _ hF=>hF) (μ':=μ) (H':=noH)
        generalize hgen:sliceV (μ b) n=V at hrep fromSl ⊢
        rcases h.hb b _ hb with q | ⟨g,c,cur,e1,q1,q2,q3⟩ | ⟨q1,e1,sz1,z1,q2,q3⟩
        · cases q
        · obtain ⟨rfl,r3,r4,r5,r6,r7,r8⟩:=q3
          rw [q1] at hgen
          refine fromSl (some ⟨g,0,none⟩) c (fun i j=>(cur[i * k + j]?).getD undef) (by omega) (fun xs hxs=>r4 xs (List.mem_of_mem_take hxs)) (fun i j hi hj=>?_) (fun i j cs x hi hj=>?_) (by rw [<-hgen,hl]; rfl)
          · have hi':i < L.length:=by rw [hl] at hi; omega
            have hxl:(L[i]).length=k:=r4 _ (List.getElem_mem hi')
            obtain ⟨v',v1,v2,v3⟩:=r8 i j L[i] (L[i][j]'(by omega)) (List.getElem?_eq_getElem hi') (List.getElem?_eq_getElem (by omega))
            exact ⟨g,0,rfl,by rw [Nat.zero_add,cell_heap q2,v1]; rfl,by rw [v1]; exact v2⟩
          · rw [List.getElem?_take] at hi
            split at hi
            · obtain ⟨v',v1,v2,v3⟩:=r8 i j cs x hi hj
              rw [v1]; exact v3
            · cases hi
        · cases q2
          rw [q1] at hgen
          have hn0:n=0:=by simpa using hn
          subst hn0
          subst hgen
          exact ⟨none,0,[],rfl,Nat.le_refl _,by simp,by simp,by simp,by simp⟩
      | ownd _ _ _ _ hH _=>rw [hb] at hH; cases hH
theorem strL_some:∀ {L:List (List AV)} {ns:List Int},strL L=some ns->L=ns.map fun n=>[.int .u8 n]
 | [],ns,h=>by simp only [strL] at h; cases h; rfl
 | x :: L,ns,h=>by
  unfold strL at h
  split at h
  · rename_i h0; cases h0
  ·
   rename_i n l h0
   cases h0
   cases hq:strL L with
   | none=>rw [hq] at h; cases h
   | some ms=>rw [hq] at h; cases h; rw [strL_some hq]; rfl
  · cases h
theorem sim_conv (h:Rel Γ s μ a w) (hd:∀ t,o.dst=some t->t < Γ.n) {x:Operand} {t t':TypeId} (ho:o.op=.convert t t' x) {r:R} (hr:vConv (TI.of Γ.P t) ((TI.of Γ.P t).bind fun i=>TI.of Γ.P i.etype) (TI.of Γ.P t') (eva s.t x)=some r) (hs:(Γ.P.underlying t).isSome=true):SimR Γ s μ a w o r:=by
 have hx:=eva_rep h x
 cases hT:TI.of Γ.P t' with
 | none=>rw [hT] at hr; simp [vConv] at hr
 | some i=>
  obtain ⟨q,d,h1,h2,_,_,_,_,_,_,_,_,_,hkind,_⟩:=TI.of_some hT
  rw [hT] at hr
  cases hq:eva s.t x <;> rw [hq] at hr hx <;> simp only [vConv] at hr <;> try (cases hr; done)
  ·
   rename_i k n
   cases d <;> simp only at hkind <;> rw [hkind] at hr <;> simp only [convK] at hr <;> try (cases hr; done)
   cases val_inj hr
   obtain ⟨d1,hd1⟩:=Option.isSome_iff_exists.1 hs
   exact simV h hd (by simp [execOp,ho,hx.int_inv,convert,run_underlying h2,run_underlying hd1,Conv.intToInt]) (.int _ _ _)
  ·
   rename_i k L
   split at hr
   ·
    rename_i hk1
    subst hk1
    cases hS:TI.of Γ.P t with
    | none=>rw [hS] at hr; simp [vStr] at hr
    | some is=>
     rw [hS] at hr
     simp only [Option.bind_some] at hr
     cases hE:TI.of Γ.P is.etype with
     | none=>rw [hE] at hr; simp [vStr] at hr
     | some ie=>
      rw [hE] at hr
      simp only [vStr] at hr
      split at hr
      ·
       rename_i hc
       obtain ⟨c1,c2,c3,c4⟩:=hc
       cases hL:strL L with
       | none=>rw [hL] at hr; cases hr
       | some ns=>
        rw [hL] at hr
        cases val_inj hr
        have hstr:=str_type hT c3 c4
        obtain ⟨e,qe,de,u1,u2,u3,u4,u5,u6⟩:=slice_info hS c1
        subst u5
        obtain ⟨qe',de',v1,v2,_,_,_,_,_,_,_,_,_,vkind,_⟩:=TI.of_some hE
        have hu8:Γ.P.underlying is.etype=some (.int .u8):=by
         rw [vkind] at c2
         cases de' <;> simp at c2
         rw [v2,c2]
        obtain rfl:=strL_some hL
        obtain ⟨ad,c,news,e1,e2,e3,e4,e5,e6⟩:=content_vals h hx (k:=1) (M:=ns.map fun n=>[.int .u8 n]) rfl
        have hn:news=ns.map (Value.int .u8):=by
         apply List.ext_getElem?
         intro i
         by_cases hi:i < ns.length
         ·
          obtain ⟨uu,w1,w2,w3⟩:=e6 i 0 [.int .u8 ns[i]] (.int .u8 ns[i]) (by simp [hi]) rfl
          rw [Nat.mul_one,Nat.add_zero] at w1
          rw [w1,w3.int_inv]
          simp [hi]
         · rw [List.getElem?_eq_none (by rw [e3]; simp; omega),List.getElem?_eq_none (by simp; omega)]
        refine simV h hd (x:=.string (bytesB ns)) ?_ (.str _ _)
        simp only [execOp,ho,e1]
        rw [Sem.run_bind,run_convert_bytes_string w t t' is.etype ad _ c u1 hu8 hstr]
        cases ad with
        | none=>
         have:ns=[]:=by
          cases ns with
          | nil=>rfl
          | cons n ns=>
           obtain ⟨ad',w1,_⟩:=e5 0 (.int .u8 n) (by rw [hn]; rfl)
           cases w1
         subst this
         rfl
        | some ad=>
         have hld:(loadCells ad ns.length).run Γ.P w=.ok (ns.map (Value.int .u8)).toArray w:=by
          have:=run_loadCells_list (P:=Γ.P) (w:=w) ad news (fun j uu hj=>by
           obtain ⟨ad',w1,w2,_⟩:=e5 j uu hj
           cases w1
           exact w2)
          rw [hn] at this
          simpa using this
         simp only [List.length_map]
         rw [run_bytesToString w ad ns.length c ns hld]
         rfl
      · cases hr
   · cases hr
theorem sim_len (h:Rel Γ s μ a w) (hd:∀ t,o.dst=some t->t < Γ.n) {x:Operand} {t:TypeId} (ho:o.op=.call ⟨.builtin .len,#[x],#[t]⟩) {r:R} (hr:vLen s.H (TI.of Γ.P t) (eva s.t x)=some r):SimR Γ s μ a w o r:=by
 have hx:=eva_rep h x
 cases hT:TI.of Γ.P t with
 | none=>rw [hT] at hr; simp [vLen] at hr
 | some i=>
  rw [hT] at hr
  generalize eva s.t x=X at hr hx
  by_cases hstr:∃ z,X=.str z
  ·
   obtain ⟨z,rfl⟩:=hstr
   simp only [vLen] at hr
   split at hr
   ·
    rename_i hc
    have hu:=str_type hT hc.1 hc.2
    cases val_inj hr
    exact simV h hd (x:=goInt z.size) (by simp [execOp,ho,resolve,invoke,builtin,Builtin.len_,hx.str_inv,run_underlying hu]) (.int _ _ _)
   · cases hr
  by_cases hows:∃ b l n,X=.ows b l n
  ·
   obtain ⟨b,l,n,rfl⟩:=hows
   simp only [vLen] at hr
   split at hr
   ·
    rename_i hs
    obtain ⟨e,q,d,u1,_⟩:=slice_info hT hs.1
    generalize hval:a.eval x=y at hx
    cases hx with
    | ows _ _ _ _ e' sz L z ad cp hH hnn hcp hv=>
     exact simF h hd (x:=goInt n) (by simp [execOp,ho,resolve,invoke,builtin,Builtin.len_,hval,run_underlying u1]) (.int _ _ _) hr
    | owsd _ _ _ _ _ hH _=>rw [hH] at hs; simp [isRow] at hs
   · cases hr
  by_cases hown:∃ b n,X=.own b n
  ·
   obtain ⟨b,n,rfl⟩:=hown
   simp only [vLen] at hr
   split at hr
   ·
    rename_i hs
    obtain ⟨e,q,d,u1,_⟩:=slice_info hT hs
    cases hc:rowOf n (s.H b) with
    | none=>rw [hc] at hr; cases hr
    | some kM=>
     obtain ⟨k,M⟩:=kM
     rw [hc] at hr
     obtain ⟨ad,c,news,e1,_⟩:=content_vals h hx (k:=k) (M:=M) hc
     exact simF h hd (x:=goInt M.length) (by simp [execOp,ho,resolve,invoke,builtin,Builtin.len_,e1,run_underlying u1]) (.int _ _ _) hr
   · cases hr
  ·
   have hr':(if i.slc=true then lenO (content s.H X) else none)=some r:=by
    cases X <;> first | exact hr | exact absurd ⟨_,rfl⟩ hstr | exact absurd ⟨_,_,rfl⟩ hown | exact absurd ⟨_,_,_,rfl⟩ hows
   split at hr'
   ·
    rename_i hs
    cases hc:content s.H X with
    | none=>rw [hc] at hr'; cases hr'
    | some kM=>
     obtain ⟨k,M⟩:=kM
     rw [hc] at hr'
     cases val_inj hr'
     obtain ⟨ad,c,news,e1,_⟩:=content_vals h hx hc
     obtain ⟨e,q,d,u1,_⟩:=slice_info hT hs
     exact simV h hd (x:=goInt M.length) (by simp [execOp,ho,resolve,invoke,builtin,Builtin.len_,e1,run_underlying u1]) (.int _ _ _)
   · cases hr'
theorem sim_max (h:Rel Γ s μ a w) (hd:∀ t,o.dst=some t->t < Γ.n) {x y:Operand} {ts:Array TypeId} (ho:o.op=.call ⟨.builtin .max,#[x,y],ts⟩) {r:R} (hr:vMax (eva s.t x) (eva s.t y)=some r):SimR Γ s μ a w o r:=by
 have hx:=eva_rep h x
 have hy:=eva_rep h y
 cases hqx:eva s.t x <;> rw [hqx] at hr hx <;> simp only [vMax] at hr <;> try (cases hr; done)
 cases hqy:eva s.t y <;> rw [hqy] at hr hy <;> simp only at hr <;> try (cases hr; done)
 cases val_inj hr
 exact simV h hd (by simp [execOp,ho,resolve,invoke,builtin,Builtin.max_,Builtin.max2,hx.int_inv,hy.int_inv]; rfl) (.int _ _ _)
theorem sim_max4 (h:Rel Γ s μ a w) (hd:∀ t,o.dst=some t->t < Γ.n) {x y z uu:Operand} {ts:Array TypeId} (ho:o.op=.call ⟨.builtin .max,#[x,y,z,uu],ts⟩) {r:R} (hr:vMax4 (eva s.t x) (eva s.t y) (eva s.t z) (eva s.t uu)=some r):SimR Γ s μ a w o r:=by
 have hx:=eva_rep h x
 have hy:=eva_rep h y
 have hz:=eva_rep h z
 have hu:=eva_rep h uu
 generalize eva s.t x=X at hr hx
 generalize eva s.t y=Y at hr hy
 generalize eva s.t z=Z at hr hz
 generalize eva s.t uu=U at hr hu
 unfold vMax4 at hr
 split at hr
 ·
  cases val_inj hr
  exact simV h hd (by simp [execOp,ho,resolve,invoke,builtin,Builtin.max_,Builtin.max2,hx.int_inv,hy.int_inv,hz.int_inv,hu.int_inv]; rfl) (.int _ _ _)
 · cases hr
theorem sim_min (h:Rel Γ s μ a w) (hd:∀ t,o.dst=some t->t < Γ.n) {x y:Operand} {ts:Array TypeId} (ho:o.op=.call ⟨.builtin .min,#[x,y],ts⟩) {r:R} (hr:vMin (eva s.t x) (eva s.t y)=some r):SimR Γ s μ a w o r:=by
 have hx:=eva_rep h x
 have hy:=eva_rep h y
 cases hqx:eva s.t x <;> rw [hqx] at hr hx <;> simp only [vMin] at hr <;> try (cases hr; done)
 cases hqy:eva s.t y <;> rw [hqy] at hr hy <;> simp only at hr <;> try (cases hr; done)
 cases val_inj hr
 exact simV h hd (by simp [execOp,ho,resolve,invoke,builtin,Builtin.min_,Builtin.min2,hx.int_inv,hy.int_inv]; rfl) (.int _ _ _)
theorem hput_same (H:Heap) (b:Bid) (x:Box):hput H b x b=some x:=by simp [hput]
theorem bnd_run {d:Option Nat} {x:Option Operand} {l:Nat} (h:Rel Γ s μ a w) (hb:bnd d (x.map (eva s.t))=some l):(x=none/\d=some l)\/∃ q k n,x=some q/\a.eval q=.int k n/\0<=n/\n.toNat=l:=by
 cases x with
 | none=>exact .inl ⟨rfl,hb⟩
 | some q=>
  have hq:=eva_rep h q
  simp only [Option.map_some] at hb
  cases hv:eva s.t q <;> rw [hv] at hb hq <;> simp only [bnd] at hb <;> try (cases hb; done)
  split at hb
  ·
   rename_i hn
   cases hb
   exact .inr ⟨q,_,_,rfl,hq.int_inv,hn,rfl⟩
  · cases hb
theorem sl_cut {M H} {μ':Lay} {k:Nat} {L:List (List AV)} {ad:Option Addr} {n c:Nat} (hx:Rep w M μ' H (.sl k L) (.slice ad n c)) {l hh sz:Nat} (h1:l<=hh) (h2:hh<=L.length) (hk:k=sz\/L=[]) {μ'' H'} :
  Rep w M μ'' H' (.sl k ((L.take hh).drop l)) (.slice (if c=l then ad else ad.map (·.add (l * sz))) (hh - l) (c - l)):=by
 cases hx with
 | sl _ _ _ _ _ f hc hm hkk hv hr=>
  have hlen:((L.take hh).drop l).length=hh - l:=by simp; omega
  have:=@Rep.sl w M μ'' H' k ((L.take hh).drop l) (if c=l then ad else ad.map (·.add (l * sz))) (c - l) (fun i j=>f (l + i) j) (by rw [hlen]; omega) (by omega) (fun x hx=>hkk x (List.mem_of_mem_take (List.mem_of_mem_drop hx))) (fun i j hi hj=>by
   rw [hlen] at hi
   obtain ⟨g,off,e1,e2,e3,e4⟩:=hv (l + i) j (by omega) hj
   have hne:¬ c=l:=by omega
   have hksz:k=sz:=by
    rcases hk with hk | hk
    · exact hk
    · subst hk; simp at h2; omega
   refine ⟨g,off + l * sz,?_,e2,?_,e4⟩
   · rw [if_neg hne,e1]; simp [Addr.add_lit]
   ·
    rw [<-e3]
    congr 2
    rw [<-hksz,Nat.add_mul]
    omega) (fun i j cs x hi hj=>by
   rw [List.getElem?_drop,List.getElem?_take] at hi
   split at hi
   · exact (hr _ _ _ _ hi hj).ofNo
   · cases hi)
  rw [hlen] at this
  exact this
theorem sim_arrS (h:Rel Γ s μ a w) (hd:∀ t,o.dst=some t->t < Γ.n) {x:Operand} {t:TypeId} (ho:o.op=.slice t x none none none) {cs:List AV} {p:Nat} (hX:eva s.t x=.iref cs p) {r:R} (hr:arrS cs p (TI.of Γ.P t)=some r):SimR Γ s μ a w o r:=by
 have hx:=eva_rep h x
 rw [hX] at hx
 cases hT:TI.of Γ.P t with
 | none=>rw [hT] at hr; cases hr
 | some i=>
  rw [hT] at hr
  simp only [arrS] at hr
  split at hr
  ·
   rename_i hc
   obtain ⟨hs,he1,hlen,hmx⟩:=hc
   cases val_inj hr
   obtain ⟨e,q,d,hu',hq,hes,_⟩:=array_info hT hs
   generalize hval:a.eval x=y at hx
   cases hx with
   | iref _ _ _ g off f hv hrr=>
    have hL:((((cs.drop p).take i.len).map fun x=>[x]):List (List AV)).length=i.len:=by simp; omega
    have hat:∀ (k:Nat) (xs:List AV),(((cs.drop p).take i.len).map fun x=>[x])[k]?=some xs->k < i.len/\∃ x,cs[p + k]?=some x/\xs=[x]:=fun k xs hk=>by
     rw [List.getElem?_map,Option.map_eq_some_iff] at hk
     obtain ⟨x,hx,rfl⟩:=hk
     rw [List.getElem?_take] at hx
     split at hx
     ·
      rename_i hlt
      rw [List.getElem?_drop] at hx
      exact ⟨hlt,x,hx,rfl⟩
     · cases hx
    refine simV h hd (x:=.slice (some ⟨g,off + p,none⟩) (((cs.drop p).take i.len).map fun x=>[x]).length i.len) ?_ (.sl _ 1 _ (some ⟨g,off + p,none⟩) i.len (fun k _=>f (p + k)) (by rw [hL]; exact Nat.le_refl _) hmx (fun xs hxs=>?_) (fun k j hk hj=>?_) fun k j xs x hk hj=>?_)
    ·
     rw [hL]
     simp only [execOp,ho,hval,Instr.sliceAt,Instr.sureAddr,Instr.sliceBounds,Option.map_none,Sem.run_bind,Sem.run_pure,Result.andThen_ok,run_underlying hu',run_sizeOf' hq,Addr.add_lit,Nat.zero_mul,Nat.add_zero,Nat.sub_zero,ite_self]
    ·
     obtain ⟨k,hk⟩:=List.mem_iff_getElem?.1 hxs
     obtain ⟨_,x,_,rfl⟩:=hat k xs hk
     rfl
    ·
     rw [hL] at hk
     obtain rfl:j=0:=by omega
     obtain ⟨g',off',e1,e2,e3,e4⟩:=hv (p + k) (by omega)
     cases e1
     exact ⟨_,_,rfl,e2,by rw [Nat.mul_one,Nat.add_zero,Nat.add_assoc]; exact e3,e4⟩
    ·
     obtain ⟨_,y,hy,rfl⟩:=hat k xs hk
     match j,hj with
     | 0,hj=>simp at hj; subst hj; exact hrr _ _ hy
  · cases hr
theorem sim_slice (h:Rel Γ s μ a w) (hd:∀ t,o.dst=some t->t < Γ.n) {x:Operand} {t:TypeId} {lo hi:Option Operand} (ho:o.op=.slice t x lo hi none) {r:R}
  (hr:vSlice s.H (eva s.t x) (TI.of Γ.P t) (content s.H (eva s.t x)) (bnd (some 0) (lo.map (eva s.t))) (bnd ((content s.H (eva s.t x)).map (·.2.length)) (hi.map (eva s.t)))=some r):SimR Γ s μ a w o r:=by
 have hx:=eva_rep h x
 cases hT:TI.of Γ.P t with
 | none=>rw [hT] at hr; simp [vSlice] at hr
 | some i=>
  rw [hT] at hr
  cases hc:content s.H (eva s.t x) with
  | none=>rw [hc] at hr; simp [vSlice] at hr
  | some kL=>
   obtain ⟨k,L⟩:=kL
   rw [hc] at hr
   cases hl:bnd (some 0) (lo.map (eva s.t)) with
   | none=>rw [hl] at hr; simp [vSlice] at hr
   | some l=>
    cases hh:bnd ((some (k,L)).map (·.2.length)) (hi.map (eva s.t)) with
    | none=>rw [hl,hh] at hr; simp [vSlice] at hr
    | some hgt=>
     rw [hl,hh] at hr
     simp only [vSlice] at hr
     split at hr
     ·
      rename_i hcond
      obtain ⟨hs,hk⟩:=hcond
      simp only [cutS] at hr
      split at hr
      ·
       rename_i hb
       obtain ⟨hb1,hb2⟩:=hb
       obtain ⟨ad,c,news,e1,e2,_⟩:=content_vals h hx hc
       obtain ⟨e,q,d,u1,u2,u3,_⟩:=slice_info hT hs
       have hrun:(execOp a.eval o).run Γ.P w=.ok (.value (.slice (if c=l then ad else ad.map (·.add (l * i.esize))) (hgt - l) (c - l))) w:=by
        have hlo:=bnd_run h hl
        have hhi:=bnd_run h hh
        have hbounds:(Instr.sliceBounds true L.length c (lo.map a.eval) (hi.map a.eval) none).run Γ.P w=.ok (l,hgt,c) w:=by
         have hH:∀ q k n,hi=some q->a.eval q=.int k n->0<=n->n.toNat=hgt->(n<=(c:Int)):=fun q k n _ _ h0 h1=>by omega
         have hL':∀ n:Int,0<=n->n.toNat=l->n<=(hgt:Int):=fun n h0 h1=>by omega
         rcases hlo with ⟨rfl,hl0⟩ | ⟨q1,k1,n1,rfl,ev1,p1,p2⟩ <;> rcases hhi with ⟨rfl,hh0⟩ | ⟨q2,k2,n2,rfl,ev2,p3,p4⟩
         · simp at hl0 hh0; subst hl0; subst hh0; simp [Instr.sliceBounds]
         ·
          simp at hl0; subst hl0
          have:=hH q2 k2 n2 rfl ev2 p3 p4
          simp [Instr.sliceBounds,Instr.sliceBound,ev2,asIntOf,p3,this,p4]
         ·
          simp at hh0; subst hh0
          have:=hL' n1 p1 p2
          simp [Instr.sliceBounds,Instr.sliceBound,ev1,asIntOf,p1,this,p2]
         ·
          have t1:=hH q2 k2 n2 rfl ev2 p3 p4
          have t2:=hL' n1 p1 p2
          simp [Instr.sliceBounds,Instr.sliceBound,ev1,ev2,asIntOf,p1,p2,p3,p4,t1,t2]
        simp only [execOp,ho,e1,Instr.sliceAt,Sem.run_bind,run_underlying u1,Result.andThen_ok,Instr.slice,Option.map_none,hbounds,run_sizeOf' u2,Sem.run_pure,u3]
       have plain:∀ k',(∀ b n,eva s.t x ≠ .own b n)->eva s.t x=.sl k' L\/(eva s.t x=.nils/\L=[])->k'=k->r=⟨.sl k ((L.take hgt).drop l),[],[],[],none⟩->SimR Γ s μ a w o r:=by
        intro k' _ hX hkk hrr
        subst hrr
        subst hkk
        refine simV h hd hrun ?_
        rcases hX with hX | ⟨hX,hL0⟩
        ·
         rw [hX,e1] at hx
         exact sl_cut hx hb1 hb2 hk
        ·
         rw [hX,e1] at hx
         subst hL0
         have hnv:=hx.nils_inv
         simp only [Value.slice.injEq] at hnv
         obtain ⟨rfl,_,rfl⟩:=hnv
         refine sl_cut (μ':=μ) (H:=s.H) (n:=0) (@Rep.sl w _ μ s.H k' [] none 0 (fun _ _=>undef) (Nat.le_refl _) (Nat.zero_le _) (by simp) (by simp) (by simp)) hb1 hb2 hk
       cases hX:eva s.t x with
       | own b n=>
        rw [hX] at hr hc hx
        simp only [content] at hc
        cases hbx:s.H b with
        | none=>rw [hbx] at hc; cases hc
        | some y=>
         rw [hbx] at hc
         cases y <;> simp only [rowOf] at hc <;> try (cases hc; done)
         rename_i et sz Lr z
         cases hc
         simp only at hr
         have hx2:=hx
         generalize hval:a.eval x=y at hx2
         rw [e1] at hval
         cases hx2 with
         | ownd _ _ _ _ hH _=>rw [hbx] at hH; cases hH
         | own _ _ _ _ _ _ _ hH hn=>
          rw [hbx] at hH; cases hH
          have hlt:(Lr.take n).length=n:=by rw [List.length_take]; omega
          split at hr
          ·
           rename_i hl0
           subst hl0
           cases hr
           refine simV h hd hrun ?_
           have hv:Value.slice (if c=0 then ad else ad.map (·.add (0 * i.esize))) (hgt - 0) (c - 0)=sliceV (μ b) hgt:=by
            rw [hlt] at hval hb2
            cases hμ:μ b with
            | none=>
             rw [hμ] at hval
             simp only [sliceV,Value.slice.injEq] at hval
             obtain ⟨rfl,h0,rfl⟩:=hval
             simp [sliceV]
             omega
            | some gc=>
             rw [hμ] at hval
             simp only [sliceV,Value.slice.injEq] at hval
             obtain ⟨rfl,_,rfl⟩:=hval
             simp [sliceV,Addr.add_lit]
           rw [hv]
           exact .own _ _ _ _ _ _ _ hbx (by rw [hlt] at hb2; omega)
          ·
           rename_i hl0
           rw [hbx] at hr
           simp only [frzB] at hr
           cases hr
           intro H1 hH1 K Q hK _
           simp only [hnews,Option.some.injEq] at hH1
           subst hH1
           refine wp_value hrun (hK rfl μ _ _ ?_)
           have hR:=h.freeze hbx
           refine hR.put hd ?_
           have hrow:=row_rep (Γ:=Γ) (s:=⟨s.t,hput s.H b (.row et k Lr true)⟩) hR (b:=b) (hput_same _ _ _) hn (M:=forb Γ.Mx μ (hput s.H b (.row et k Lr true))) (fun g hg=>hg) (fun g c hg=>frozen_not hR (b:=b) (hput_same _ _ _) hg) (μ':=μ) (H':=s.H)
           rw [<-hval] at hrow
           exact sl_cut hrow hb1 hb2 hk
       | sl k' L'=>rw [hX] at hr hc; simp only [content] at hc; cases hc; exact plain k (by rw [hX]; simp) (.inl hX) rfl (val_inj hr)
       | nils=>
        rw [hX] at hr hc hx
        simp only [content] at hc
        cases hc
        have hrr:=val_inj hr
        subst hrr
        refine simV h hd hrun ?_
        have hnv:=hx.nils_inv
        rw [e1] at hnv
        simp only [Value.slice.injEq] at hnv
        obtain ⟨rfl,_,rfl⟩:=hnv
        have:hgt - l=0:=by simp at hb2; omega
        rw [this]
        simp only [Option.map_none,ite_self,Nat.zero_sub]
        exact .nils _
       | _=>rw [hX] at hc; simp only [content] at hc; cases hc
      · cases hr
     · cases hr
end
section
variable {Γ:Ctx} {s:St} {μ:Lay} {a:Act} {w:World} {o:Oper}
theorem Rel.moved (h:Rel Γ s μ a w) {b b':Bid} (hn:s.H b=none) (h0:b.1=0) {e0:TypeId} {sz0:Nat} {L0:List (List AV)} (hb':s.H b'=some (.row e0 sz0 L0 false)) {w':World} {p':Option (Nat × Nat)} {x:Box}
  (hos:w'.os=w.os) (htape:w'.tape=w.tape) (hout:w'.output=w.output) (hsize:w.heap.size<=w'.heap.size) (hnf:NF w w') (hother:∀ k,k < w.heap.size->(∀ c,μ b' ≠ some (k,c))->w'.heap[k]?=w.heap[k]?)
  (hp:∀ g c,p'=some (g,c)->(∃ c',μ b'=some (g,c'))\/w.heap.size<=g)
  (hx:∀ M μ' H',(∀ k,k < w.heap.size->¬ forb Γ.Mx μ s.H k->¬ M k/\w'.heap[k]?=w.heap[k]?)->HLe s.H H'->(∀ b,s.H b ≠ none->μ' b=μ b)->μ' b=p'->BoxAt w' M μ' H' b x) :
  Rel Γ ⟨s.t,hput (hput s.H b x) b' .dead⟩ (lput μ b p') a w':=by
 have hbb:b ≠ b':=by rintro rfl; rw [hn] at hb'; cases hb'
 have hne:=lput_ne (μ:=μ) (p:=p') hn
 have hle:HLe s.H (hput (hput s.H b x) b' .dead):=by
  intro i
  by_cases e1:i=b'
  · subst e1; rw [hb']; exact .inr (by simp [hput])
  ·
   by_cases e2:i=b
   · subst e2; rw [hn]; trivial
   ·
    have:hput (hput s.H b x) b' .dead i=s.H i:=by simp [hput,e1,e2]
    rw [this]; exact HLe.refl s.H i
 have hfb:∀ g c,μ b'=some (g,c)->forb Γ.Mx μ s.H g:=fun g c hg=>.inr ⟨b',_,c,hb',rfl,hg⟩
 have hforb:∀ k,k < w.heap.size->forb Γ.Mx (lput μ b p') (hput (hput s.H b x) b' .dead) k->forb Γ.Mx μ s.H k:=by
  rintro k hk (hk' | ⟨i,y,c',q1,q2,q3⟩)
  · exact .inl hk'
  ·
   by_cases e1:i=b'
   · subst e1; simp only [hput,if_true,Option.some.injEq] at q1; subst q1; simp [Box.hot] at q2
   ·
    by_cases e2:i=b
    ·
     subst e2
     simp only [lput,if_true] at q3
     rcases hp k c' q3 with ⟨c'',h'⟩ | h'
     · exact hfb k c'' h'
     · omega
    ·
     simp only [hput,e1,e2,if_false] at q1
     simp only [lput,e2,if_false] at q3
     exact .inr ⟨i,y,c',q1,q2,q3⟩
 have hm:∀ k,k < w.heap.size->¬ forb Γ.Mx μ s.H k->¬ forb Γ.Mx (lput μ b p') (hput (hput s.H b x) b' .dead) k/\w'.heap[k]?=w.heap[k]?:=fun k hk hfk=>
  ⟨fun hh=>hfk (hforb k hk hh),hother k hk fun c hc=>hfk (hfb k c hc)⟩
 refine h.next hle hne ⟨hos,htape,hout,hsize,fun k hk hn=>hother k (Nat.lt_of_lt_of_le hk h.hw.size) fun c hc=>?_,hnf⟩ hm ?_ ?_ ?_ ?_
 · exact (h.hf b' _ k c hb' hc rfl).elim (fun h=>by omega) hn
 ·
  intro i y hy
  by_cases e1:i=b'
  · subst e1; simp only [hput,if_true,Option.some.injEq] at hy; exact .inl hy.symm
  ·
   by_cases e2:i=b
   ·
    subst e2
    simp only [hput,e1,if_false,if_true,Option.some.injEq] at hy
    subst hy
    exact hx _ _ _ hm hle hne (by simp [lput])
   ·
    simp only [hput,e1,e2,if_false] at hy
    exact (h.hb i y hy).mono hy hm hle hne fun g c hl hg=>hother g (h.lt hy hl hg) fun c' hc'=>e1 (h.hi b' i _ y g c' c hb' hy rfl hl hc' hg).symm
 ·
  intro b1 b2 x1 x2 g' c1 c2 q1 q2 q3 q4 q5 q6
  by_cases d1:b1=b'
  · subst d1; simp only [hput,if_true,Option.some.injEq] at q1; subst q1; simp [Box.hot] at q3
  ·
   by_cases d2:b2=b'
   · subst d2; simp only [hput,if_true,Option.some.injEq] at q2; subst q2; simp [Box.live] at q4
   ·
    by_cases e1:b1=b <;> by_cases e2:b2=b
    · rw [e1,e2]
    ·
     subst e1
     simp only [hput,d2,e2,if_false] at q2
     simp only [lput,if_true] at q5
     simp only [lput,e2,if_false] at q6
     rcases hp g' c1 q5 with ⟨c'',h'⟩ | h'
     · exact absurd (h.hi b' b2 _ x2 g' c'' c2 hb' q2 rfl q4 h' q6).symm d2
     · have:=h.lt q2 q4 q6; omega
    ·
     subst e2
     simp only [hput,d1,e1,if_false] at q1
     simp only [lput,if_true] at q6
     simp only [lput,e1,if_false] at q5
     rcases hp g' c2 q6 with ⟨c'',h'⟩ | h'
     · exact absurd (h.hi b1 b' x1 _ g' c1 c'' q1 hb' q3 rfl q5 h') d1
     · have:=h.lt q1 (hot_live q3) q5; omega
    ·
     simp only [hput,d1,d2,e1,e2,if_false] at q1 q2
     simp only [lput,e1,e2,if_false] at q5 q6
     exact h.hi b1 b2 x1 x2 g' c1 c2 q1 q2 q3 q4 q5 q6
 ·
  intro i y g' c' q1 q2 q3
  by_cases d1:i=b'
  · subst d1; simp only [hput,if_true,Option.some.injEq] at q1; subst q1; simp [Box.live] at q3
  ·
   by_cases e1:i=b
   ·
    subst e1
    simp only [lput,if_true] at q2
    rcases hp g' c' q2 with ⟨c'',h'⟩ | h'
    · exact h.hf b' _ g' c'' hb' h' rfl
    · have:=h.hw.size; omega
   ·
    simp only [hput,d1,e1,if_false] at q1
    simp only [lput,e1,if_false] at q2
    exact h.hf i y g' c' q1 q2 q3
 ·
  intro i y q1 q2
  have e1:(1,i) ≠ b:=by rintro rfl; cases h0
  by_cases d1:(1,i)=b'
  · subst d1; simp only [hput,if_true,Option.some.injEq] at q1; subst q1; simp [Box.live] at q2
  ·
   simp only [hput,d1,e1,if_false] at q1
   simp only [lput,e1,if_false]
   exact h.hp i y q1 q2
theorem Rel.newnil (h:Rel Γ s μ a w) {b:Bid} (hn:s.H b=none) (h0:b.1=0) {e:TypeId} {sz:Nat} (hsz:0 < sz):Rel Γ ⟨s.t,hput s.H b (.row e sz [] false)⟩ (lput μ b none) a w:=by
 have hne:=lput_ne (μ:=μ) (p:=none) hn
 have hforb:∀ k,forb Γ.Mx (lput μ b none) (hput s.H b (.row e sz [] false)) k->forb Γ.Mx μ s.H k:=by
  rintro k (hk' | ⟨i,y,c',q1,q2,q3⟩)
  · exact .inl hk'
  ·
   by_cases e2:i=b
   · subst e2; simp [lput] at q3
   ·
    simp only [hput,e2,if_false] at q1
    simp only [lput,e2,if_false] at q3
    exact .inr ⟨i,y,c',q1,q2,q3⟩
 have hm:∀ k,k < w.heap.size->¬ forb Γ.Mx μ s.H k->¬ forb Γ.Mx (lput μ b none) (hput s.H b (.row e sz [] false)) k/\w.heap[k]?=w.heap[k]?:=fun k hk hfk=>⟨fun hh=>hfk (hforb k hh),rfl⟩
 refine h.next (HLe.hput hn) hne (BelowX.refl _ _ _) hm ?_ ?_ ?_ ?_
 ·
  intro i y hy
  by_cases e2:i=b
  ·
   subst e2
   simp only [hput,if_true,Option.some.injEq] at hy
   subst hy
   exact .inr (.inr ⟨by simp [lput],e,sz,false,rfl,hsz⟩)
  ·
   simp only [hput,e2,if_false] at hy
   exact (h.hb i y hy).mono hy hm (HLe.hput hn) hne fun g c hl hg=>rfl
 ·
  intro b1 b2 x1 x2 g' c1 c2 q1 q2 q3 q4 q5 q6
  by_cases e1:b1=b
  · subst e1; simp [lput] at q5
  ·
   by_cases e2:b2=b
   · subst e2; simp [lput] at q6
   ·
    simp only [hput,e1,e2,if_false] at q1 q2
    simp only [lput,e1,e2,if_false] at q5 q6
    exact h.hi b1 b2 x1 x2 g' c1 c2 q1 q2 q3 q4 q5 q6
 ·
  intro i y g' c' q1 q2 q3
  by_cases e1:i=b
  · subst e1; simp [lput] at q2
  ·
   simp only [hput,e1,if_false] at q1
   simp only [lput,e1,if_false] at q2
   exact h.hf i y g' c' q1 q2 q3
 ·
  intro i y q1 q2
  have e1:(1,i) ≠ b:=by rintro rfl; cases h0
  simp only [hput,e1,if_false] at q1
  simp only [lput,e1,if_false]
  exact h.hp i y q1 q2
theorem append_nf {P:Program} (w:World) (base:Nat) (t ty e:TypeId) (i:TypeInfo) (z:Value) (size bytes:Nat) (ht:P.underlying t=some (.slice e)) (hi:P.info? e=some i) (hz:i.zero=some z)
  (hsize:i.size=size) (hby:i.bytes=bytes) (hzs:z.cells.size=size)
  (v:Value) (n:Nat) (xs:List Value) (hown:w.ownsRow base e size v n xs)
  (a:Addr) (m:Nat) (hm:0 < m) (c:Nat) (news:List Value) (hl:news.length=m * size) (hnews:∀ j u,news[j]?=some u->w.cell? (a.add j)=some u) (h1:∀ u ∈ news,u.oneCell'=true)
  (h63:n + m<=maxLen) (hbytes:(n + m) * bytes<=140737488355328) {v':Value} {w':World} (hrun:(Builtin.append_ #[t,t] ty #[v,.slice (some a) m c]).run P w=.ok v' w'):NF w w':=by
 subst hsize
 subst hby
 have hsmall:n + m<=9223372036854775807:=by simp only [maxLen] at h63; omega
 have key:∀ cs,NF w (w.drew.alloc (.cells cs e)):=fun cs=>(NF.heap (w:=w) (w':=w.drew) rfl).trans (NF.alloc _ _ _)
 rcases hown.2 with ⟨rfl,rfl⟩ | ⟨g,cap,cur,rfl,hbg,hg,hnc,hcm,hcs,htake⟩
 ·
  have hr:=run_append_nil (P:=P) w t ty e i z ht hi hz a m c news hl hnews (by omega) (by omega) (by have hb:=hbytes; simp only [Nat.zero_add] at hb; omega)
  rw [hr] at hrun
  cases hrun
  exact key _
 ·
  by_cases hroom:n + m<=cap
  ·
   have hfit:n * i.size + news.length<=cur.size:=by rw [hl,hcs,<-Nat.add_mul]; exact Nat.mul_le_mul_right _ hroom
   have hr:=run_append_room (P:=P) w t ty e i ht hi g n cap cur hg a m c news hl hnews h1 hroom hfit
   rw [hr] at hrun
   cases hrun
   exact NF.set (setRow_heap w g cur _ e _ hg) (fun k hk=>setRow_other w g k _ (fun e=>hk e))
  ·
   have holds:∀ j u,xs[j]?=some u->w.cell? ((⟨g,0,none⟩:Addr).add j)=some u:=hown.cells (g:=g) rfl
   have hr:=run_append_grow (P:=P) w t ty e i z ht hi hz ⟨g,0,none⟩ n cap xs hown.1 holds a m c news hl hnews (by omega) (by omega) (growslice_fits (by omega) hbytes)
   rw [hr] at hrun
   cases hrun
   exact key _
theorem run_append_no {P:Program} (t ty e:TypeId) (i:TypeInfo) (ht:P.underlying t=some (.slice e)) (hi:P.info? e=some i) (hts:∀ k,P.underlying t ≠ some (.int k))
  (base:Option Addr) (n c:Nat) (hb:n<=c) (ad:Option Addr) (m:Nat) (hbase:base=none->n=0):(Builtin.append_ #[t,t] ty #[.slice base n c,.slice ad 0 m]).run P w=.ok (.slice base n c) w:=by
 cases base with
 | none=>cases ad <;> simp [Builtin.append_,run_underlying ht,run_sizeOf' hi,Builtin.lenOf,hb,Builtin.firstCells,loadCells,loadCellsFrom]
 | some b=>cases ad <;> simp [Builtin.append_,run_underlying ht,run_sizeOf' hi,Builtin.lenOf,hb,Builtin.firstCells,loadCells,loadCellsFrom,storeCells]
theorem sim_append (h:Rel Γ s μ a w) (hd:∀ t,o.dst=some t->t < Γ.n) {y x:Operand} {t:TypeId} (ho:o.op=.call ⟨.builtin .append,#[y,x],#[t,t]⟩) {r:R}
    (hr:vAppend s.H (nid o.dst) (eva s.t y) (TI.of Γ.P t) ((TI.of Γ.P t).bind fun i=>TI.of Γ.P i.etype) (content s.H (eva s.t x))=some r):SimR Γ s μ a w o r:=by
  have hy:=eva_rep h y
  have hx:=eva_rep h x
  cases hT:TI.of Γ.P t with
  | none=>rw [hT] at hr; simp [vAppend] at hr
  | some i=>
    rw [hT] at hr
    simp only [Option.bind_some] at hr
    cases hE:TI.of Γ.P i.etype with
    | none=>rw [hE] at hr; simp [vAppend] at hr
    | some ie=>
      rw [hE] at hr
      cases hc:content s.H (eva s.t x) with
      | none=>rw [hc] at hr; simp [vAppend] at hr
      | some kM=>
        obtain ⟨k,M⟩:=kM
        rw [hc] at hr
        simp only [vAppend] at hr
        split at hr
        · rename_i hcond
          obtain ⟨hs,hzl,hpos,hk⟩:=hcond
          obtain ⟨e,qe,de,u1,u2,u3,u4,u5,u6⟩:=slice_info hT hs
          have hz:¬ ie.zero.isEmpty=true:=by
            rw [List.isEmpty_iff]
            intro h0
            rw [h0] at hzl
            simp at hzl
            omega
          obtain ⟨q,z,q1,q2,q3,q4,_⟩:=zero_rep (w:=w) (μ:=μ) (M:=forb Γ.Mx μ s.H) (H:=noH) hE hz
          rw [u5] at q1
          have hqe:q=qe:=by rw [u2] at q1; exact (Option.some.inj q1).symm
          subst hqe
          obtain ⟨ad,c,news,e1,e2,e3,e4,e5,e6⟩:=content_vals h hx hc
          have hrunop:∀ v' w',(Builtin.append_ #[t,t] o.type #[a.eval y,a.eval x]).run Γ.P w=.ok v' w'->(execOp a.eval o).run Γ.P w=.ok (.value v') w':=by
            intro v' w' hq
            simp only [execOp,ho,resolve,invoke,builtin,Sem.run_bind,Sem.run_pure,Result.andThen_ok,List.map_toArray,List.map_cons,List.map_nil,hq]
          have hnews:∀ uu ∈ news,uu.oneCell'=true:=by
            intro uu hu
            obtain ⟨j,hj,rfl⟩:=List.mem_iff_getElem.1 hu
            obtain ⟨_,_,_,h1⟩:=e5 j news[j] (List.getElem?_eq_getElem hj)
            exact h1
          have elemsM:∀ {Mf μ':_} {w':World},(∀ g,g < w.heap.size->¬ forb Γ.Mx μ s.H g->¬ Mf g/\w'.heap[g]?=w.heap[g]?)->∀ (j l:Nat) (xs:List AV) (v:AV),M[j]?=some xs->xs[l]?=some v->∃ uu,news[j * k + l]?=some uu/\uu.oneCell'=true/\Rep w' Mf μ' noH v uu:=by
            intro Mf μ' w' hm j l xs v hj hl
            obtain ⟨uu,r1,r2,r3⟩:=e6 j l xs v hj hl
            exact ⟨uu,r1,r2,r3.mono hm (HLe.refl _) (fun b hb=>absurd rfl hb)⟩
          cases hY:eva s.t y <;> rw [hY] at hr hy <;> simp only at hr <;> try (cases hr; done)
          · split at hr
            · rename_i hb
              obtain ⟨hb1,hb2⟩:=hb
              cases hr
              have hyv:=hy.nils_inv
              intro H1 hH1 K Q hK _
              simp only [AE.hnews] at hH1
              split at hH1
              · rename_i hn
                cases hH1
                have hn':s.H (nid o.dst)=none:=by simpa using hn
                by_cases hM0:M=[]
                · subst hM0
                  refine wp_value (hrunop (.slice none 0 0) w ?_) (hK rfl (lput μ (nid o.dst) none) _ _ ?_)
                  · rw [hyv,e1]
                    exact run_append_no t _ e q u1 u2 (by rw [u1]; simp) none 0 0 (Nat.le_refl _) ad c (fun _=>rfl)
                  · have hR:=h.newnil hn' rfl (e:=i.etype) hpos
                    refine hR.put hd ?_
                    have:=@Rep.own w (forb Γ.Mx (lput μ (nid o.dst) none) (hput s.H (nid o.dst) (.row i.etype i.esize [] false))) (lput μ (nid o.dst) none) (hput s.H (nid o.dst) (.row i.etype i.esize [] false)) (nid o.dst) 0 _ _ _ _ (hput_same _ _ _) (Nat.zero_le _)
                    simpa [lput,sliceV] using this
                · have hm0:0 < M.length:=List.length_pos_iff.2 hM0
                  have hkk:k=i.esize:=hk.resolve_right hM0
                  have had:∃ ad',ad=some ad':=by
                    have hl0:0 < news.length:=by rw [e3,hkk]; exact Nat.mul_pos hm0 hpos
                    obtain ⟨ad',h1,_⟩:=e5 0 news[0] (List.getElem?_eq_getElem hl0)
                    exact ⟨ad',h1⟩
                  obtain ⟨ad',rfl⟩:=had
                  obtain ⟨v',w',hrun,hown,hgrow,_,_⟩:=run_append_own_at (P:=Γ.P) w w.heap.size t o.type e q z i.esize i.ebytes u1 u2 q2 u3.symm u6.symm (by rw [q4,hzl]) hpos (.slice none 0 0) 0 [] (World.ownsRow_nil _ _ _ _) ad' M.length c news (by rw [e3,hkk]) (fun j uu hj=>by obtain ⟨_,h1,h2,_⟩:=e5 j uu hj; cases h1; exact h2) hnews (by omega) (by simpa using hb1) (Nat.le_refl _)
                  simp only [Nat.zero_add,List.nil_append] at hown
                  rcases hown.2 with ⟨_,h0⟩ | ⟨g,cap,cur,rfl,hbg,hg,hnc,hcm,hcs,htake⟩
                  · omega
                  · have hbel:Below w.heap.size w w':=⟨hgrow.os,hgrow.tape,hgrow.output,hgrow.size,fun k hk=>hgrow.block k hk (by simp [Value.ownBlock])⟩
                    refine wp_value (hrunop _ _ (by rw [hyv,e1]; exact hrun)) (hK rfl (lput μ (nid o.dst) (some (g,cap))) _ _ ?_)
                    have hR:=h.newbox hn' rfl hbel (append_nf w w.heap.size t o.type e q z i.esize i.ebytes u1 u2 q2 u3.symm u6.symm (by rw [q4,hzl]) (.slice none 0 0) 0 [] (World.ownsRow_nil _ _ _ _) ad' M.length hm0 c news (by rw [e3,hkk]) (fun j uu hj=>by obtain ⟨_,h1,h2,_⟩:=e5 j uu hj; cases h1; exact h2) hnews (by omega) (by simpa using hb1) hrun) hbg hg (c:=cap) (x:=.row i.etype i.esize M false) (by
                      intro Mf μ' H' hMf hle hμ'
                      refine ⟨u5,hpos,fun xs hxs=>(e4 xs hxs).trans hkk,hcs,hnc,hcm,fun j l xs v hj hl=>?_⟩
                      obtain ⟨uu,r1,r2,r3⟩:=elemsM (Mf:=Mf) (μ':=μ') (w':=w') (fun g' hg' hf=>⟨hMf g' (Nat.lt_of_lt_of_le hg' hbel.size) (by omega) hf,hbel.block g' hg'⟩) j l xs v hj hl
                      refine ⟨uu,?_,r2,r3⟩
                      rw [<-hkk]
                      have hlt:=(List.getElem?_eq_some_iff.1 r1).1
                      rw [<-htake,List.getElem?_take] at r1
                      split at r1
                      · simpa using r1
                      · cases r1)
                    refine hR.put hd ?_
                    have:=@Rep.own w' (forb Γ.Mx (lput μ (nid o.dst) (some (g,cap))) (hput s.H (nid o.dst) (.row i.etype i.esize M false))) (lput μ (nid o.dst) (some (g,cap))) (hput s.H (nid o.dst) (.row i.etype i.esize M false)) (nid o.dst) M.length _ _ _ _ (hput_same _ _ _) (Nat.le_refl _)
                    simpa [lput,sliceV] using this
              · cases hH1
            · cases hr
          · rename_i b' n
            split at hr
            · rename_i hb
              obtain ⟨hb1,hb2⟩:=hb
              cases hbx:s.H b' with
              | none=>rw [hbx] at hr; simp [appO] at hr
              | some yb=>
                rw [hbx] at hr
                cases yb with
                | obj cs=>simp [appO] at hr
                | dead=>simp [appO] at hr
                | row er szr L zf=>
                  cases zf with
                  | true=>simp [appO] at hr
                  | false=>
                    simp only [appO] at hr
                    split at hr
                    · rename_i hes
                      obtain ⟨rfl,rfl⟩:=hes
                      cases hr
                      intro H1 hH1 K Q hK _
                      simp only [AE.hnews] at hH1
                      split at hH1
                      · rename_i hn
                        cases hH1
                        have hn':s.H (nid o.dst)=none:=by simpa using hn
                        generalize hyval:a.eval y=yv at hy
                        cases hy with
                        | ownd _ _ _ _ hH _=>rw [hbx] at hH; cases hH
                        | own _ _ _ _ _ _ _ hH hnn=>
                          rw [hbx] at hH; cases hH
                          have hlt:(L.take n).length=n:=by rw [List.length_take]; omega
                          have fin:∀ (w':World) (p':Option (Nat × Nat)),Rel Γ ⟨s.t,hput (hput s.H (nid o.dst) (.row i.etype i.esize (L.take n++M) false)) b' .dead⟩ (lput μ (nid o.dst) p') a w' ->
                              Rel Γ ⟨tput s.t o.dst (.own (nid o.dst) (n + M.length)),hput (hput s.H (nid o.dst) (.row i.etype i.esize (L.take n++M) false)) b' .dead⟩ (lput μ (nid o.dst) p') (a.put o.dst (sliceV p' (n + M.length))) w':=by
                            intro w' p' hR
                            refine hR.put hd ?_
                            have hbb:nid o.dst ≠ b':=by intro he; rw [he,hbx] at hn'; cases hn'
                            have:=@Rep.own w' (forb Γ.Mx (lput μ (nid o.dst) p') (hput (hput s.H (nid o.dst) (.row i.etype i.esize (L.take n++M) false)) b' .dead)) (lput μ (nid o.dst) p') (hput (hput s.H (nid o.dst) (.row i.etype i.esize (L.take n++M) false)) b' .dead) (nid o.dst) (n + M.length) i.etype i.esize (L.take n++M) false (by simp [hput,hbb]) (by rw [List.length_append,hlt]; omega)
                            simpa [lput] using this
                          rcases h.hb b' _ hbx with hbad | ⟨g,c0,cur,e0,p1,p2,p3⟩ | ⟨p1,e0,sz0,z0,p2,p3⟩
                          · cases hbad
                          · obtain ⟨rfl,p3,p4,p5,p6,p7,p8⟩:=p3
                            rw [p1] at hyval
                            by_cases hM0:M=[]
                            · subst hM0
                              refine wp_value (hrunop (sliceV (some (g,c0)) (n + 0)) w ?_) (hK rfl (lput μ (nid o.dst) (some (g,c0))) _ _ (fin w (some (g,c0)) ?_))
                              · rw [hyval,e1]
                                exact run_append_no t _ e q u1 u2 (by rw [u1]; simp) _ n c0 (by omega) ad c (by simp)
                              · refine h.moved hn' rfl hbx rfl rfl rfl (Nat.le_refl _) (NF.refl _) (fun _ _ _=>rfl) (fun g' c' hg'=>by cases hg'; exact .inl ⟨c0,p1⟩) fun Mf μ' H' hMf hle hμ' hμb=>?_
                                refine .inr (.inl ⟨g,c0,cur,i.etype,hμb,p2,rfl,p3,fun xs hxs=>?_,p5,by simp; omega,p7,fun j l xs v hj hl=>?_⟩)
                                · simp only [List.append_nil] at hxs
                                  exact p4 xs (List.mem_of_mem_take hxs)
                                · simp only [List.append_nil,List.getElem?_take] at hj
                                  split at hj
                                  · obtain ⟨uu,r1,r2,r3⟩:=p8 j l xs v hj hl
                                    exact ⟨uu,r1,r2,r3.mono hMf (HLe.refl _) (fun b hb=>absurd rfl hb)⟩
                                  · cases hj
                            · have hm0:0 < M.length:=List.length_pos_iff.2 hM0
                              have hkk:k=i.esize:=hk.resolve_right hM0
                              have had:∃ ad',ad=some ad':=by
                                have hl0:0 < news.length:=by rw [e3,hkk]; exact Nat.mul_pos hm0 hpos
                                obtain ⟨ad',h1,_⟩:=e5 0 news[0] (List.getElem?_eq_getElem hl0)
                                exact ⟨ad',h1⟩
                              obtain ⟨ad',rfl⟩:=had
                              have hnc:n<=c0:=by omega
                              have hown0:w.ownsRow 0 e i.esize (.slice (some ⟨g,0,none⟩) n c0) n (cur.toList.take (n * i.esize)):=by
                                refine ⟨?_,.inr ⟨g,c0,cur,rfl,Nat.zero_le _,by rw [<-u5]; exact p2,hnc,p7,p5,rfl⟩⟩
                                have:n * i.esize<=cur.size:=by rw [p5]; exact Nat.mul_le_mul_right _ hnc
                                simp; omega
                              obtain ⟨v',w',hrun,hown,hgrow,_,hat⟩:=run_append_own_at (P:=Γ.P) w 0 t o.type e q z i.esize i.ebytes u1 u2 q2 u3.symm u6.symm (by rw [q4,hzl]) hpos _ n _ hown0 ad' M.length c news (by rw [e3,hkk]) (fun j uu hj=>by obtain ⟨_,h1,h2,_⟩:=e5 j uu hj; cases h1; exact h2) hnews (by omega) hb1 (Nat.zero_le _)
                              rcases hown.2 with ⟨_,h0⟩ | ⟨g',cap,cur',rfl,hbg,hg,hncap,hcm,hcs,htake⟩
                              · omega
                              · refine wp_value (hrunop _ _ (by rw [hyval,e1]; exact hrun)) (hK rfl (lput μ (nid o.dst) (some (g',cap))) _ _ (fin w' (some (g',cap)) ?_))
                                refine h.moved hn' rfl hbx hgrow.os hgrow.tape hgrow.output hgrow.size (append_nf w 0 t o.type e q z i.esize i.ebytes u1 u2 q2 u3.symm u6.symm (by rw [q4,hzl]) _ n _ hown0 ad' M.length hm0 c news (by rw [e3,hkk]) (fun j uu hj=>by obtain ⟨_,h1,h2,_⟩:=e5 j uu hj; cases h1; exact h2) hnews (by omega) hb1 hrun) (fun k' hk' hne=>hgrow.block k' hk' (by simp only [Value.ownBlock,ne_eq,Option.some.injEq]; rintro rfl; exact hne c0 p1)) (fun g'' c'' hg''=>?_) fun Mf μ' H' hMf hle hμ' hμb=>?_
                                · cases hg''
                                  simp only [Value.ownBlock,Option.some.injEq] at hat
                                  rcases hat with rfl | rfl
                                  · exact .inl ⟨c0,p1⟩
                                  · exact .inr (Nat.le_refl _)
                                · refine .inr (.inl ⟨g',cap,cur',i.etype,hμb,by rw [u5]; exact hg,rfl,p3,fun xs hxs=>?_,hcs,by rw [List.length_append,hlt]; omega,hcm,fun j l xs v hj hl=>?_⟩)
                                  · rcases List.mem_append.1 hxs with hxs | hxs
                                    · exact p4 xs (List.mem_of_mem_take hxs)
                                    · exact (e4 xs hxs).trans hkk
                                  · have hcell:∀ (m:Nat) (uu:Value),(cur.toList.take (n * i.esize)++news)[m]?=some uu->cur'[m]?=some uu:=by
                                      intro m uu hm
                                      rw [<-htake,List.getElem?_take] at hm
                                      split at hm
                                      · simpa using hm
                                      · cases hm
                                    have hlen1:(cur.toList.take (n * i.esize)).length=n * i.esize:=hown0.1
                                    by_cases hjn:j < n
                                    · rw [List.getElem?_append_left (by omega),List.getElem?_take,if_pos hjn] at hj
                                      obtain ⟨uu,r1,r2,r3⟩:=p8 j l xs v hj hl
                                      have hll:l < i.esize:=by
                                        have:=(List.getElem?_eq_some_iff.1 hl).1
                                        rw [p4 xs (List.mem_of_getElem? hj)] at this
                                        exact this
                                      have hidx:j * i.esize + l < n * i.esize:=by
                                        calc j * i.esize + l < j * i.esize + i.esize:=by omega
                                          _=(j + 1) * i.esize:=(Nat.succ_mul _ _).symm
                                          _<=n * i.esize:=Nat.mul_le_mul_right _ hjn
                                      refine ⟨uu,hcell _ _ ?_,r2,r3.mono hMf (HLe.refl _) (fun b hb=>absurd rfl hb)⟩
                                      rw [List.getElem?_append_left (by omega),List.getElem?_take,if_pos hidx]
                                      simpa using r1
                                    · rw [List.getElem?_append_right (by omega),hlt] at hj
                                      obtain ⟨uu,r1,r2,r3⟩:=elemsM (Mf:=Mf) (μ':=μ') (w':=w') hMf (j - n) l xs v hj hl
                                      refine ⟨uu,hcell _ _ ?_,r2,r3⟩
                                      have hjm:j * i.esize=n * i.esize + (j - n) * i.esize:=by rw [<-Nat.add_mul]; congr 1; omega
                                      rw [List.getElem?_append_right (by omega),hlen1,<-r1,hkk]
                                      congr 1
                                      omega
                          · cases p2
                            have hn0:n=0:=by simpa using hnn
                            subst hn0
                            rw [p1] at hyval
                            by_cases hM0:M=[]
                            · subst hM0
                              refine wp_value (hrunop (sliceV none (0 + 0)) w ?_) (hK rfl (lput μ (nid o.dst) none) _ _ (fin w none ?_))
                              · rw [hyval,e1]
                                exact run_append_no t _ e q u1 u2 (by rw [u1]; simp) none 0 0 (Nat.le_refl _) ad c (fun _=>rfl)
                              · exact h.moved hn' rfl hbx rfl rfl rfl (Nat.le_refl _) (NF.refl _) (fun _ _ _=>rfl) (fun g' c' hg'=>by cases hg') fun Mf μ' H' hMf hle hμ' hμb=>.inr (.inr ⟨hμb,i.etype,i.esize,false,rfl,hpos⟩)
                            · have hm0:0 < M.length:=List.length_pos_iff.2 hM0
                              have hkk:k=i.esize:=hk.resolve_right hM0
                              have had:∃ ad',ad=some ad':=by
                                have hl0:0 < news.length:=by rw [e3,hkk]; exact Nat.mul_pos hm0 hpos
                                obtain ⟨ad',h1,_⟩:=e5 0 news[0] (List.getElem?_eq_getElem hl0)
                                exact ⟨ad',h1⟩
                              obtain ⟨ad',rfl⟩:=had
                              obtain ⟨v',w',hrun,hown,hgrow,_,_⟩:=run_append_own_at (P:=Γ.P) w w.heap.size t o.type e q z i.esize i.ebytes u1 u2 q2 u3.symm u6.symm (by rw [q4,hzl]) hpos (.slice none 0 0) 0 [] (World.ownsRow_nil _ _ _ _) ad' M.length c news (by rw [e3,hkk]) (fun j uu hj=>by obtain ⟨_,h1,h2,_⟩:=e5 j uu hj; cases h1; exact h2) hnews (by omega) hb1 (Nat.le_refl _)
                              rcases hown.2 with ⟨_,h0⟩ | ⟨g',cap,cur',rfl,hbg,hg,hncap,hcm,hcs,htake⟩
                              · omega
                              · refine wp_value (hrunop _ _ (by rw [hyval,e1]; exact hrun)) (hK rfl (lput μ (nid o.dst) (some (g',cap))) _ _ (fin w' (some (g',cap)) ?_))
                                refine h.moved hn' rfl hbx hgrow.os hgrow.tape hgrow.output hgrow.size (append_nf w w.heap.size t o.type e q z i.esize i.ebytes u1 u2 q2 u3.symm u6.symm (by rw [q4,hzl]) (.slice none 0 0) 0 [] (World.ownsRow_nil _ _ _ _) ad' M.length hm0 c news (by rw [e3,hkk]) (fun j uu hj=>by obtain ⟨_,h1,h2,_⟩:=e5 j uu hj; cases h1; exact h2) hnews (by omega) hb1 hrun) (fun k' hk' hne=>hgrow.block k' hk' (by simp [Value.ownBlock])) (fun g'' c'' hg''=>by cases hg''; exact .inr hbg) fun Mf μ' H' hMf hle hμ' hμb=>?_
                                refine .inr (.inl ⟨g',cap,cur',i.etype,hμb,by rw [u5]; exact hg,rfl,hpos,fun xs hxs=>(e4 xs (by simpa using hxs)).trans hkk,hcs,by simp; omega,hcm,fun j l xs v hj hl=>?_⟩)
                                simp only [List.take_nil,List.nil_append] at hj
                                obtain ⟨uu,r1,r2,r3⟩:=elemsM (Mf:=Mf) (μ':=μ') (w':=w') hMf j l xs v hj hl
                                refine ⟨uu,?_,r2,r3⟩
                                rw [<-hkk]
                                simp only [List.nil_append] at htake
                                rw [<-htake,List.getElem?_take] at r1
                                split at r1
                                · simpa using r1
                                · cases r1
                      · cases hH1
                    · cases hr
            · cases hr
        · cases hr
theorem zeroCells_at (z:Array Value) (n i j:Nat) (hi:i < n) (hj:j < z.size):(Builtin.zeroCells z n)[i * z.size + j]?=z[j]?:=by
 have h1:i * z.size + j < n * z.size:=by
  have:(i + 1) * z.size<=n * z.size:=Nat.mul_le_mul_right _ hi
  rw [Nat.add_mul,Nat.one_mul] at this
  omega
 have h2:(i * z.size + j) % z.size=j:=by rw [Nat.mul_comm,Nat.mul_add_mod,Nat.mod_eq_of_lt hj]
 simp only [Builtin.zeroCells,Array.getElem?_map,Array.getElem?_range,h1,if_true,Option.map_some,h2]
 rw [getElem!_pos z j hj,Array.getElem?_eq_getElem hj]
theorem sim_zeros (h:Rel Γ s μ a w) (hd:∀ t,o.dst=some t->t < Γ.n) {y x:Operand} {t t':TypeId} (ho:o.op=.call ⟨.builtin .append,#[y,x],#[t,t']⟩) {r:R}
  (hr:vZeros (nid o.dst) (eva s.t y) (eva s.t x) (TI.of Γ.P t) ((TI.of Γ.P t).bind fun i=>TI.of Γ.P i.etype) (TI.of Γ.P t')=some r):SimR Γ s μ a w o r:=by
 have hy:=eva_rep h y
 have hx:=eva_rep h x
 cases hT:TI.of Γ.P t with
 | none=>rw [hT] at hr; cases eva s.t y <;> cases eva s.t x <;> simp [vZeros] at hr
 | some i=>
  rw [hT] at hr
  simp only [Option.bind_some] at hr
  cases hE:TI.of Γ.P i.etype with
  | none=>rw [hE] at hr; cases eva s.t y <;> cases eva s.t x <;> simp [vZeros] at hr
  | some ie=>
   rw [hE] at hr
   cases hT':TI.of Γ.P t' with
   | none=>rw [hT'] at hr; cases eva s.t y <;> cases eva s.t x <;> simp [vZeros] at hr
   | some i'=>
    rw [hT'] at hr
    cases hY:eva s.t y <;> rw [hY] at hr hy <;> simp only [vZeros] at hr <;> try (cases hr; done)
    cases hX:eva s.t x <;> rw [hX] at hr hx <;> simp only at hr <;> try (cases hr; done)
    rename_i kn n
    split at hr
    ·
     rename_i hc
     obtain ⟨hs,hzl,hpos,hkd,hn0,hb1,hb2⟩:=hc
     obtain ⟨e,qe,de,u1,u2,u3,u4,u5,u6⟩:=slice_info hT hs
     have hz:¬ ie.zero.isEmpty=true:=by
      rw [List.isEmpty_iff]
      intro h0
      rw [h0] at hzl
      simp at hzl
      omega
     obtain ⟨q,z,q1,q2,q3,q4,q5⟩:=zero_rep (w:=w) (μ:=μ) (M:=forb Γ.Mx μ s.H) (H:=noH) hE hz
     rw [u5] at q1
     have hqe:q=qe:=by rw [u2] at q1; exact (Option.some.inj q1).symm
     subst hqe
     obtain ⟨q',d',v1,v2,_,_,_,_,_,_,_,_,_,hkind,_⟩:=TI.of_some hT'
     have hint:∃ k',Γ.P.underlying t'=some (.int k'):=by
      rw [hkind] at hkd
      cases d' <;> simp at hkd
      exact ⟨_,v2⟩
     obtain ⟨k',hint⟩:=hint
     cases hr
     have hyv:=hy.nils_inv
     have hxv:=hx.int_inv
     obtain ⟨m,rfl⟩:∃ m:Nat,n=(m:Int):=⟨n.toNat,by omega⟩
     simp only [Int.toNat_natCast] at hb1 ⊢
     have hm0:0 < m:=by omega
     have hrun:=Lib.run_append_nil_zeros (P:=Γ.P) w t t' o.type e q z kn k' u1 hint u2 q2 m hm0 (by omega) (by omega) (by rw [<-u6]; omega)
     have hzs:z.cells.size=i.esize:=by rw [q4,hzl]
     intro H1 hH1 K Q hK _
     simp only [AE.hnews] at hH1
     split at hH1
     ·
      rename_i hn
      cases hH1
      have hn':s.H (nid o.dst)=none:=by simpa using hn
      have hcap:m<=grownCap w m 0 e:=grownCap_ge ..
      have hcm:grownCap w m 0 e<=maxLen:=grownCap_le_maxLen w m 0 e (by simp only [maxLen]; omega)
      obtain ⟨o',ho'⟩:∃ o',o'=Obj.cells (Builtin.zeroCells z.cells m++Builtin.zeroCells z.cells (grownCap w m 0 e - m)) e (0,0):=⟨_,rfl⟩
      have hbel:Below w.heap.size w (w.drew.alloc o'):=((Below.refl _ w).drew).alloc (Nat.le_refl _) _
      have hcell:(w.drew.alloc o').heap[w.heap.size]?=some o':=heap_alloc_new w.drew o'
      have hrunop:(execOp a.eval o).run Γ.P w=.ok (.value (.slice (some ⟨w.heap.size,0,none⟩) m (grownCap w m 0 e))) (w.drew.alloc o'):=by
       simp only [execOp,ho,resolve,invoke,builtin,Sem.run_bind,Sem.run_pure,Result.andThen_ok,List.map_toArray,List.map_cons,List.map_nil,hyv,hxv,hrun,ho']
      refine wp_value hrunop (hK rfl (lput μ (nid o.dst) (some (w.heap.size,grownCap w m 0 e))) _ _ ?_)
      have hR:=h.newbox hn' rfl hbel ((NF.heap (w:=w) (w':=w.drew) rfl).trans (by rw [ho']; exact NF.alloc _ _ _)) (Nat.le_refl _) (hcell.trans (by rw [ho'])) (c:=grownCap w m 0 e) (x:=.row i.etype i.esize (List.replicate m ie.zero) false) (by
       intro Mf μ' H' hMf hle hμ'
       refine ⟨u5,hpos,fun xs hxs=>by rw [List.eq_of_mem_replicate hxs,hzl],?_,by simpa using hcap,hcm,fun j l xs v hj hl=>?_⟩
       ·
        rw [Array.size_append,size_zeroCells,size_zeroCells,hzs,<-Nat.add_mul]
        congr 1
        omega
       ·
        rw [List.getElem?_replicate] at hj
        split at hj
        ·
         rename_i hjm
         cases hj
         obtain ⟨uu,r1,r2,r3⟩:=q5.2 l v hl
         have hl':l < i.esize:=by rw [<-hzl]; exact (List.getElem?_eq_some_iff.1 hl).1
         refine ⟨uu,?_,r2,r3.mono (fun g' hg' hf=>⟨hMf g' (Nat.lt_of_lt_of_le hg' hbel.size) (by omega) hf,hbel.block g' hg'⟩) (HLe.refl _) (fun b hb=>absurd rfl hb)⟩
         rw [Array.getElem?_append_left,<-hzs,zeroCells_at _ _ _ _ hjm (by rw [hzs]; exact hl'),r1]
         rw [size_zeroCells,hzs]
         have:(j + 1) * i.esize<=m * i.esize:=Nat.mul_le_mul_right _ hjm
         rw [Nat.add_mul,Nat.one_mul] at this
         omega
        · cases hj)
      refine hR.put hd ?_
      have:=@Rep.own (w.drew.alloc o') (forb Γ.Mx (lput μ (nid o.dst) (some (w.heap.size,grownCap w m 0 e))) (hput s.H (nid o.dst) (.row i.etype i.esize (List.replicate m ie.zero) false))) (lput μ (nid o.dst) (some (w.heap.size,grownCap w m 0 e))) (hput s.H (nid o.dst) (.row i.etype i.esize (List.replicate m ie.zero) false)) (nid o.dst) m _ _ _ _ (hput_same _ _ _) (by simp)
      simpa [lput,sliceV] using this
     · cases hH1
    · cases hr
theorem sim_cap (h:Rel Γ s μ a w) (hd:∀ t,o.dst=some t->t < Γ.n) {x:Operand} {t:TypeId} (ho:o.op=.call ⟨.builtin .cap,#[x],#[t]⟩) {r:R}
  (hr:vCap (eva s.t x) (TI.of Γ.P t)=some r):SimR Γ s μ a w o r:=by
 have hx:=eva_rep h x
 cases hT:TI.of Γ.P t with
 | none=>rw [hT] at hr; cases eva s.t x <;> simp [vCap] at hr
 | some i=>
  rw [hT] at hr
  cases hX:eva s.t x <;> rw [hX] at hr hx <;> simp only [vCap] at hr <;> try (cases hr; done)
  split at hr
  ·
   rename_i hs
   have hrr:=val_inj hr
   subst hrr
   obtain ⟨e,qe,de,u1,u2,u3,u4,u5,u6⟩:=slice_info hT hs
   refine simV h hd (x:=.int .i64 0) ?_ (.int _ _ _)
   simp [execOp,ho,resolve,invoke,builtin,hx.nils_inv,Builtin.cap_,run_underlying u1]
   rfl
  · cases hr
end
def lab (k:Nat):Nat->List Box->List (Bid × Box)
 | _,[]=>[]
 | i,x :: l=>((k,i),x) :: lab k (i + 1) l
@[go_sem] theorem lab_nil (k i):lab k i []=[]:=rfl
@[go_sem] theorem lab_cons (k i x l):lab k i (x :: l)=((k,i),x) :: lab k (i + 1) l:=rfl
def hB (bx:List Box):Heap:=hOf (lab 1 0 bx)
def hE (hr:HR):Heap:=hOf (lab 1 0 hr.up++lab 2 0 hr.nw)
theorem hOf_lab (k:Nat) (k' j:Nat) (r:List (Bid × Box)):∀ (bx:List Box) (i:Nat),hOf (lab k i bx++r) (k',j)=if k'=k/\i<=j/\j < i + bx.length then bx[j - i]? else hOf r (k',j)
 | [],i=>by simp [lab]; intro _ _ h; omega
 | x :: l,i=>by
  have ih:=hOf_lab k k' j r l (i + 1)
  simp only [lab,List.cons_append,hOf,hput,ih,Prod.mk.injEq,List.length_cons]
  by_cases h1:k'=k
  ·
   by_cases h2:j=i
   · subst h2; simp [h1]
   ·
    by_cases h3:i + 1<=j/\j < i + 1 + l.length
    ·
     have:(x :: l)[j - i]?=l[j - (i + 1)]?:=by
      have:j - i=(j - (i + 1)) + 1:=by omega
      rw [this]; rfl
     rw [if_neg (by simp [h2]),if_pos ⟨h1,h3⟩,if_pos ⟨h1,by omega,by omega⟩,this]
    · rw [if_neg (by simp [h2]),if_neg (by simp; intro _ h; omega),if_neg (by simp; intro _ h; omega)]
  · simp [h1]
theorem hB_one (bx:List Box) (i:Nat):hB bx (1,i)=bx[i]?:=by
 have:=hOf_lab 1 1 i [] bx 0
 simp only [List.append_nil,true_and,Nat.zero_le,Nat.zero_add,Nat.sub_zero] at this
 unfold hB
 rw [this]
 split
 · rfl
 · rw [List.getElem?_eq_none (by omega)]; rfl
theorem hB_ne (bx:List Box) (k i:Nat) (h:k ≠ 1):hB bx (k,i)=none:=by
 have:=hOf_lab 1 k i [] bx 0
 simp only [List.append_nil] at this
 unfold hB
 rw [this,if_neg (by simp [h])]; rfl
theorem hE_one (hr:HR) (i:Nat):hE hr (1,i)=hr.up[i]?:=by
 have:=hOf_lab 1 1 i (lab 2 0 hr.nw) hr.up 0
 have h2:=hOf_lab 2 1 i [] hr.nw 0
 simp only [List.append_nil] at h2
 unfold hE
 rw [this,h2]
 simp only [true_and,Nat.zero_le,Nat.zero_add,Nat.sub_zero]
 split
 · rfl
 · rw [if_neg (by simp),List.getElem?_eq_none (by omega)]; rfl
theorem hE_two (hr:HR) (i:Nat):hE hr (2,i)=hr.nw[i]?:=by
 have:=hOf_lab 1 2 i (lab 2 0 hr.nw) hr.up 0
 have h2:=hOf_lab 2 2 i [] hr.nw 0
 simp only [List.append_nil,true_and,Nat.zero_le,Nat.zero_add,Nat.sub_zero] at h2
 unfold hE
 rw [this,if_neg (by simp),h2]
 split
 · rfl
 · rw [List.getElem?_eq_none (by omega)]; rfl
theorem hE_ne (hr:HR) (k i:Nat) (h1:k ≠ 1) (h2:k ≠ 2):hE hr (k,i)=none:=by
 have q1:=hOf_lab 1 k i (lab 2 0 hr.nw) hr.up 0
 have q2:=hOf_lab 2 k i [] hr.nw 0
 simp only [List.append_nil] at q2
 unfold hE
 rw [q1,if_neg (by simp [h1]),q2,if_neg (by simp [h2])]; rfl
structure Mem (Γ:Ctx) (H:Heap) (μ:Lay) (w:World):Prop where
 hx:∀ g,Γ.Mx g->g < Γ.w0.heap.size/\¬ Γ.io g
 hb:∀ b x,H b=some x->BoxAt w (forb Γ.Mx μ H) μ H b x
 hi:∀ b b' x x' g c c',H b=some x->H b'=some x'->x.hot=true->x'.live=true->μ b=some (g,c)->μ b'=some (g,c')->b=b'
 hf:∀ b x g c,H b=some x->μ b=some (g,c)->x.live=true->Γ.w0.heap.size<=g\/Γ.io g
 hw:BelowX Γ.w0.heap.size Γ.io Γ.w0 w
 hp:∀ i x,H (1,i)=some x->x.live=true->μ (1,i)=Γ.pin i
theorem Rel.mem {Γ:Ctx} {s:St} {μ:Lay} {a:Act} {w:World} (h:Rel Γ s μ a w):Mem Γ s.H μ w:=⟨h.hx,h.hb,h.hi,h.hf,h.hw,h.hp⟩
def goOn:Box->Box->Prop
 | .obj _,.obj _=>True
 | .row e sz L _,.row e' sz' L' _=>e'=e/\sz'=sz/\L'.length=L.length
 | .row _ _ _ _,.dead=>True
 | _,_=>False
@[go_sem] theorem goOn_obj (a b):goOn (.obj a) (.obj b)=True:=rfl
@[go_sem] theorem goOn_row (e sz L z e' sz' L' z'):goOn (.row e sz L z) (.row e' sz' L' z')=(e'=e/\sz'=sz/\L'.length=L.length):=rfl
@[go_sem] theorem goOn_dead (e sz L z):goOn (.row e sz L z) .dead=True:=rfl
def goOns:List Box->List Box->Prop
 | [],[]=>True
 | x :: l,y :: m=>goOn x y/\goOns l m
 | _,_=>False
@[go_sem] theorem goOns_nil:goOns [] []=True:=rfl
@[go_sem] theorem goOns_cons (x l y m):goOns (x :: l) (y :: m)=(goOn x y/\goOns l m):=rfl
theorem goOns_at:∀ {l m:List Box},goOns l m->l.length=m.length/\∀ (i:Nat) (x:Box),l[i]?=some x->∃ y,m[i]?=some y/\goOn x y
 | [],[],_=>⟨rfl,fun i x h=>by simp at h⟩
 | x :: l,y :: m,h=>by
  simp only [goOns] at h
  obtain ⟨h1,h2⟩:=goOns_at h.2
  refine ⟨by simp [h1],fun i z hz=>?_⟩
  cases i with
  | zero=>simp at hz; subst hz; exact ⟨y,by simp,h.1⟩
  | succ i=>simp at hz ⊢; exact h2 i z hz
 | [],_ :: _,h=>by simp [goOns] at h
 | _ :: _,[],h=>by simp [goOns] at h
structure HArgs (P:Program) (w:World) (Mx:Nat->Prop) (pin:Nat->Option (Nat × Nat)) (args:List AV) (bx:List Box) (vals:Array Value) (μ:Lay):Prop where
 mem:Mem ⟨P,w,Mx,0,pin,[],true⟩ (hB bx) μ w
 sz:vals.size=args.length
 rep:∀ i v,args[i]?=some v->Rep w (forb Mx μ (hB bx)) μ (hB bx) v (vals.getD i undef)
 hot:∀ x ∈ bx,x.hot=true
def HPost (P:Program) (w:World) (Mx:Nat->Prop) (pin:Nat->Option (Nat × Nat)) (hr:HR) (e:Ending) (w':World):Prop:=
 ∃ μ',Mem ⟨P,w,Mx,0,pin,[],true⟩ (hE hr) μ' w' /\
  ((∃ p x,hr.v=.pnc p/\e=.panicked [{ v:=x,recovered:=false }]/\Rep w' (forb Mx μ' (hE hr)) μ' (hE hr) p x)\/((∀ p,hr.v ≠ .pnc p)/\∃ v,e=.returned v/\Rep w' (forb Mx μ' (hE hr)) μ' (hE hr) hr.v v))
def HSound (P:Program) (f:FuncId) (S:HSpec):Prop:=
 ∀ (args:List AV) (bx:List Box) (hr:HR),S args bx=some hr->goOns bx hr.up/\∀ (w:World) (Mx:Nat->Prop) (pin:Nat->Option (Nat × Nat)) (vals:Array Value) (μ:Lay),HArgs P w Mx pin args bx vals μ->(∀ i,bx.length<=i->pin i=none)->Calls P f vals w (HPost P w Mx pin hr)
theorem hotO_some {x:Option Box} (h:hotO x=true):∃ y,x=some y/\y.hot=true:=by
 cases x with
 | none=>cases h
 | some y=>cases y <;> first | exact ⟨_,rfl,rfl⟩ | (exact ⟨_,rfl,h⟩) | cases h
theorem place_some:∀ (l:List Bid) (b:Bid) (i n:Nat),place b i l=some n->i<=n/\l[n - i]?=some b
 | [],b,i,n,h=>by simp [place] at h
 | c :: l,b,i,n,h=>by
  simp only [place] at h
  split at h
  · rename_i e; cases h; exact ⟨Nat.le_refl _,by simp [e]⟩
  ·
   obtain ⟨h1,h2⟩:=place_some l b (i + 1) n h
   exact ⟨by omega,by rw [show n - i=(n - (i + 1)) + 1 by omega]; simpa using h2⟩
theorem place_none:∀ (l:List Bid) (b:Bid) (i:Nat),place b i l=none->b ∉ l
 | [],b,i,_=>by simp
 | c :: l,b,i,h=>by
  simp only [place] at h
  split at h
  · cases h
  · rename_i e; simp [e,place_none l b (i + 1) h]
structure OkB (H:Heap) (bs:List Bid):Prop where
 nd:bs.Nodup
 hot:∀ b ∈ bs,∃ x,H b=some x/\x.hot=true
theorem OkB.nil (H:Heap):OkB H []:=⟨List.nodup_nil,by simp⟩
theorem OkB.add {H:Heap} {bs:List Bid} (h:OkB H bs) (b:Bid):OkB H (addB H bs b):=by
 unfold addB
 split
 · exact h
 ·
  rename_i hp
  split
  ·
   rename_i hh
   have:b ∉ bs:=place_none bs b 0 (by simpa using hp)
   refine ⟨List.nodup_append.2 ⟨h.nd,by simp,fun a ha c hc e=>by simp at hc; subst hc; subst e; exact this ha⟩,fun c hc=>?_⟩
   rcases List.mem_append.1 hc with hc | hc
   · exact h.hot c hc
   · simp at hc; subst hc; exact hotO_some hh
  · exact h
theorem foldl_ok {H:Heap} {f:List Bid->AV->List Bid} (hf:∀ acc v,OkB H acc->OkB H (f acc v)):∀ (l:List AV) (acc:List Bid),OkB H acc->OkB H (l.foldl f acc)
 | [],acc,h=>h
 | v :: l,acc,h=>foldl_ok hf l _ (hf acc v h)
theorem coll_ok {H:Heap}:∀ (d:Nat) (acc:List Bid) (v:AV),OkB H acc->OkB H (coll H d acc v)
 | 0,acc,v,h=>h
 | d + 1,acc,v,h=>by
  have ih:=fun acc v=>coll_ok (H:=H) d acc v
  cases v with
  | own b n=>exact h.add b
  | ows b l n=>exact h.add b
  | pt b k n=>exact h.add b
  | ref b n=>
   simp only [coll]
   split
   · exact h
   · exact foldl_ok ih _ _ (h.add b)
  | agg cs=>exact foldl_ok ih cs acc h
  | fn f cs=>exact foldl_ok ih cs acc h
  | ifc t x=>exact ih acc x h
  | _=>exact h
section
variable {Γ:Ctx} {s:St} {μ:Lay} {a:Act} {w:World}
def pinC (bs:List Bid) (μ:Lay) (i:Nat):Option (Nat × Nat):=bs[i]?.bind μ
def MxC (Γ:Ctx) (H:Heap) (μ:Lay) (bs:List Bid) (g:Nat):Prop:=forb Γ.Mx μ H g/\¬ ∃ i c,pinC bs μ i=some (g,c)
def layC (bs:List Bid) (μ:Lay):Lay:=fun b=>if b.1=1 then pinC bs μ b.2 else none
def boxC (H:Heap) (bs:List Bid):List Box:=bs.map fun b=>renB (told H bs 5) ((H b).getD .dead)
theorem boxC_at {H:Heap} {bs:List Bid} (hbs:OkB H bs) {i:Nat} {x:Box} (h:(boxC H bs)[i]?=some x):∃ b y,bs[i]?=some b/\H b=some y/\y.hot=true/\x=renB (told H bs 5) y:=by
 simp only [boxC,List.getElem?_map,Option.map_eq_some_iff] at h
 obtain ⟨b,hb,rfl⟩:=h
 obtain ⟨y,hy,hh⟩:=hbs.hot b (List.mem_of_getElem? hb)
 exact ⟨b,y,hb,hy,hh,by rw [hy]; rfl⟩
theorem boxC_of {H:Heap} {bs:List Bid} {i:Nat} {b:Bid} {y:Box} (hb:bs[i]?=some b) (hy:H b=some y):hB (boxC H bs) (1,i)=some (renB (told H bs 5) y):=by
 rw [hB_one,boxC,List.getElem?_map,hb]; simp [hy]
theorem layC_of {bs:List Bid} {i:Nat} {b:Bid} (hb:bs[i]?=some b):layC bs μ (1,i)=μ b:=by simp [layC,pinC,hb]
theorem renB_hot (f:AV->AV) (x:Box):(renB f x).hot=x.hot:=by cases x <;> rfl
theorem renB_live (f:AV->AV) (x:Box):(renB f x).live=x.live:=by cases x <;> rfl
theorem hB_box {H:Heap} {bs:List Bid} (hbs:OkB H bs) {c:Bid} {x:Box} (h:hB (boxC H bs) c=some x):∃ i b y,c=(1,i)/\bs[i]?=some b/\H b=some y/\y.hot=true/\x=renB (told H bs 5) y:=by
 obtain ⟨k,i⟩:=c
 by_cases hk:k=1
 ·
  subst hk
  rw [hB_one] at h
  obtain ⟨b,y,h1,h2,h3,h4⟩:=boxC_at hbs h
  exact ⟨i,b,y,rfl,h1,h2,h3,h4⟩
 · rw [hB_ne _ _ _ hk] at h; cases h
theorem forbC {bs:List Bid} (hbs:OkB s.H bs) {g:Nat} (hg:forb (MxC Γ s.H μ bs) (layC bs μ) (hB (boxC s.H bs)) g):forb Γ.Mx μ s.H g:=by
 rcases hg with hg | ⟨c,x,k,h1,h2,h3⟩
 · exact hg.1
 ·
  obtain ⟨i,b,y,rfl,q1,q2,q3,rfl⟩:=hB_box hbs h1
  rw [layC_of q1] at h3
  exact .inr ⟨b,y,k,q2,q3,h3⟩
theorem told_rep (h:Rel Γ s μ a w) {bs:List Bid} (hbs:OkB s.H bs):∀ (d:Nat) (v:AV) (x:Value),Rep w (forb Γ.Mx μ s.H) μ s.H v x ->
  Rep w (forb (MxC Γ s.H μ bs) (layC bs μ) (hB (boxC s.H bs))) (layC bs μ) (hB (boxC s.H bs)) (told s.H bs d v) x:=by
 have hM:∀ g,¬ forb Γ.Mx μ s.H g->¬ forb (MxC Γ s.H μ bs) (layC bs μ) (hB (boxC s.H bs)) g:=fun g hg hc=>hg (forbC hbs hc)
 intro d
 induction d with
 | zero=>intro v x hx; exact leaf_rep hx hM
 | succ d ih=>
  intro v x hx
  cases v with
  | own b n=>
   simp only [told,renV]
   cases hp:place b 0 bs with
   | some i=>
    obtain ⟨_,hi⟩:=place_some _ _ _ _ hp
    simp only [Nat.sub_zero] at hi
    simp only [optOwn]
    obtain ⟨y,hy,hh⟩:=hbs.hot b (List.mem_of_getElem? hi)
    cases hx with
    | ownd _ _ _ _ hH _=>rw [hH] at hy; cases hy; simp [Box.hot] at hh
    | own _ _ _ e sz L z hH hn=>
     have:=@Rep.own w (forb (MxC Γ s.H μ bs) (layC bs μ) (hB (boxC s.H bs))) (layC bs μ) (hB (boxC s.H bs)) (1,i) n e sz L z (boxC_of hi hH) hn
     rw [layC_of hi] at this
     exact this
   | none=>
    simp only [optOwn]
    cases hb:s.H b with
    | none=>exact .u _ _
    | some y=>
     cases y with
     | row e sz L z=>
      cases z with
      | false=>exact .u _ _
      | true=>
       cases hx with
       | ownd _ _ _ _ hH _=>rw [hb] at hH; cases hH
       | own _ _ _ e' sz' L' z' hH hn=>
        rw [hb] at hH; cases hH
        exact row_rep h hb hn hM fun g c hg hF=>frozen_not h hb hg (forbC hbs hF)
     | _=>exact .u _ _
  | ows b l n=>
   simp only [told,renV]
   cases hp:place b 0 bs with
   | some i=>
    obtain ⟨_,hi⟩:=place_some _ _ _ _ hp
    simp only [Nat.sub_zero] at hi
    simp only [optOwn,owsOf]
    obtain ⟨y,hy,hh⟩:=hbs.hot b (List.mem_of_getElem? hi)
    cases hx with
    | owsd _ _ _ _ _ hH _=>rw [hH] at hy; cases hy; simp [Box.hot] at hh
    | ows _ _ _ _ e sz L z ad cp hH hn hc hv=>
     exact .ows _ _ _ _ _ _ _ _ _ _ (boxC_of hi hH) hn hc (by rw [layC_of hi]; exact hv)
   | none=>
    simp only [optOwn]
    have:owsOf l (frzV n (s.H b))=.u:=by
     unfold frzV
     split <;> rfl
    rw [this]
    exact .u _ _
  | ref b n=>
   simp only [told,renV]
   cases hp:place b 0 bs with
   | some i=>
    obtain ⟨_,hi⟩:=place_some _ _ _ _ hp
    simp only [Nat.sub_zero] at hi
    simp only [optRef]
    cases hx with
    | ref _ _ _ cs g c hH hμ=>exact .ref _ _ _ _ _ c (boxC_of hi hH) (by rw [layC_of hi]; exact hμ)
   | none=>exact .u _ _
  | pt b k n=>
   simp only [told,renV]
   cases hp:place b 0 bs with
   | some i=>
    obtain ⟨_,hi⟩:=place_some _ _ _ _ hp
    simp only [Nat.sub_zero] at hi
    simp only [optRef,ptOf]
    cases hx with
    | pt _ _ _ _ cs g c off m hH hμ hn hm=>exact .pt _ _ _ _ _ _ c _ _ (boxC_of hi hH) (by rw [layC_of hi]; exact hμ) hn hm
   | none=>exact .u _ _
  | agg cs=>
   have hx':=hx
   cases hx with
   | agg _ _ vs g hs hv hr=>exact map_agg hx' fun c y _ hc=>ih c y hc
  | fn f caps=>
   cases hx with
   | fn _ _ _ vs g hs hv hr=>
    refine .fn _ _ _ _ g (by simpa using hs) (fun i hi=>hv i (by simpa using hi)) fun i c hc=>?_
    rw [List.getElem?_map,Option.map_eq_some_iff] at hc
    obtain ⟨c',hc',rfl⟩:=hc
    exact ih c' (g i) (hr i c' hc')
  | tup caps=>
   cases hx with
   | tup _ _ vs g hs hv hr=>
    refine .tup _ _ _ g (by simpa using hs) (fun i hi=>hv i (by simpa using hi)) fun i c hc=>?_
    rw [List.getElem?_map,Option.map_eq_some_iff] at hc
    obtain ⟨c',hc',rfl⟩:=hc
    exact ih c' (g i) (hr i c' hc')
  | ifc t v=>
   cases hx with
   | ifc _ _ _ y hr=>exact .ifc _ _ _ _ (ih v y hr)
  | iref cs p=>
   cases hx with
   | iref _ _ _ g off f hv hr=>
    exact .iref _ _ _ _ _ f (fun j hj=>(hv j hj).mono fun g _ hg=>⟨hM g hg,rfl⟩) fun j x hj=>(hr j x hj).mono (fun g _ hg=>⟨hM g hg,rfl⟩) (HLe.noH _) (fun b hb=>absurd rfl hb)
  | _=>exact leaf_rep hx hM
theorem lt_of_pin (h:Rel Γ s μ a w) {bs:List Bid} (hbs:OkB s.H bs) {i g c:Nat} (hp:pinC bs μ i=some (g,c)):∃ b y,bs[i]?=some b/\s.H b=some y/\y.hot=true/\μ b=some (g,c)/\g < w.heap.size/\forb Γ.Mx μ s.H g:=by
 simp only [pinC,Option.bind_eq_some_iff] at hp
 obtain ⟨b,hb,hμ⟩:=hp
 obtain ⟨y,hy,hh⟩:=hbs.hot b (List.mem_of_getElem? hb)
 exact ⟨b,y,hb,hy,hh,hμ,h.lt hy (hot_live hh) hμ,.inr ⟨b,y,c,hy,hh,hμ⟩⟩
theorem start_mem (h:Rel Γ s μ a w) {bs:List Bid} (hbs:OkB s.H bs):Mem ⟨Γ.P,w,MxC Γ s.H μ bs,0,pinC bs μ,[],true⟩ (hB (boxC s.H bs)) (layC bs μ) w:=by
 have hM:∀ g,¬ forb Γ.Mx μ s.H g->¬ forb (MxC Γ s.H μ bs) (layC bs μ) (hB (boxC s.H bs)) g:=fun g hg hc=>hg (forbC hbs hc)
 refine ⟨fun g hg=>⟨?_,hg.2⟩,?_,?_,?_,BelowX.refl _ _ _,?_⟩
 ·
  rcases hg.1 with hx | ⟨b,y,c,q1,q2,q3⟩
  · exact Nat.lt_of_lt_of_le (h.hx g hx).1 h.hw.size
  · exact h.lt q1 (hot_live q2) q3
 ·
  intro c x hc
  obtain ⟨i,b,y,rfl,q1,q2,q3,rfl⟩:=hB_box hbs hc
  rcases h.hb b y q2 with rfl | ⟨g,c,cur,e,r1,r2,r3⟩ | ⟨r1,e,sz,z,rfl,r2⟩
  · cases q3
  ·
   refine .inr (.inl ⟨g,c,cur,e,by rw [layC_of q1]; exact r1,r2,?_⟩)
   cases y with
   | obj cs=>
    refine ⟨by simpa using r3.1,fun j v hv=>?_⟩
    rw [List.getElem?_map,Option.map_eq_some_iff] at hv
    obtain ⟨v',hv',rfl⟩:=hv
    obtain ⟨u,u1,u2,u3⟩:=r3.2 j v' hv'
    exact ⟨u,u1,u2,told_rep h hbs 5 v' u u3⟩
   | row e' sz L z=>
    obtain ⟨p1,p2,p3,p4,p5,p6,p7⟩:=r3
    refine ⟨p1,p2,p3,p4,p5,p6,fun i j xs x' hi hj=>?_⟩
    obtain ⟨v,v1,v2,v3⟩:=p7 i j xs x' hi hj
    exact ⟨v,v1,v2,v3.mono (fun g _ hg=>⟨hM g hg,rfl⟩) (HLe.refl _) (fun b hb=>absurd rfl hb)⟩
   | dead=>cases q3
  · exact .inr (.inr ⟨by rw [layC_of q1]; exact r1,e,sz,z,rfl,r2⟩)
 ·
  intro b1 b2 x1 x2 g c1 c2 q1 q2 q3 q4 q5 q6
  obtain ⟨i1,b1',y1,rfl,r1,r2,r3,rfl⟩:=hB_box hbs q1
  obtain ⟨i2,b2',y2,rfl,t1,t2,t3,rfl⟩:=hB_box hbs q2
  rw [layC_of r1] at q5
  rw [layC_of t1] at q6
  have:=h.hi b1' b2' y1 y2 g c1 c2 r2 t2 r3 (hot_live t3) q5 q6
  subst this
  have:=(List.getElem?_inj (List.getElem?_eq_some_iff.1 r1).1 hbs.nd).1 (r1.trans t1.symm)
  rw [this]
 ·
  intro c x g k q1 q2 _
  obtain ⟨i,b,y,rfl,r1,r2,r3,rfl⟩:=hB_box hbs q1
  exact .inr ⟨i,k,by simpa [layC] using q2⟩
 ·
  intro i x _ _
  simp [layC]
end
section
variable {Γ:Ctx} {s:St} {μ:Lay} {a:Act} {w:World}
structure After (H:Heap) (bs:List Bid) (b0:Bid) (up nw:List Box) (f:AV->AV) (H':Heap):Prop where
 old:∀ (i:Nat) (b:Bid) (x:Box),bs[i]?=some b->up[i]?=some x->H' b=some (renB f x)
 new:∀ (j:Nat) (x:Box),nw[j]?=some x->H' (b0.1,b0.2 + j)=some (renB f x)/\H (b0.1,b0.2 + j)=none
 els:∀ (b:Bid),b ∉ bs->(∀ (j:Nat),j < nw.length->b ≠ (b0.1,b0.2 + j))->H' b=H b
def layA (H:Heap) (b0:Bid) (μ μ':Lay):Lay:=fun b=>match H b with
 | some _=>μ b
 | none=>μ' (2,b.2 - b0.2)
theorem layA_old {H:Heap} {b0 b:Bid} {μ μ':Lay} (h:H b ≠ none):layA H b0 μ μ' b=μ b:=by
 unfold layA
 cases hb:H b with
 | none=>exact absurd hb h
 | some x=>rfl
theorem end_rel (h:Rel Γ s μ a w) {bs:List Bid} (hbs:OkB s.H bs) {hr:HR} (hgo:goOns (boxC s.H bs) hr.up) {b0:Bid} (h0:b0.1=0) {w':World} {μ':Lay}
  (hm:Mem ⟨Γ.P,w,MxC Γ s.H μ bs,0,pinC bs μ,[],true⟩ (hE hr) μ' w') {H':Heap} (hA:After s.H bs b0 hr.up hr.nw (back bs b0 5) H') :
  ∃ μ'',Rel Γ ⟨s.t,H'⟩ μ'' a w'/\∀ (d:Nat) (v:AV) (x:Value),Rep w' (forb (MxC Γ s.H μ bs) μ' (hE hr)) μ' (hE hr) v x->Rep w' (forb Γ.Mx μ'' H') μ'' H' (back bs b0 d v) x:=by
 obtain ⟨glen,gat⟩:=goOns_at hgo
 have hlen:hr.up.length=bs.length:=by rw [<-glen]; simp [boxC]
 refine ⟨layA s.H b0 μ μ',?_⟩
 obtain ⟨μ'',hμ''⟩:∃ x,x=layA s.H b0 μ μ':=⟨_,rfl⟩
 rw [<-hμ'']
 have hold:∀ b,s.H b ≠ none->μ'' b=μ b:=fun b hb=>by rw [hμ'']; exact layA_old hb
 have hnewl:∀ j,s.H (b0.1,b0.2 + j)=none->μ'' (b0.1,b0.2 + j)=μ' (2,j):=fun j hj=>by rw [hμ'']; simp [layA,hj]
 have hbsome:∀ (i:Nat) (b:Bid),bs[i]?=some b->∃ y,s.H b=some y/\y.hot=true:=fun i b hb=>hbs.hot b (List.mem_of_getElem? hb)
 have corr:∀ c x,hE hr c=some x->∃ b,backB bs b0 c=some b/\H' b=some (renB (back bs b0 5) x)/\(x.live=true->μ'' b=μ' c):=by
  rintro ⟨k,i⟩ x hc
  by_cases h1:k=1
  ·
   subst h1
   rw [hE_one] at hc
   have hi:i < bs.length:=by rw [<-hlen]; exact (List.getElem?_eq_some_iff.1 hc).1
   have hb:=List.getElem?_eq_getElem hi
   refine ⟨bs[i],by simp [backB,hb],hA.old i _ x hb hc,fun hl=>?_⟩
   obtain ⟨y,hy,_⟩:=hbsome i _ hb
   rw [hold _ (by rw [hy]; simp),hm.hp i x (by rw [hE_one]; exact hc) hl]
   simp [pinC,hb]
  ·
   by_cases h2:k=2
   ·
    subst h2
    rw [hE_two] at hc
    obtain ⟨n1,n2⟩:=hA.new i x hc
    exact ⟨_,rfl,n1,fun _=>hnewl i n2⟩
   · rw [hE_ne _ _ _ h1 h2] at hc; cases hc
 have cases':∀ b x,H' b=some x->(∃ c y,hE hr c=some y/\backB bs b0 c=some b/\x=renB (back bs b0 5) y/\(y.live=true->μ'' b=μ' c))\/(b ∉ bs/\s.H b=some x):=by
  intro b x hx
  by_cases h1:b ∈ bs
  ·
   obtain ⟨i,hi,rfl⟩:=List.mem_iff_getElem.1 h1
   have hu:hr.up[i]?=some (hr.up[i]'(by omega)):=List.getElem?_eq_getElem _
   have hb:=List.getElem?_eq_getElem hi
   have hc:hE hr (1,i)=some (hr.up[i]'(by omega)):=by rw [hE_one]; exact hu
   obtain ⟨b',q1,q2,q3⟩:=corr _ _ hc
   have:b'=bs[i]:=by simp [backB,hb] at q1; exact q1.symm
   subst this
   rw [hx] at q2
   exact .inl ⟨(1,i),_,hc,q1,by simpa using q2,q3⟩
  ·
   by_cases h2:∃ j,j < hr.nw.length/\b=(b0.1,b0.2 + j)
   ·
    obtain ⟨j,hj,rfl⟩:=h2
    have hc:hE hr (2,j)=some hr.nw[j]:=by rw [hE_two]; exact List.getElem?_eq_getElem hj
    obtain ⟨b',q1,q2,q3⟩:=corr _ _ hc
    have:b'=(b0.1,b0.2 + j):=by simp [backB] at q1; exact q1.symm
    subst this
    rw [hx] at q2
    exact .inl ⟨(2,j),_,hc,q1,by simpa using q2,q3⟩
   · exact .inr ⟨h1,by rw [<-hA.els b h1 fun j hj e=>h2 ⟨j,hj,e⟩]; exact hx⟩
 have pinned:∀ {g},(⟨Γ.P,w,MxC Γ s.H μ bs,0,pinC bs μ,[],true⟩:Ctx).io g->∃ b y c,b ∈ bs/\s.H b=some y/\y.hot=true/\μ b=some (g,c)/\g < w.heap.size/\forb Γ.Mx μ s.H g:=by
  rintro g ⟨i,c,hp⟩
  obtain ⟨b,y,q1,q2,q3,q4,q5,q6⟩:=lt_of_pin h hbs hp
  exact ⟨b,y,c,List.mem_of_getElem? q1,q2,q3,q4,q5,q6⟩
 have hF2:∀ g,¬ forb (MxC Γ s.H μ bs) μ' (hE hr) g->¬ forb Γ.Mx μ'' H' g:=by
  rintro g hg (hx | ⟨b,x,c,q1,q2,q3⟩)
  ·
   refine hg (.inl ⟨.inl hx,fun hp=>?_⟩)
   obtain ⟨b,y,c,r1,r2,r3,r4,_⟩:=pinned hp
   obtain ⟨e1,e2⟩:=h.hx g hx
   exact (h.hf b y g c r2 r4 (hot_live r3)).elim (fun e=>by omega) e2
  ·
   rcases cases' b x q1 with ⟨k,y,r1,r2,rfl,r4⟩ | ⟨r1,r2⟩
   ·
    rw [renB_hot] at q2
    rw [r4 (hot_live q2)] at q3
    exact hg (.inr ⟨k,y,c,r1,q2,q3⟩)
   ·
    rw [hold b (by rw [r2]; simp)] at q3
    refine hg (.inl ⟨.inr ⟨b,x,c,r2,q2,q3⟩,fun hp=>?_⟩)
    obtain ⟨b',y,c',t1,t2,t3,t4,_⟩:=pinned hp
    have:=h.hi b b' x y g c c' r2 t2 q2 (hot_live t3) q3 t4
    subst this
    exact r1 t1
 have hF3:∀ g,g < w.heap.size->¬ forb Γ.Mx μ s.H g->¬ forb Γ.Mx μ'' H' g/\w'.heap[g]?=w.heap[g]?:=by
  intro g hlt hg
  refine ⟨?_,hm.hw.block g hlt fun hp=>?_⟩
  ·
   rintro (hx | ⟨b,x,c,q1,q2,q3⟩)
   · exact hg (.inl hx)
   ·
    rcases cases' b x q1 with ⟨k,y,r1,r2,rfl,r4⟩ | ⟨r1,r2⟩
    ·
     rw [renB_hot] at q2
     rw [r4 (hot_live q2)] at q3
     rcases hm.hf k y g c r1 q3 (hot_live q2) with h1 | h1
     · simp only at h1; omega
     ·
      obtain ⟨_,_,_,_,_,_,_,_,h2⟩:=pinned h1
      exact hg h2
    ·
     rw [hold b (by rw [r2]; simp)] at q3
     exact hg (.inr ⟨b,x,c,r2,q2,q3⟩)
  ·
   obtain ⟨_,_,_,_,_,_,_,_,h2⟩:=pinned hp
   exact hg h2
 have hback:∀ (d:Nat) (v:AV) (x:Value),Rep w' (forb (MxC Γ s.H μ bs) μ' (hE hr)) μ' (hE hr) v x->Rep w' (forb Γ.Mx μ'' H') μ'' H' (back bs b0 d v) x:=by
  intro d
  induction d with
  | zero=>intro v x hx; exact leaf_rep hx hF2
  | succ d ih=>
   intro v x hx
   cases v with
   | own c n=>
    simp only [back,renV]
    cases hx with
    | own _ _ _ e sz L z hH hn=>
     obtain ⟨b,q1,q2,q3⟩:=corr _ _ hH
     rw [q1,<-q3 rfl]
     exact .own _ _ _ e sz L z q2 hn
    | ownd _ _ _ _ hH h1=>
     obtain ⟨b,q1,q2,q3⟩:=corr _ _ hH
     rw [q1]
     exact .ownd _ _ _ _ q2 h1
   | ows c l n=>
    simp only [back,renV]
    cases hx with
    | ows _ _ _ _ e sz L z ad cp hH hn hc hv=>
     obtain ⟨b,q1,q2,q3⟩:=corr _ _ hH
     rw [q1]
     simp only [ownO,owsOf]
     exact .ows _ _ _ _ _ _ _ _ _ _ q2 hn hc (by rw [q3 rfl]; exact hv)
    | owsd _ _ _ _ _ hH h1=>
     obtain ⟨b,q1,q2,q3⟩:=corr _ _ hH
     rw [q1]
     exact .owsd _ _ _ _ _ q2 h1
   | ref c n=>
    simp only [back,renV]
    cases hx with
    | ref _ _ _ cs g k hH hμ=>
     obtain ⟨b,q1,q2,q3⟩:=corr _ _ hH
     rw [q1]
     exact .ref _ _ _ _ _ k q2 (by rw [q3 rfl]; exact hμ)
   | pt c k n=>
    simp only [back,renV]
    cases hx with
    | pt _ _ _ _ cs g j off m hH hμ hn hm=>
     obtain ⟨b,q1,q2,q3⟩:=corr _ _ hH
     rw [q1]
     exact .pt _ _ _ _ _ _ j _ _ q2 (by rw [q3 rfl]; exact hμ) hn hm
   | agg cs=>
    have hx':=hx
    cases hx with
    | agg _ _ vs g hs hv hr=>exact map_agg hx' fun c y _ hc=>ih c y hc
   | fn f caps=>
    cases hx with
    | fn _ _ _ vs g hs hv hr=>
     refine .fn _ _ _ _ g (by simpa using hs) (fun i hi=>hv i (by simpa using hi)) fun i c hc=>?_
     rw [List.getElem?_map,Option.map_eq_some_iff] at hc
     obtain ⟨c',hc',rfl⟩:=hc
     exact ih c' (g i) (hr i c' hc')
   | tup caps=>
    cases hx with
    | tup _ _ vs g hs hv hr=>
     refine .tup _ _ _ g (by simpa using hs) (fun i hi=>hv i (by simpa using hi)) fun i c hc=>?_
     rw [List.getElem?_map,Option.map_eq_some_iff] at hc
     obtain ⟨c',hc',rfl⟩:=hc
     exact ih c' (g i) (hr i c' hc')
   | ifc t v=>
    cases hx with
    | ifc _ _ _ y hr=>exact .ifc _ _ _ _ (ih v y hr)
   | iref cs p=>
    cases hx with
    | iref _ _ _ g off f hv hr=>
     exact .iref _ _ _ _ _ f (fun j hj=>(hv j hj).mono fun g _ hg=>⟨hF2 g hg,rfl⟩) fun j x hj=>(hr j x hj).mono (fun g _ hg=>⟨hF2 g hg,rfl⟩) (HLe.noH _) (fun b hb=>absurd rfl hb)
   | _=>exact leaf_rep hx hF2
 refine ⟨h.next ?_ hold ⟨hm.hw.os,hm.hw.tape,hm.hw.output,hm.hw.size,fun k hk hn=>hm.hw.block k (Nat.lt_of_lt_of_le hk h.hw.size) fun hp=>?_,hm.hw.nf⟩ hF3 ?_ ?_ ?_ ?_,hback⟩
 ·
  intro b
  have href:=HLe.refl s.H b
  cases hb:s.H b with
  | none=>trivial
  | some y=>
   by_cases h1:b ∈ bs
   ·
    obtain ⟨i,hi,rfl⟩:=List.mem_iff_getElem.1 h1
    have hbi:=List.getElem?_eq_getElem hi
    have hx:(boxC s.H bs)[i]?=some (renB (told s.H bs 5) y):=by rw [<-hB_one]; exact boxC_of hbi hb
    obtain ⟨z,hz,hg⟩:=gat i _ hx
    have hH:=hA.old i _ z hbi hz
    cases y with
    | obj cs=>cases z <;> simp only [renB,goOn] at hg; exact ⟨_,hH⟩
    | row e sz L f=>
     cases z <;> simp only [renB,goOn] at hg
     · obtain ⟨rfl,rfl,hl⟩:=hg; exact .inl ⟨_,_,hH,hl⟩
     · exact .inr hH
    | dead=>cases z <;> simp only [renB,goOn] at hg
   ·
    have hn:∀ j,j < hr.nw.length->b ≠ (b0.1,b0.2 + j):=by
     rintro j hj rfl
     have:=(hA.new j _ (List.getElem?_eq_getElem hj)).2
     rw [hb] at this; cases this
    have hH:=hA.els b h1 hn
    rw [hb] at href
    cases y <;> simp only at href ⊢ <;> rw [hH] <;> first | exact hb | (rw [hb]; exact href)
 ·
  obtain ⟨b,y,c,r1,r2,r3,r4,_⟩:=pinned hp
  exact (h.hf b y k c r2 r4 (hot_live r3)).elim (fun e=>by omega) hn
 ·
  intro b x hx
  rcases cases' b x hx with ⟨k,y,r1,r2,rfl,r4⟩ | ⟨r1,r2⟩
  ·
   rcases hm.hb k y r1 with rfl | ⟨g,c,cur,e,t1,t2,t3⟩ | ⟨t1,e,sz,z,rfl,t2⟩
   · exact .inl rfl
   ·
    have hl:y.live=true:=by cases y <;> first | rfl | exact t3.elim
    refine .inr (.inl ⟨g,c,cur,e,by rw [r4 hl]; exact t1,t2,?_⟩)
    cases y with
    | obj cs=>
     refine ⟨by simpa using t3.1,fun j v hv=>?_⟩
     rw [List.getElem?_map,Option.map_eq_some_iff] at hv
     obtain ⟨v',hv',rfl⟩:=hv
     obtain ⟨u,u1,u2,u3⟩:=t3.2 j v' hv'
     exact ⟨u,u1,u2,hback 5 v' u u3⟩
    | row e' sz L z=>
     obtain ⟨p1,p2,p3,p4,p5,p6,p7⟩:=t3
     refine ⟨p1,p2,p3,p4,p5,p6,fun i j xs x' hi hj=>?_⟩
     obtain ⟨v,v1,v2,v3⟩:=p7 i j xs x' hi hj
     exact ⟨v,v1,v2,v3.mono (fun g _ hg=>⟨hF2 g hg,rfl⟩) (HLe.refl _) (fun b hb=>absurd rfl hb)⟩
    | dead=>exact t3.elim
   · exact .inr (.inr ⟨by rw [r4 rfl]; exact t1,e,sz,z,rfl,t2⟩)
  ·
   have hn:s.H b ≠ none:=by rw [r2]; simp
   refine (h.hb b x r2).mono r2 hF3 ?_ hold fun g c hl hg=>hm.hw.block g (h.lt r2 hl hg) fun hp=>?_
   ·
    intro b
    have href:=HLe.refl s.H b
    cases hb:s.H b with
    | none=>trivial
    | some y=>
     by_cases h1:b ∈ bs
     ·
      obtain ⟨i,hi,rfl⟩:=List.mem_iff_getElem.1 h1
      have hbi:=List.getElem?_eq_getElem hi
      have hx:(boxC s.H bs)[i]?=some (renB (told s.H bs 5) y):=by rw [<-hB_one]; exact boxC_of hbi hb
      obtain ⟨z,hz,hg⟩:=gat i _ hx
      have hH:=hA.old i _ z hbi hz
      cases y with
      | obj cs=>cases z <;> simp only [renB,goOn] at hg; exact ⟨_,hH⟩
      | row e sz L f=>
       cases z <;> simp only [renB,goOn] at hg
       · obtain ⟨rfl,rfl,hl⟩:=hg; exact .inl ⟨_,_,hH,hl⟩
       · exact .inr hH
      | dead=>cases z <;> simp only [renB,goOn] at hg
     ·
      have hn:∀ j,j < hr.nw.length->b ≠ (b0.1,b0.2 + j):=by
       rintro j hj rfl
       have:=(hA.new j _ (List.getElem?_eq_getElem hj)).2
       rw [hb] at this; cases this
      have hH:=hA.els b h1 hn
      rw [hb] at href
      cases y <;> simp only at href ⊢ <;> rw [hH] <;> first | exact hb | (rw [hb]; exact href)
   ·
    obtain ⟨b',y,c',t1,t2,t3,t4,_⟩:=pinned hp
    have:=h.hi b' b y x g c' c t2 r2 t3 hl t4 hg
    subst this
    exact r1 t1
 ·
  intro b1 b2 x1 x2 g c1 c2 q1 q2 q3 q4 q5 q6
  rcases cases' b1 x1 q1 with ⟨k1,y1,r1,r2,rfl,r4⟩ | ⟨r1,r2⟩ <;> rcases cases' b2 x2 q2 with ⟨k2,y2,t1,t2,rfl,t4⟩ | ⟨t1,t2⟩
  ·
   rw [renB_hot] at q3
   rw [renB_live] at q4
   rw [r4 (hot_live q3)] at q5
   rw [t4 q4] at q6
   have:=hm.hi k1 k2 y1 y2 g c1 c2 r1 t1 q3 q4 q5 q6
   subst this
   rw [r2] at t2
   exact Option.some.inj t2
  ·
   rw [renB_hot] at q3
   rw [r4 (hot_live q3)] at q5
   rw [hold b2 (by rw [t2]; simp)] at q6
   exfalso
   have hlt:=h.lt t2 q4 q6
   rcases hm.hf k1 y1 g c1 r1 q5 (hot_live q3) with e | e
   · simp only at e; omega
   ·
    obtain ⟨b',y,c',p1,p2,p3,p4,_⟩:=pinned e
    have:=h.hi b' b2 y x2 g c' c2 p2 t2 p3 q4 p4 q6
    subst this
    exact t1 p1
  ·
   rw [renB_live] at q4
   rw [t4 q4] at q6
   rw [hold b1 (by rw [r2]; simp)] at q5
   exfalso
   have hlt:=h.lt r2 (hot_live q3) q5
   rcases hm.hf k2 y2 g c2 t1 q6 q4 with e | e
   · simp only at e; omega
   ·
    obtain ⟨b',y,c',p1,p2,p3,p4,_⟩:=pinned e
    have:=h.hi b1 b' x1 y g c1 c' r2 p2 q3 (hot_live p3) q5 p4
    subst this
    exact r1 p1
  ·
   rw [hold b1 (by rw [r2]; simp)] at q5
   rw [hold b2 (by rw [t2]; simp)] at q6
   exact h.hi b1 b2 x1 x2 g c1 c2 r2 t2 q3 q4 q5 q6
 ·
  intro b x g c q1 q2 q3
  rcases cases' b x q1 with ⟨k,y,r1,r2,rfl,r4⟩ | ⟨r1,r2⟩
  ·
   rw [renB_live] at q3
   rw [r4 q3] at q2
   rcases hm.hf k y g c r1 q2 q3 with e | e
   · exact .inl (Nat.le_trans h.hw.size e)
   ·
    obtain ⟨b',y',c',p1,p2,p3,p4,_⟩:=pinned e
    exact h.hf b' y' g c' p2 p4 (hot_live p3)
  ·
   rw [hold b (by rw [r2]; simp)] at q2
   exact h.hf b x g c r2 q2 q3
 ·
  intro i x q1 q2
  rcases cases' _ x q1 with ⟨k,y,r1,r2,rfl,r4⟩ | ⟨r1,r2⟩
  ·
   obtain ⟨k1,k2⟩:=k
   by_cases e1:k1=1
   ·
    subst e1
    simp only [backB,if_true] at r2
    obtain ⟨y',hy',hh⟩:=hbsome k2 _ r2
    rw [hold _ (by rw [hy']; simp)]
    exact h.hp i y' hy' (hot_live hh)
   ·
    by_cases e2:k1=2
    ·
     subst e2
     simp [backB,h0] at r2
    · simp [backB,e1,e2] at r2
  ·
   rw [hold _ (by rw [r2]; simp)]
   exact h.hp i x r2 q2
end
def noLay:Lay:=fun _=>none
def RRep (w w':World) (Mx:Nat->Prop):AV->Value->Prop
 | .frs e sz L,v=>∃ (g c:Nat) (cur:Array Value),v=.slice (some ⟨g,0,none⟩) L.length c/\w.heap.size<=g/\w'.heap[g]?=some (.cells cur e (0,0))/\BoxC w' (fun k=>Mx k\/k=g) noLay noH cur e c (.row e sz L false)
 | r,v=>Rep w' Mx noLay noH r v
def CPost (w:World) (Mx:Nat->Prop) (r:AV) (e:Ending) (w':World):Prop:=
 (Below w.heap.size w w'/\NF w w')/\((∃ p x,r=.pnc p/\e=.panicked [{ v:=x,recovered:=false }]/\Rep w' Mx noLay noH p x)\/((∀ p,r ≠ .pnc p)/\∃ v,e=.returned v/\RRep w w' Mx r v))
def Sound (P:Program) (f:FuncId) (S:Spec):Prop:=
 ∀ (args:List AV) (r:AV),S args=some r->∀ (w:World) (Mx:Nat->Prop) (vals:Array Value),(∀ g,Mx g->g < w.heap.size)->vals.size=args.length->(∀ i v,args[i]?=some v->Rep w Mx noLay noH v (vals.getD i undef))->Calls P f vals w (CPost w Mx r)
def entersB (P:Program) (f:FuncId):Bool:=match P.funcs[f]? with
 | some fn=>fn.name != "runtime.NumGoroutine" && fn.body.isSome
 | none=>false
def ConOK (P:Program) (g:FuncId):Con->Prop
 | .p S=>Sound P g S
 | .h S=>HSound P g S
 | .v S=>HSound P g S
def EnvOK (P:Program) (env:Env):Prop:=∀ g c,env.lookup g=some c->entersB P g=true/\ConOK P g c
theorem eN_ (P:Program):EnvOK P []:=fun g S h=>by simp at h
theorem EnvOK.add {P:Program} {g:FuncId} {c:Con} {env:Env} (h1:entersB P g=true) (h2:ConOK P g c) (h:EnvOK P env):EnvOK P ((g,c) :: env):=by
 intro g' S' h'
 by_cases e:g'=g
 ·
  subst e
  simp [List.lookup] at h'
  subst h'
  exact ⟨h1,h2⟩
 ·
  have:(g' == g)=false:=by simpa using e
  simp only [List.lookup,this] at h'
  exact h g' S' h'
theorem eH_ {P:Program} {g:FuncId} {S:HSpec} {env:Env} (h1:entersB P g=true) (h2:HSound P g S) (h:EnvOK P env):EnvOK P ((g,.h S) :: env):=.add (c:=.h S) h1 h2 h
theorem eV_ {P:Program} {g:FuncId} {S:HSpec} {env:Env} (h1:entersB P g=true) (h2:HSound P g S) (h:EnvOK P env):EnvOK P ((g,.v S) :: env):=.add (c:=.v S) h1 h2 h
theorem hnews_labB {b0:Bid}:∀ (l:List Box) (j:Nat) (H H1:Heap),hnews H (labB b0 j l)=some H1 ->
  (∀ (i:Nat) (x:Box),l[i]?=some x->H1 (b0.1,b0.2 + (j + i))=some x/\H (b0.1,b0.2 + (j + i))=none)/\(∀ b,(∀ i,i < l.length->b ≠ (b0.1,b0.2 + (j + i)))->H1 b=H b)
 | [],j,H,H1,h=>by cases h; exact ⟨fun i x h=>by simp at h,fun b _=>rfl⟩
 | x :: l,j,H,H1,h=>by
  simp only [labB,hnews] at h
  split at h
  ·
   rename_i hn
   obtain ⟨h1,h2⟩:=hnews_labB l (j + 1) _ H1 h
   have hself:H1 (b0.1,b0.2 + j)=some x:=by
    rw [h2 _ fun i _ e=>by simp at e; omega]
    simp [hput]
   refine ⟨fun i y hi=>?_,fun b hb=>?_⟩
   ·
    cases i with
    | zero=>
     simp at hi
     subst hi
     exact ⟨hself,by simpa using hn⟩
    | succ i=>
     obtain ⟨q1,q2⟩:=h1 i y (by simpa using hi)
     rw [show j + 1 + i=j + (i + 1) by omega] at q1 q2
     refine ⟨q1,?_⟩
     simp only [hput] at q2
     rw [if_neg (by simp)] at q2
     exact q2
   ·
    rw [h2 b fun i hi=>by rw [show j + 1 + i=j + (i + 1) by omega]; exact hb (i + 1) (by simp; omega)]
    simp only [hput]
    rw [if_neg]
    have:=hb 0 (by simp)
    simpa using this
  · cases h
theorem hputs_zip:∀ (bs:List Bid) (l:List Box) (H:Heap),bs.Nodup->(∀ b,b ∉ bs->hputs H (bs.zip l) b=H b)/\(∀ (i:Nat) (b:Bid) (x:Box),bs[i]?=some b->l[i]?=some x->hputs H (bs.zip l) b=some x)
 | [],l,H,_=>⟨fun b _=>rfl,fun i b x h=>by simp at h⟩
 | c :: bs,[],H,_=>⟨fun b _=>rfl,fun i b x _ h=>by simp at h⟩
 | c :: bs,y :: l,H,hnd=>by
  obtain ⟨h1,h2⟩:=hputs_zip bs l (hput H c y) (List.nodup_cons.1 hnd).2
  have hc:=(List.nodup_cons.1 hnd).1
  refine ⟨fun b hb=>?_,fun i b x hb hx=>?_⟩
  ·
   simp only [List.zip_cons_cons,hputs]
   rw [h1 b fun h=>hb (List.mem_cons_of_mem _ h)]
   simp only [hput]
   rw [if_neg]
   rintro rfl
   exact hb (by simp)
  ·
   simp only [List.zip_cons_cons,hputs]
   cases i with
   | zero=>
    simp at hb hx
    subst hb hx
    rw [h1 _ hc]
    simp [hput]
   | succ i=>exact h2 i b x (by simpa using hb) (by simpa using hx)
theorem after_of {H H1:Heap} {bs:List Bid} {b0:Bid} {up nw:List Box} {f:AV->AV} (hbs:OkB H bs) (h1:hnews H (labB b0 0 (nw.map (renB f)))=some H1):After H bs b0 up nw f (hputs H1 (bs.zip (up.map (renB f)))):=by
 obtain ⟨q1,q2⟩:=hnews_labB _ _ _ _ h1
 obtain ⟨r1,r2⟩:=hputs_zip bs (up.map (renB f)) H1 hbs.nd
 simp only [Nat.zero_add] at q1 q2
 refine ⟨fun i b x hb hx=>r2 i b _ hb (by rw [List.getElem?_map,hx]; rfl),fun j x hx=>?_,fun b hb hn=>?_⟩
 ·
  obtain ⟨t1,t2⟩:=q1 j (renB f x) (by rw [List.getElem?_map,hx]; rfl)
  refine ⟨?_,t2⟩
  rw [r1 _ fun hm=>?_]
  · exact t1
  ·
   obtain ⟨y,hy,_⟩:=hbs.hot _ hm
   rw [t2] at hy; cases hy
 · rw [r1 b hb,q2 b fun i hi=>hn i (by simpa using hi)]
section
variable {Γ:Ctx} {s:St} {μ:Lay} {a:Act} {w:World} {o:Oper}
theorem run_callFunc {P:Program} {f:FuncId} (h:entersB P f=true) (args:Array Value):(callFunc f args).run P w=.ok (.enter f args) w:=by
 unfold entersB at h
 cases hf:P.funcs[f]? with
 | none=>rw [hf] at h; cases h
 | some fn=>
  rw [hf] at h
  simp only [Bool.and_eq_true,bne_iff_ne,ne_eq] at h
  have hb:fn.body.isNone=false:=by cases hh:fn.body <;> simp_all
  have hn:(fn.name == "runtime.NumGoroutine")=false:=by simpa using h.1
  simp only [callFunc,Sem.run_bind,run_program,Result.andThen_ok,hf,hn,hb,Bool.false_eq_true,if_false,Sem.run_pure]
theorem light_rep {M M' H H' μ' μ''} {w':World} {v:AV} {x:Value} (h:Rep w' M μ' H v x) (hl:light v=true):Rep w' M' μ'' H' v x:=by
 cases h with
 | int=>exact .int _ _ _
 | bool=>exact .bool _ _
 | str=>exact .str _ _
 | nils=>exact .nils _
 | nilp=>exact .nilp _
 | nili=>exact .nili _
 | yl=>exact .yl _ _
 | sl _ k L a c f hc hm hk hv hr=>
  cases L with
  | nil=>exact @Rep.sl w' M' μ'' H' k [] a c f hc hm hk (fun i j hi _=>by simp at hi) (fun i j cs x hi _=>by simp at hi)
  | cons=>simp [light] at hl
 | _=>simp [light] at hl
theorem lightN_rep {w:World} {M M':Nat->Prop} {μ:Lay} {H:Heap}:∀ (d:Nat) {v:AV} {x:Value},Rep w M μ H v x->lightN d v=true->(∀ b,H b ≠ none->b.1=2\/b.1=1)->Rep w M' μ H v x:=by
 intro d
 induction d with
 | zero=>intro v x h hl _; exact light_rep h hl
 | succ d ih=>
  intro v x h hl hH
  cases v with
  | own b n=>
   cases h with
   | own _ _ _ e sz L z hb hn=>exact .own _ _ _ e sz L z hb hn
   | ownd _ _ _ _ hb h1=>exact .ownd _ _ _ _ hb h1
  | ref b n=>cases h with | ref _ _ _ cs g c hb hμ=>exact .ref _ _ _ _ _ c hb hμ
  | pt b k n=>cases h with | pt _ _ _ _ cs g c off m hb hμ hn hm=>exact .pt _ _ _ _ _ _ c _ _ hb hμ hn hm
  | agg cs=>cases h with | agg _ _ vs f hs hv hr=>exact .agg _ _ _ f hs hv fun i c hc=>ih (hr i c hc) (List.all_eq_true.1 hl c (List.mem_of_getElem? hc)) hH
  | fn g cs=>cases h with | fn _ _ _ vs f hs hv hr=>exact .fn _ _ _ _ f hs hv fun i c hc=>ih (hr i c hc) (List.all_eq_true.1 hl c (List.mem_of_getElem? hc)) hH
  | tup cs=>cases h with | tup _ _ vs f hs hv hr=>exact .tup _ _ _ f hs hv fun i c hc=>ih (hr i c hc) (List.all_eq_true.1 hl c (List.mem_of_getElem? hc)) hH
  | ifc t v=>cases h with | ifc _ _ _ y hr=>exact .ifc _ _ _ _ (ih hr hl hH)
  | pnc v=>cases h
  | _=>exact light_rep h hl
theorem lightA_rep {M M' H H' μ' μ''} {w':World} {v:AV} {x:Value} (h:Rep w' M μ' H v x) (hl:lightA v=true):Rep w' M' μ'' H' v x:=by
 cases v with
 | agg cs=>
  have h':=h
  cases h with
  | agg _ _ vs f hs hv hr=>exact .agg _ _ _ f hs hv fun i c hc=>light_rep (hr i c hc) (List.all_eq_true.1 hl c (List.mem_of_getElem? hc))
 | _=>exact light_rep h hl
theorem lightR_rep {M M' H H' μ' μ''} {w':World} {v:AV} {x:Value} (h:Rep w' M μ' H v x) (hl:lightR v=true):Rep w' M' μ'' H' v x:=by
 cases v with
 | tup vs=>
  cases h with
  | tup _ _ ys g hs hv hr=>exact .tup _ _ _ g hs hv fun i c hc=>lightA_rep (hr i c hc) (List.all_eq_true.1 hl c (List.mem_of_getElem? hc))
 | frs e sz L=>cases h
 | pnc v=>cases h
 | _=>exact lightA_rep h hl
theorem mem_light {P:Program} {w w':World} {Mx:Nat->Prop} {pin:Nat->Option (Nat × Nat)} {hr:HR} {μ:Lay} (hm:Mem ⟨P,w,fun _=>False,0,fun _=>none,[],true⟩ (hE hr) μ w') (hpin:∀ i,pin i=none) (hl:lightH hr=true) (hup:hr.up=[]) (hMx:∀ g,Mx g->g < w.heap.size) :
  Mem ⟨P,w,Mx,0,pin,[],true⟩ (hE hr) μ w':=by
 have hio:∀ g,¬ (⟨P,w,Mx,0,pin,[],true⟩:Ctx).io g:=by rintro g ⟨i,c,h⟩; simp only [hpin] at h; cases h
 have hio0:∀ g,¬ (⟨P,w,fun _=>False,0,fun _=>none,[],true⟩:Ctx).io g:=by rintro g ⟨i,c,h⟩; cases h
 simp only [lightH,Bool.and_eq_true] at hl
 have hid:∀ b,hE hr b ≠ none->b.1=2\/b.1=1:=by
  rintro ⟨k,i⟩ hb
  by_cases h1:k=1
  · exact .inr h1
  ·
   by_cases h2:k=2
   · exact .inl h2
   · exact absurd (hE_ne hr k i h1 h2) hb
 refine ⟨fun g hg=>⟨hMx g hg,hio g⟩,fun b x hb=>?_,hm.hi,fun b x g c h1 h2 h3=>(hm.hf b x g c h1 h2 h3).imp_right fun h=>(hio0 g h).elim,?_,fun i x h1 h2=>?_⟩
 ·
  rcases hm.hb b x hb with rfl | ⟨g,c,cur,e,q1,q2,q3⟩ | q
  · exact .inl rfl
  ·
   refine .inr (.inl ⟨g,c,cur,e,q1,q2,?_⟩)
   have hx:lightB x=true:=by
    obtain ⟨k,i⟩:=b
    by_cases h1:k=1
    · subst h1; rw [hE_one,hup] at hb; simp at hb
    ·
     by_cases h2:k=2
     · subst h2; rw [hE_two] at hb; exact List.all_eq_true.1 hl.2 x (List.mem_of_getElem? hb)
     · rw [hE_ne _ _ _ h1 h2] at hb; cases hb
   cases x with
   | obj cs=>
    refine ⟨q3.1,fun i v hv=>?_⟩
    obtain ⟨u,u1,u2,u3⟩:=q3.2 i v hv
    exact ⟨u,u1,u2,lightN_rep 4 u3 (List.all_eq_true.1 hx v (List.mem_of_getElem? hv)) hid⟩
   | row e' sz L z=>
    obtain ⟨p1,p2,p3,p4,p5,p6,p7⟩:=q3
    refine ⟨p1,p2,p3,p4,p5,p6,fun i j xs y hi hj=>?_⟩
    obtain ⟨u,u1,u2,u3⟩:=p7 i j xs y hi hj
    exact ⟨u,u1,u2,light_rep u3 (List.all_eq_true.1 (List.all_eq_true.1 hx xs (List.mem_of_getElem? hi)) y (List.mem_of_getElem? hj))⟩
   | dead=>exact q3.elim
  · exact .inr (.inr q)
 · exact ⟨hm.hw.os,hm.hw.tape,hm.hw.output,hm.hw.size,fun k hk _=>hm.hw.block k hk (hio0 k),hm.hw.nf⟩
 ·
  rw [hE_one,hup] at h1
  simp at h1
theorem hputs_congr {b:Bid}:∀ (l:List (Bid × Box)) {H H':Heap},H b=H' b->hputs H l b=hputs H' l b
 | [],H,H',h=>h
 | (c,x) :: l,H,H',h=>by
  simp only [hputs]
  refine hputs_congr l ?_
  simp only [hput]
  split <;> first | rfl | exact h
theorem getD_args {args:Array Operand} {caps:Array Value} (f:Operand->Value) (i:Nat):((args.map f)++caps).getD i undef=if h:i < args.size then f args[i] else caps.getD (i - args.size) undef:=by
 simp only [Array.getD_eq_getD_getElem?,Array.getElem?_append,Array.size_map]
 by_cases h:i < args.size
 · simp [h]
 · simp [h]
theorem sim_call (h:Rel Γ s μ a w) (hd:∀ t,o.dst=some t->t < Γ.n) {env:Env} (henv:EnvOK Γ.P env) {f:Operand} {args:Array Operand} {ts:Array TypeId} (ho:o.op=.call ⟨.value f,args,ts⟩) {r:R}
  (hr:vCall (nid o.dst) s.H env (eva s.t f) (args.toList.map (eva s.t))=some r):SimR Γ s μ a w o r:=by
 have hf:=eva_rep h f
 cases hF:eva s.t f <;> rw [hF] at hr hf <;> simp only [vCall] at hr <;> try (cases hr; done)
 rename_i g caps
 cases hS:env.lookup g with
 | none=>rw [hS] at hr; simp [callS] at hr
 | some S=>
  rw [hS] at hr
  obtain ⟨hent,hsound⟩:=henv g S hS
  generalize hfv:a.eval f=fv at hf
  cases hf with
  | fn _ _ _ vs gg hs hv hrr=>
   have hargs:∀ i v,(args.toList.map (eva s.t)++caps)[i]?=some v->Rep w (forb Γ.Mx μ s.H) μ s.H v (((args.map a.eval)++vs).getD i undef):=by
    intro i v hi
    rw [getD_args]
    by_cases hlt:i < args.size
    ·
     rw [List.getElem?_append_left (by simpa using hlt),List.getElem?_map] at hi
     simp only [Array.getElem?_toList,Array.getElem?_eq_getElem hlt,Option.map_some,Option.some.injEq] at hi
     rw [dif_pos hlt,<-hi]
     exact eva_rep h _
    ·
     rw [List.getElem?_append_right (by simpa using hlt)] at hi
     simp only [List.length_map,Array.length_toList] at hi
     have hl:=(List.getElem?_eq_some_iff.1 hi).1
     rw [dif_neg hlt]
     have:vs.getD (i - args.size) undef=gg (i - args.size):=by simp [Array.getD_eq_getD_getElem?,hv _ hl]
     rw [this]
     exact hrr _ _ hi
   have hsz:((args.map a.eval)++vs).size=(args.toList.map (eva s.t)++caps).length:=by simp [hs]
   have hrun:(execOp a.eval o).run Γ.P w=.ok (.enter g ((args.map a.eval)++vs)) w:=by
    simp only [execOp,ho,resolve,hfv,Deferred.ofValue,invoke,Sem.run_bind,Sem.run_pure,Result.andThen_ok,Array.empty_append,run_callFunc hent]
   cases S with
   | p S=>
    simp only [callS] at hr
    simp only [ConOK] at hsound
    cases hrS:S ((args.toList.map (eva s.t)++caps).map (view s.H 3)) with
    | none=>rw [hrS] at hr; simp [callR] at hr
    | some rv=>
     rw [hrS] at hr
     have fin:∀ (Mx:Nat->Prop) (H':Heap) (up:List (Bid × Box)),H'=hputs s.H up->(∀ b,s.H b=none->∀ p ∈ up,p.1 ≠ b)->Rel Γ ⟨s.t,H'⟩ μ a w->(∀ g,Mx g->g < w.heap.size) ->
       (∀ i v,((args.toList.map (eva s.t)++caps).map (view s.H 3))[i]?=some v->Rep w Mx noLay noH v (((args.map a.eval)++vs).getD i undef)) ->
       (∀ w' v x,Below w.heap.size w w'->(∀ p,rv ≠ .pnc p)->(∀ e sz L,rv ≠ .frs e sz L)->v=rv->Rep w' Mx noLay noH v x->Rep w' (forb Γ.Mx μ H') μ H' v x) ->
       (∀ w' p x,rv=.pnc p->Below w.heap.size w w'->Rep w' Mx noLay noH p x->Rep w' (forb Γ.Mx μ H') μ H' p x) ->
       (∀ w' e sz L v x g,rv=.frs e sz L->(∃ xs ∈ L,v ∈ xs)->Rep w' (fun k=>Mx k\/k=g) noLay noH v x->∀ M,(∀ k,k ≠ g->¬ forb Γ.Mx μ H' k->¬ M k)->∀ μ',Rep w' M μ' noH v x) ->
       r=took (nid o.dst) up rv->SimR Γ s μ a w o r:=by
      intro Mx H' up hH' hup hR hMx hvals hplain hpnc hfrs hrr
      intro H1 hH1 K Q hK hQ
      have hc:=hsound _ rv hrS w Mx _ hMx (by rw [hsz]; simp) hvals
      unfold Oper.wp
      rw [hrun]
      simp only [Oper.upon]
      refine hc.mono fun e w' he=>?_
      obtain ⟨⟨hbel,hnfz⟩,hpost⟩:=he
      rcases hpost with ⟨p,x,rfl,rfl,hp⟩ | ⟨hnp,v,rfl,hv⟩
      ·
       subst hrr
       simp only [took,AE.hnews,Option.some.injEq] at hH1
       subst hH1
       refine hQ p rfl x μ w' ?_ ?_
       ·
        rw [show (took (nid o.dst) up (.pnc p)).up=up from rfl,<-hH']
        exact hR.grow hbel hnfz
       ·
        rw [show (took (nid o.dst) up (.pnc p)).up=up from rfl,<-hH']
        exact hpnc w' p x rfl hbel hp
      ·
       by_cases hfr:∃ e sz L,rv=.frs e sz L
       ·
        obtain ⟨e,sz,L,rfl⟩:=hfr
        subst hrr
        obtain ⟨g',c,cur,rfl,hge,hcell,hbox⟩:=hv
        simp only [took,AE.hnews] at hH1
        split at hH1
        ·
         rename_i hn
         cases hH1
         have hn':s.H (nid o.dst)=none:=by simpa using hn
         have hHn:H' (nid o.dst)=none:=by rw [hH',hputs_at _ _ (hup _ hn')]; exact hn'
         refine hK rfl (lput μ (nid o.dst) (some (g',c))) _ _ ?_
         have hst:hputs (hput s.H (nid o.dst) (.row e sz L false)) up=hput H' (nid o.dst) (.row e sz L false):=by rw [hputs_out _ _ (hup _ hn'),hH']
         simp only [took]
         rw [hst]
         obtain ⟨_,c1,c2,c3,c4,c5,c6⟩:=hbox
         have hRn:=hR.newbox hHn rfl hbel hnfz hge hcell (c:=c) (x:=.row e sz L false) (fun M μ' H'' hM hle hμ'=>⟨rfl,c1,c2,c3,c4,c5,fun i j xs y hi hj=>by
          obtain ⟨uu,u1,u2,u3⟩:=c6 i j xs y hi hj
          refine ⟨uu,u1,u2,?_⟩
          by_cases hlt:True
          · exact (hfrs w' e sz L y uu g' rfl ⟨xs,List.mem_of_getElem? hi,List.mem_of_getElem? hj⟩ u3 (fun k=>M k/\k < w'.heap.size) (fun k hk hf hh=>hM k hh.2 hk hf hh.1) noLay).mono (fun k hk hh=>⟨fun hm=>hh ⟨hm,hk⟩,rfl⟩) (HLe.refl _) (fun b hb=>absurd rfl hb)
          · exact absurd trivial hlt⟩)
         refine hRn.put hd ?_
         have:=@Rep.own w' (forb Γ.Mx (lput μ (nid o.dst) (some (g',c))) (hput H' (nid o.dst) (.row e sz L false))) (lput μ (nid o.dst) (some (g',c))) (hput H' (nid o.dst) (.row e sz L false)) (nid o.dst) L.length _ _ _ _ (hput_same _ _ _) (Nat.le_refl _)
         simpa [lput,sliceV] using this
        · cases hH1
       ·
        have hnf:∀ e sz L,rv ≠ .frs e sz L:=fun e sz L he=>hfr ⟨e,sz,L,he⟩
        have hv':Rep w' Mx noLay noH rv v:=by cases rv <;> first | exact hv | exact absurd rfl (hnf _ _ _)
        have htook:took (nid o.dst) up rv=⟨rv,[],up,[],none⟩:=by cases rv <;> first | rfl | exact absurd rfl (hnf _ _ _) | exact absurd rfl (hnp _)
        rw [htook] at hrr
        subst hrr
        simp only [AE.hnews,Option.some.injEq] at hH1
        subst hH1
        refine hK rfl μ _ _ ?_
        simp only []
        rw [<-hH']
        exact (hR.grow hbel hnfz).put hd (hplain w' rv v hbel hnp hnf rfl hv')
     simp only [callR] at hr
     split at hr
     ·
      rename_i hl
      cases hr
      refine fin (fun _=>False) s.H [] rfl (by simp) h (fun g hg=>hg.elim) ?_ ?_ ?_ ?_ rfl
      ·
       intro i v hi
       rw [List.getElem?_map,Option.map_eq_some_iff] at hi
       obtain ⟨v',hv',rfl⟩:=hi
       exact view_rep h 3 v' _ (hargs i v' hv') noLay noH
      ·
       intro w' v x _ h1 h2 hvv hx
       subst hvv
       exact lightR_rep hx hl
      ·
       intro w' p x hp _ hx
       subst hp
       obtain ⟨t,v,rfl,hl⟩:∃ t v,p=.ifc t v/\lightA v=true:=by cases p <;> first | exact ⟨_,_,rfl,hl⟩ | (simp [lightR,lightA,light] at hl)
       cases hx with
       | ifc _ _ _ y hr=>exact .ifc _ _ _ _ (lightA_rep hr hl)
      ·
       intro w' e sz L v x g he hmem hx M _ μ'
       subst he
       obtain ⟨xs,hxs,hvx⟩:=hmem
       simp only [lightR,List.all_eq_true] at hl
       exact light_rep hx (hl xs hxs v hvx)
     ·
      split at hr
      ·
       rename_i hp
       cases hr
       obtain ⟨H',hH',hR',hrep⟩:=frz_rep h 2 hp
       refine fin (forb Γ.Mx μ H') H' _ hH' (fun b hb=>frzs_ids hb _) hR' (fun g hg=>?_) ?_ ?_ ?_ ?_ rfl
       ·
        rcases hg with hg | ⟨b,y,c,q1,q2,q3⟩
        · exact Nat.lt_of_lt_of_le (h.hx g hg).1 h.hw.size
        · exact hR'.lt q1 (hot_live q2) q3
       ·
        intro i v hi
        rw [List.getElem?_map,Option.map_eq_some_iff] at hi
        obtain ⟨v',hv',rfl⟩:=hi
        exact hrep v' _ (List.mem_of_getElem? hv') (hargs i v' hv') noLay noH
       · intro w' v x _ _ _ _ hx; exact hx.ofNo
       · intro w' p x _ _ hx; exact hx.ofNo
       ·
        intro w' e sz L v x g _ _ hx M hM μ'
        exact hx.mono (fun k hk hh=>⟨fun hm=>hh (by
         by_cases hkg:k=g
         · exact .inr hkg
         ·
          by_cases hf:forb Γ.Mx μ H' k
          · exact .inl hf
          · exact absurd hm (hM k hkg hf)),rfl⟩) (HLe.refl _) (fun b hb=>absurd rfl hb)
      · cases hr
   | h S=>
    simp only [callS,runH] at hr
    simp only [ConOK] at hsound
    have hbs:OkB s.H ((args.toList.map (eva s.t)++caps).foldl (coll s.H 6) []):=foldl_ok (fun acc v=>coll_ok 6 acc v) _ _ (OkB.nil _)
    generalize hbl:(args.toList.map (eva s.t)++caps).foldl (coll s.H 6) []=bs at hr hbs
    cases hrS:S ((args.toList.map (eva s.t)++caps).map (told s.H bs 5)) (boxC s.H bs) with
    | none=>rw [show (bs.map fun b=>renB (told s.H bs 5) ((s.H b).getD .dead))=boxC s.H bs from rfl,hrS] at hr; simp [callH] at hr
    | some hv=>
     rw [show (bs.map fun b=>renB (told s.H bs 5) ((s.H b).getD .dead))=boxC s.H bs from rfl,hrS] at hr
     obtain ⟨hgo,hs2⟩:=hsound _ _ hv hrS
     have hc:=hs2 w (MxC Γ s.H μ bs) (pinC bs μ) ((args.map a.eval)++vs) (layC bs μ) ⟨start_mem h hbs,by rw [hsz]; simp,fun i v hi=>by
      rw [List.getElem?_map,Option.map_eq_some_iff] at hi
      obtain ⟨v',hv',rfl⟩:=hi
      exact told_rep h hbs 5 v' _ (hargs i v' hv'),fun x hx=>by
      obtain ⟨i,hi⟩:=List.mem_iff_getElem?.1 hx
      obtain ⟨b,y,_,_,q,rfl⟩:=boxC_at hbs hi
      rw [renB_hot]; exact q⟩ (fun i hi=>by
      have:bs.length<=i:=by simpa [boxC] using hi
      simp [pinC,List.getElem?_eq_none this])
     have hup:r.nw=labB (nid o.dst) 0 (hv.nw.map (renB (back bs (nid o.dst) 5)))/\r.up=bs.zip (hv.up.map (renB (back bs (nid o.dst) 5)))/\((∃ p,hv.v=.pnc p/\r.pan=some (back bs (nid o.dst) 5 p))\/((∀ p,hv.v ≠ .pnc p)/\r.pan=none/\r.v=back bs (nid o.dst) 5 hv.v)):=by
      obtain ⟨v,up,nw⟩:=hv
      cases v <;> simp only [callH,Option.some.injEq] at hr <;> subst hr <;> refine ⟨rfl,rfl,?_⟩ <;> first | exact .inl ⟨_,rfl,rfl⟩ | exact .inr ⟨(by simp),rfl,rfl⟩
     obtain ⟨hu1,hu2,hu3⟩:=hup
     intro H1 hH1 K Q hK hQ
     rw [hu1] at hH1
     have hA:=after_of (up:=hv.up) hbs hH1
     rw [<-hu2] at hA
     unfold Oper.wp
     rw [hrun]
     simp only [Oper.upon]
     refine hc.mono fun e w' he=>?_
     obtain ⟨μ',hm,hpost⟩:=he
     obtain ⟨μ'',hR,hback⟩:=end_rel h hbs hgo (b0:=nid o.dst) rfl hm hA
     rcases hu3 with ⟨p,hp,hpan⟩ | ⟨hnp,hpan,hvv⟩
     ·
      rcases hpost with ⟨p',x,q1,rfl,q2⟩ | ⟨q1,_⟩
      ·
       rw [hp] at q1; cases q1
       exact hQ _ hpan x μ'' w' hR (hback 5 p x q2)
      · exact absurd hp (q1 p)
     ·
      rcases hpost with ⟨p',x,q1,_⟩ | ⟨q1,v,rfl,q2⟩
      · exact absurd q1 (hnp p')
      ·
       refine hK hpan μ'' _ _ ?_
       rw [hvv]
       exact hR.put hd (hback 5 hv.v v q2)
   | v S=>
    simp only [callS] at hr
    simp only [ConOK] at hsound
    cases hrS:S ((args.toList.map (eva s.t)++caps).map (view s.H 3)) [] with
    | none=>rw [hrS] at hr; simp [callV] at hr
    | some hv=>
     rw [hrS] at hr
     obtain ⟨hgo,hs2⟩:=hsound _ _ hv hrS
     have hup:hv.up=[]:=by
      have:=(goOns_at hgo).1
      exact List.eq_nil_of_length_eq_zero (by simpa using this.symm)
     have hB0:hB []=noH:=rfl
     have yield:∀ r0,callH (nid o.dst) [] (some hv)=some r0->r0.nw=labB (nid o.dst) 0 (hv.nw.map (renB (back [] (nid o.dst) 5)))/\r0.up=[]/\((∃ p,hv.v=.pnc p/\r0.pan=some (back [] (nid o.dst) 5 p))\/((∀ p,hv.v ≠ .pnc p)/\r0.pan=none/\r0.v=back [] (nid o.dst) 5 hv.v)):=by
      intro r0 h0
      obtain ⟨v,up,nw⟩:=hv
      cases v <;> simp only [callH,Option.some.injEq] at h0 <;> subst h0 <;> refine ⟨rfl,rfl,?_⟩ <;> first | exact .inl ⟨_,rfl,rfl⟩ | exact .inr ⟨(by simp),rfl,rfl⟩
     have fin:∀ (H':Heap) (hR:Rel Γ ⟨s.t,H'⟩ μ a w),(∀ H1,hnews s.H r.nw=some H1->After H' [] (nid o.dst) [] hv.nw (back [] (nid o.dst) 5) (hputs H1 r.up)) ->
       ((∃ p,hv.v=.pnc p/\r.pan=some (back [] (nid o.dst) 5 p))\/((∀ p,hv.v ≠ .pnc p)/\r.pan=none/\r.v=back [] (nid o.dst) 5 hv.v)) ->
       Calls Γ.P g ((args.map a.eval)++vs) w (fun e w'=>∃ μ',Mem ⟨Γ.P,w,MxC Γ H' μ [],0,pinC [] μ,[],true⟩ (hE hv) μ' w'/\((∃ p x,hv.v=.pnc p/\e=.panicked [{ v:=x,recovered:=false }]/\Rep w' (forb (MxC Γ H' μ []) μ' (hE hv)) μ' (hE hv) p x)\/((∀ p,hv.v ≠ .pnc p)/\∃ v,e=.returned v/\Rep w' (forb (MxC Γ H' μ []) μ' (hE hv)) μ' (hE hv) hv.v v)))->SimR Γ s μ a w o r:=by
      intro H' hR hA hu3 hc H1 hH1 K Q hK hQ
      have hA:=hA H1 hH1
      unfold Oper.wp
      rw [hrun]
      simp only [Oper.upon]
      refine hc.mono fun e w' he=>?_
      obtain ⟨μ',hm,hpost⟩:=he
      obtain ⟨μ'',hRR,hback⟩:=end_rel (hr:=hv) hR (OkB.nil _) hgo (b0:=nid o.dst) rfl hm (by rw [hup]; exact hA)
      rcases hu3 with ⟨p,hp,hpan⟩ | ⟨hnp,hpan,hvv⟩
      ·
       rcases hpost with ⟨p',x,q1,rfl,q2⟩ | ⟨q1,_⟩
       ·
        rw [hp] at q1; cases q1
        exact hQ _ hpan x μ'' w' hRR (hback 5 p x q2)
       · exact absurd hp (q1 p)
      ·
       rcases hpost with ⟨p',x,q1,_⟩ | ⟨q1,v,rfl,q2⟩
       · exact absurd q1 (hnp p')
       ·
        refine hK hpan μ'' _ _ ?_
        rw [hvv]
        exact hRR.put hd (hback 5 hv.v v q2)
     simp only [callV] at hr
     split at hr
     ·
      rename_i hl
      obtain ⟨y1,y2,y3⟩:=yield r hr
      refine fin s.H h (fun H1 hH1=>?_) y3 ?_
      ·
       rw [y1] at hH1
       rw [y2]
       exact after_of (up:=[]) (OkB.nil _) hH1
      ·
       have hc:=hs2 w (fun _=>False) (fun _=>none) ((args.map a.eval)++vs) noLay ⟨⟨fun g hg=>hg.elim,fun b x hx=>(by cases hx),fun b b' x x' g c c' hx=>(by cases hx),fun b x g c hx=>(by cases hx),BelowX.refl _ _ _,fun i x hx=>(by cases hx)⟩,by rw [hsz]; simp,fun i v hi=>by
        rw [List.getElem?_map,Option.map_eq_some_iff] at hi
        obtain ⟨v',hv',rfl⟩:=hi
        exact (view_rep h 3 v' _ (hargs i v' hv') noLay noH).mono (fun g _ hg=>⟨(fun hh=>hh.elim hg fun ⟨b,x,c,hx,_⟩=>by cases hx),rfl⟩) (HLe.refl _) (fun b hb=>absurd rfl hb),by simp⟩ (fun _ _=>rfl)
       refine hc.mono fun e w' he=>?_
       obtain ⟨μ',hm,hpost⟩:=he
       have hid:∀ b,hE hv b ≠ none->b.1=2\/b.1=1:=by
        rintro ⟨k,i⟩ hb
        by_cases h1:k=1
        · exact .inr h1
        ·
         by_cases h2:k=2
         · exact .inl h2
         · exact absurd (hE_ne hv k i h1 h2) hb
       have hl1:lightN 5 hv.v=true:=by simp only [lightH,Bool.and_eq_true] at hl; exact hl.1
       refine ⟨μ',mem_light hm (fun i=>by simp [pinC]) hl hup (fun g hg=>?_),?_⟩
       ·
        rcases hg.1 with hx | ⟨b,y,c,q1,q2,q3⟩
        · exact Nat.lt_of_lt_of_le (h.hx g hx).1 h.hw.size
        · exact h.lt q1 (hot_live q2) q3
       ·
        rcases hpost with ⟨p,x,q1,q2,q3⟩ | ⟨q1,v,q2,q3⟩
        ·
         rw [q1] at hl1
         exact .inl ⟨p,x,q1,q2,lightN_rep 4 q3 hl1 hid⟩
        · exact .inr ⟨q1,v,q2,lightN_rep 5 q3 hl1 hid⟩
     ·
      split at hr
      ·
       rename_i hp
       cases h0:callH (nid o.dst) [] (some hv) with
       | none=>rw [h0] at hr; cases hr
       | some r0=>
        rw [h0] at hr
        simp only [withUp,Option.some.injEq] at hr
        obtain ⟨y1,y2,y3⟩:=yield r0 h0
        obtain ⟨H',hH',hR',hrep⟩:=frz_rep h 2 hp
        subst hr
        refine fin H' hR' (fun H1 hH1=>?_) y3 ?_
        ·
         simp only at hH1 ⊢
         rw [y1] at hH1
         obtain ⟨q1,q2⟩:=hnews_labB _ _ _ _ hH1
         simp only [Nat.zero_add] at q1 q2
         refine ⟨fun i b x hb=>by simp at hb,fun j x hx=>?_,fun b _ hn=>?_⟩
         ·
          obtain ⟨t1,t2⟩:=q1 j (renB (back [] (nid o.dst) 5) x) (by rw [List.getElem?_map,hx]; rfl)
          rw [hputs_at _ _ (frzs_ids t2 _),hH',hputs_at _ _ (frzs_ids t2 _)]
          exact ⟨t1,t2⟩
         ·
          rw [hH']
          exact hputs_congr _ (q2 b fun i hi=>hn i (by simpa using hi))
        ·
         have hst:=start_mem hR' (OkB.nil H')
         refine (hs2 w (MxC Γ H' μ []) (pinC [] μ) ((args.map a.eval)++vs) (layC [] μ) ⟨hst,by rw [hsz]; simp,fun i v hi=>?_,by simp⟩ (fun i _=>by simp [pinC]))
         rw [List.getElem?_map,Option.map_eq_some_iff] at hi
         obtain ⟨v',hv',rfl⟩:=hi
         exact (hrep v' _ (List.mem_of_getElem? hv') (hargs i v' hv') noLay noH).mono (fun g _ hg=>⟨fun hh=>hg (forbC (s:=⟨s.t,H'⟩) (OkB.nil H') hh),rfl⟩) (HLe.noH _) (fun b hb=>absurd rfl hb)
      · cases hr
end
def opOK (P:Program) (n:Nat) (o:Oper):Bool:=
 (match o.dst with | some d=>decide (d < n) | none=>true) &&
 match o.op with
 | .store _ _ _=>o.dst.isNone
 | .convert t _ _=>(P.underlying t).isSome
 | .makeInterface t _=>(match P.underlying t with | some (.interface _)=>false | some _=>true | none=>false)
 | _=>true
theorem opOK_dst {P:Program} {n:Nat} {o:Oper} (h:opOK P n o=true):∀ t,o.dst=some t->t < n:=by
 intro t ht
 simp only [opOK,ht,Bool.and_eq_true,decide_eq_true_eq] at h
 exact h.1
section
variable {Γ:Ctx} {s:St} {μ:Lay} {a:Act} {w:World} {o:Oper} {env:Env}
theorem sim_val (h:Rel Γ s μ a w) (hok:opOK Γ.P Γ.n o=true) (henv:EnvOK Γ.P env) {r:R} (hr:aVal (TI.of Γ.P) env o.dst o.op (eva s.t) s.H=some r):SimR Γ s μ a w o r:=by
 have hd:=opOK_dst hok
 generalize hop:o.op=op at hr
 unfold aVal at hr
 split at hr
 · cases val_inj hr; exact sim_move h hd hop
 · cases val_inj hr; exact sim_assign h hd hop
 · exact sim_pick h hd hop hr
 · exact sim_alloc h hd hop hr
 · exact sim_box h hd hop hr
 · exact sim_build h hd hop hr
 · exact sim_buildSlice h hd hop hr
 · exact sim_load h hd hop hr
 ·
  refine sim_store h ?_ hop hr
  simp only [opOK,hop,Bool.and_eq_true] at hok
  simpa using hok.2
 · exact sim_nil h hd hop hr
 · exact sim_binOp h hd hop hr
 ·
  rename_i uo _ _
  cases uo <;> simp only [vUn] at hr <;> first | exact sim_not h hd hop hr | exact sim_neg h hd hop hr | (cases hr; done)
 ·
  refine sim_conv h hd hop hr ?_
  simp only [opOK,hop,Bool.and_eq_true] at hok
  exact hok.2
 ·
  simp only [opOK,hop,Bool.and_eq_true] at hok
  have hok2:=hok.2
  split at hok2
  · cases hok2
  · rename_i d hni hu; exact sim_iface h hd hop hr hu (fun ms he=>hni ms he)
  · cases hok2
 · exact sim_panic h hop hr
 ·
  rename_i fn first caps
  generalize hfl:first.toList=fl at hr
  unfold vFunc at hr
  split at hr
  ·
   cases val_inj hr
   have:first=#[]:=by cases first; simp at hfl; rw [hfl]
   subst this
   exact sim_makeFunc h hd hop
  · cases hr
 ·
  rename_i t x lo hi mx
  cases mx with
  | none=>
   simp only [vSliceM] at hr
   cases hX:eva s.t x with
   | iref cs p=>
    rw [hX] at hr
    simp only [vSliceA] at hr
    split at hr
    ·
     rename_i hlh
     simp only [Bool.and_eq_true,Option.isNone_map,Option.isNone_iff_eq_none] at hlh
     obtain ⟨rfl,rfl⟩:=hlh
     exact sim_arrS h hd hop hX hr
    · cases hr
   | _=>exact sim_slice h hd hop (by rw [hX] at hr ⊢; exact hr)
  | some m=>cases hr
 · exact sim_fieldAddr h hd hop hr
 · exact sim_field h hd hop hr
 · exact sim_indexAddr h hd hop hr
 · exact sim_index h hd hop hr
 · exact sim_extract h hd hop hr
 ·
  rename_i c
  obtain ⟨callee,args,ts⟩:=c
  simp only at hr
  cases callee with
  | invoke r m=>cases hr
  | value f=>exact sim_call h hd henv hop hr
  | builtin b=>
   simp only [vCallC] at hr
   generalize hal:args.toList=al at hr
   generalize htl:ts.toList=tl at hr
   have hargs:args=al.toArray:=by rw [<-hal]
   have hts:ts=tl.toArray:=by rw [<-htl]
   subst hargs
   subst hts
   unfold vBuiltin at hr
   split at hr
   · exact sim_len h hd hop hr
   · exact sim_max h hd hop hr
   · exact sim_max4 h hd hop hr
   · exact sim_min h hd hop hr
   ·
    split at hr
    · rename_i he; subst he; exact sim_append h hd hop hr
    · exact sim_zeros h hd hop hr
   · exact sim_cap h hd hop hr
   · cases hr
 · cases hr
def StepK (Γ:Ctx) (out:Out) (K:Act->World->Prop) (Q:Exit->Act->World->Prop):Prop:=
 (out.pan=none->∀ μ' a' w',Rel Γ out.s μ' a' w'->K a' w') /\
 (∀ v,out.pan=some v->∀ x μ' a' w',Rel Γ out.s μ' a' w'->Rep w' (forb Γ.Mx μ' out.s.H) μ' out.s.H v x->Q (.panic [{ v:=x,recovered:=false }]) a' w')
theorem fin_some {d:Option Tmp} {s:St} {x:Option R} {out:Out} (h:fin d s x=some out):∃ r H1,x=some r/\hnews s.H r.nw=some H1/\out=⟨⟨match r.pan with | none=>tput s.t d r.v | some _=>s.t,hputs H1 r.up⟩,r.up.map (·.1),r.fp,r.pan⟩:=by
 cases x with
 | none=>cases h
 | some r=>
  simp only [fin] at h
  cases hn:hnews s.H r.nw with
  | none=>rw [hn] at h; cases h
  | some H1=>rw [hn] at h; simp only [finH,Option.some.injEq] at h; exact ⟨r,H1,rfl,hn,h.symm⟩
theorem sim_fin (h:Rel Γ s μ a w) (hok:opOK Γ.P Γ.n o=true) (henv:EnvOK Γ.P env) {out:Out} (hs:fin o.dst s (aVal (TI.of Γ.P) env o.dst o.op (eva s.t) s.H)=some out) {K:Act->World->Prop} {Q:Exit->Act->World->Prop} (hk:StepK Γ out K Q):o.wp Γ.P a w K Q:=by
 obtain ⟨r,H1,h1,h2,rfl⟩:=fin_some hs
 refine sim_val h hok henv h1 H1 h2 K Q (fun hp μ' a' w' hR=>hk.1 hp μ' a' w' ?_) (fun v hp x μ' w' hR hv=>hk.2 v hp x μ' a w' ?_ ?_)
 · simp only [hp]; exact hR
 · simp only [hp]; exact hR
 · exact hv
theorem guard_ud (h:Rel Γ s μ a w) {ops:Array Oper} {j:Nat} (hg:guardV ops j s.t=.tup []):yielded ops a.tmps j=none:=by
 unfold guardV at hg
 cases hd:(ops[j]?).bind (·.dst) with
 | none=>rw [hd] at hg; cases hg
 | some d=>
  rw [hd] at hg
  simp only at hg
  have hr:=h.ht d
  rw [hg] at hr
  have hv:a.tmps.getD d undef=undef:=by
   generalize a.tmps.getD d undef=v at hr
   cases hr with
   | tup _ _ vs g hs hv hr=>
    have:vs=#[]:=Array.eq_empty_of_size_eq_zero (by simpa using hs)
    rw [this]; rfl
  unfold yielded
  rw [hd,Option.bind_some]
  rw [Array.getD_eq_getD_getElem?] at hv
  cases hh:a.tmps[d]? with
  | none=>rfl
  | some y=>rw [hh] at hv; simp only [Option.getD_some] at hv; rw [hv]; rfl
theorem guard_ok (h:Rel Γ s μ a w) {ops:Array Oper} {j:Nat} {b:Bool} (hg:guardV ops j s.t=.bool b):yielded ops a.tmps j=some b:=by
 unfold guardV at hg
 unfold yielded
 cases hd:(ops[j]?).bind (·.dst) with
 | none=>rw [hd] at hg; cases hg
 | some d=>
  rw [hd] at hg
  simp only at hg
  have:=h.ht d
  rw [hg] at this
  have hv:=this.bool_inv
  have:a.tmps[d]?=some (.bool b):=by
   rw [Array.getD_eq_getD_getElem?] at hv
   cases hh:a.tmps[d]? with
   | none=>rw [hh] at hv; simp [undef] at hv
   | some y=>rw [hh] at hv; simp at hv; rw [hv]
  simp [this]
theorem sim_step (h:Rel Γ s μ a w) (hok:opOK Γ.P Γ.n o=true) (henv:EnvOK Γ.P env) {ops:Array Oper} {out:Out} (hs:aStep (TI.of Γ.P) env ops o s=some out) {K:Act->World->Prop} {Q:Exit->Act->World->Prop} (hk:StepK Γ out K Q) :
  if Region.wanted o (yielded ops a.tmps) then o.wp Γ.P a w K Q else K (a.put o.dst undef) w:=by
 unfold aStep at hs
 cases hg:o.guard with
 | none=>
  rw [hg] at hs
  rw [if_pos (by simp [Region.wanted,hg])]
  exact sim_fin h hok henv hs hk
 | some jw=>
  obtain ⟨j,want⟩:=jw
  rw [hg] at hs
  simp only at hs
  have hskip:Rep w (forb Γ.Mx μ s.H) μ s.H (.tup []) undef:=.tup _ _ _ (fun _=>default) rfl (fun i hi=>absurd hi (by simp)) (fun i c hc=>by simp at hc)
  by_cases hud:guardV ops j s.t=.tup []
  ·
   rw [hud] at hs
   simp only [guarded,Option.some.injEq] at hs
   subst hs
   rw [if_neg (by simp [Region.wanted,hg,guard_ud h hud])]
   exact hk.1 rfl μ _ _ (h.put (opOK_dst hok) hskip)
  have hex:∃ b,guardV ops j s.t=.bool b:=by
   cases hv:guardV ops j s.t with
   | bool b=>exact ⟨b,rfl⟩
   | tup l=>cases l with
    | nil=>exact absurd hv hud
    | cons x l=>rw [hv] at hs; cases hs
   | _=>rw [hv] at hs; cases hs
  obtain ⟨b,hv⟩:=hex
  rw [hv] at hs
  simp only [guarded] at hs
  have hy:=guard_ok h hv
  split at hs
  ·
   rename_i hb
   rw [if_pos (by simp [Region.wanted,hg,hy,hb])]
   exact sim_fin h hok henv hs hk
  ·
   rename_i hb
   rw [if_neg (by simp [Region.wanted,hg,hy,hb])]
   cases hs
   exact hk.1 rfl μ _ _ (h.put (opOK_dst hok) hskip)
def RunK (Γ:Ctx) (rn:Run) (Q:Exit->Act->World->Prop):Prop:=match rn with
 | .done s' _=>∀ μ' a' w',Rel Γ s' μ' a' w'->Q .normal a' w'
 | .pan s' v=>∀ x μ' a' w',Rel Γ s' μ' a' w'->Rep w' (forb Γ.Mx μ' s'.H) μ' s'.H v x->Q (.panic [{ v:=x,recovered:=false }]) a' w'
 | .bad=>False
theorem sim_list {ops:Array Oper} (henv:EnvOK Γ.P env) {Q:Exit->Act->World->Prop}:∀ (l:List Oper) (s:St) (μ:Lay) (a:Act) (w:World),(∀ o ∈ l,opOK Γ.P Γ.n o=true)->Rel Γ s μ a w->RunK Γ (aRun (TI.of Γ.P) env ops l s) Q->wpList Γ.P ops Q l a w
 | [],s,μ,a,w,_,h,hk=>hk μ a w h
 | o :: l,s,μ,a,w,hok,h,hk=>by
  refine wpList_step fun K hK=>?_
  simp only [aRun] at hk
  cases hs:aStep (TI.of Γ.P) env ops o s with
  | none=>rw [hs] at hk; exact hk.elim
  | some out=>
   rw [hs] at hk
   refine sim_step h (hok o (by simp)) henv hs ⟨fun hp μ' a' w' hR=>hK _ _ ?_,fun v hp x μ' a' w' hR hx=>?_⟩
   ·
    obtain ⟨s',c,f,pan⟩:=out
    simp only at hp
    subst hp
    simp only at hk
    refine sim_list henv l s' μ' a' w' (fun o ho=>hok o (by simp [ho])) hR ?_
    cases hrn:aRun (TI.of Γ.P) env ops l s' with
    | done s'' tr=>rw [hrn] at hk; exact hk
    | pan s'' v=>rw [hrn] at hk; exact hk
    | bad=>rw [hrn] at hk; exact hk
   ·
    obtain ⟨s',c,f,pan⟩:=out
    simp only at hp
    subst hp
    simp only at hk
    exact hk x μ' a' w' hR hx
theorem step_exists (h:Rel Γ s μ a w) (hok:opOK Γ.P Γ.n o=true) (henv:EnvOK Γ.P env) {ops:Array Oper} {out:Out} (hs:aStep (TI.of Γ.P) env ops o s=some out):∃ μ' a' w',Rel Γ out.s μ' a' w':=by
 by_cases hex:∃ μ' a' w',Rel Γ out.s μ' a' w'
 · exact hex
 ·
  exfalso
  have:=sim_step (K:=fun _ _=>False) (Q:=fun _ _ _=>False) h hok henv hs ⟨fun _ μ' a' w' hR=>hex ⟨μ',a',w',hR⟩,fun _ _ _ μ' a' w' hR _=>hex ⟨μ',a',w',hR⟩⟩
  split at this
  ·
   unfold Oper.wp at this
   generalize (execOp a.eval o).run Γ.P w=res at this
   cases res with
   | ok n w'=>
    cases n <;> simp only [Oper.upon] at this
    ·
     obtain ⟨e,w'',fr,hR,_⟩:=this []
     cases e with
     | returned v=>exact hR
     | panicked c=>exact hR
     | outgrown=>obtain ⟨_,_,hR⟩:=hR; exact hR
    ·
     obtain ⟨_,_,hR,_⟩:=this default []
     exact hR
   | halt x w'=>cases x <;> simp only [Oper.upon] at this
  · exact this
end
section
variable {Γ:Ctx} {s:St} {μ:Lay} {a:Act} {w:World} {o:Oper} {env:Env}
theorem rep_own {M H} {b:Bid} {n:Nat} {x:Value} (h:Rep w M μ H (.own b n) x):H b ≠ none:=by cases h <;> simp_all
theorem rep_ows {M H} {b:Bid} {l n:Nat} {x:Value} (h:Rep w M μ H (.ows b l n) x):H b ≠ none:=by cases h <;> simp_all
theorem rep_ref {M H} {b:Bid} {n:Nat} {x:Value} (h:Rep w M μ H (.ref b n) x):H b ≠ none:=by cases h; simp_all
theorem rep_pt {M H} {b:Bid} {k n:Nat} {x:Value} (h:Rep w M μ H (.pt b k n) x):H b ≠ none:=by cases h; simp_all
theorem rep_eref {M H} {b:Bid} {i n:Nat} {x:Value} (h:Rep w M μ H (.eref b i n) x):H b ≠ none:=by cases h <;> simp_all
theorem content_ext {M:Nat->Prop} {H':Heap} (hH:∀ b,s.H b ≠ none->H' b=s.H b) {v:AV} {x:Value} (hx:Rep w M μ s.H v x):content H' v=content s.H v:=by
 cases v with
 | own b n=>simp only [content,hH b (rep_own hx)]
 | _=>rfl
theorem view_ext (h:Rel Γ s μ a w) {H':Heap} (hH:∀ b,s.H b ≠ none->H' b=s.H b):∀ (d:Nat) (v:AV) (x:Value),Rep w (forb Γ.Mx μ s.H) μ s.H v x->view H' d v=view s.H d v:=by
 intro d
 induction d with
 | zero=>intro v x _; rfl
 | succ d ih=>
  intro v x hx
  cases v with
  | own b n=>simp only [view,hH b (rep_own hx)]
  | ref b p=>
   simp only [view,hH b (rep_ref hx)]
   cases hb:s.H b with
   | none=>rfl
   | some y=>
    cases y with
    | obj cs=>
     simp only [objV,AV.iref.injEq,and_true]
     cases hx with
     | ref _ _ _ cs' g c hH' hμ=>
      obtain ⟨cur,e,q1,q2,q3⟩:=box_obj h hb hμ
      apply List.map_congr_left
      intro c hc
      obtain ⟨i,hi,rfl⟩:=List.mem_iff_getElem.1 hc
      obtain ⟨v,_,_,v3⟩:=q3 i cs[i] (List.getElem?_eq_getElem hi)
      exact ih _ _ v3
    | _=>rfl
  | agg cs=>
   simp only [view,AV.agg.injEq]
   cases hx with
   | agg _ _ vs f hs hv hr=>
    apply List.map_congr_left
    intro c hc
    obtain ⟨i,hi,rfl⟩:=List.mem_iff_getElem.1 hc
    exact ih _ _ (hr i _ (List.getElem?_eq_getElem hi))
  | fn f cs=>
   simp only [view,AV.fn.injEq,true_and]
   cases hx with
   | fn _ _ _ vs f hs hv hr=>
    apply List.map_congr_left
    intro c hc
    obtain ⟨i,hi,rfl⟩:=List.mem_iff_getElem.1 hc
    exact ih _ _ (hr i _ (List.getElem?_eq_getElem hi))
  | _=>rfl
theorem frzs_ext {H H':Heap}:∀ (l:List Bid),(∀ b ∈ l,H' b=H b)->frzs H' l=frzs H l
 | [],_=>rfl
 | b :: l,hl=>by
  have ih:=frzs_ext l (fun b' hb'=>hl b' (by simp [hb']))
  have hb:=hl b (by simp)
  simp only [frzs,hb,ih]
theorem rowsIn_own:∀ (l:List AV) (b:Bid),b ∈ rowsIn l->∃ n,.own b n ∈ l
 | v :: l,b,h=>by
  by_cases hv:∃ b' n,v=.own b' n
  ·
   obtain ⟨b',n,rfl⟩:=hv
   simp only [rowsIn,List.mem_cons] at h
   rcases h with rfl | h
   · exact ⟨n,by simp⟩
   · obtain ⟨m,hm⟩:=rowsIn_own l b h; exact ⟨m,by simp [hm]⟩
  ·
   have:rowsIn (v :: l)=rowsIn l:=by cases v <;> first | rfl | exact absurd ⟨_,_,rfl⟩ hv
   rw [this] at h
   obtain ⟨m,hm⟩:=rowsIn_own l b h
   exact ⟨m,by simp [hm]⟩
theorem addO_ext {M:Nat->Prop} {H':Heap} (hH:∀ b,s.H b ≠ none->H' b=s.H b) {v:AV} {x:Value} (hx:Rep w M μ s.H v x) (n:Nat):addO H' n v=addO s.H n v:=by
 cases v with
 | eref b i p=>simp only [addO,hH b (rep_eref hx)]
 | _=>rfl
theorem foldl_ext {f g:List Bid->AV->List Bid}:∀ (l:List AV) (acc:List Bid),(∀ v ∈ l,∀ acc,f acc v=g acc v)->l.foldl f acc=l.foldl g acc
 | [],acc,_=>rfl
 | v :: l,acc,h=>by
  simp only [List.foldl_cons]
  rw [h v (by simp),foldl_ext l _ fun v hv=>h v (by simp [hv])]
theorem coll_ext (h:Rel Γ s μ a w) {H':Heap} (hH:∀ b,s.H b ≠ none->H' b=s.H b):∀ (d:Nat) (v:AV) (x:Value) (acc:List Bid),Rep w (forb Γ.Mx μ s.H) μ s.H v x->coll H' d acc v=coll s.H d acc v:=by
 intro d
 induction d with
 | zero=>intro v x acc _; rfl
 | succ d ih=>
  intro v x acc hx
  cases v with
  | own b n=>simp only [coll,addB,hH b (rep_own hx)]
  | ows b l n=>simp only [coll,addB,hH b (rep_ows hx)]
  | pt b k n=>simp only [coll,addB,hH b (rep_pt hx)]
  | ref b p=>
   simp only [coll,addB,hH b (rep_ref hx)]
   split
   · rfl
   ·
    cases hb:s.H b with
    | none=>rfl
    | some y=>
     cases y with
     | obj cs=>
      simp only [cellsO]
      cases hx with
      | ref _ _ _ cs' g c hH' hμ=>
       obtain ⟨cur,e,q1,q2,q3⟩:=box_obj h hb hμ
       refine foldl_ext _ _ fun c hc acc=>?_
       obtain ⟨i,hi,rfl⟩:=List.mem_iff_getElem.1 hc
       obtain ⟨v,_,_,v3⟩:=q3 i cs[i] (List.getElem?_eq_getElem hi)
       exact ih _ _ acc v3
     | _=>rfl
  | agg cs=>
   simp only [coll]
   cases hx with
   | agg _ _ vs f hs hv hr=>
    refine foldl_ext _ _ fun c hc acc=>?_
    obtain ⟨i,hi,rfl⟩:=List.mem_iff_getElem.1 hc
    exact ih _ _ acc (hr i _ (List.getElem?_eq_getElem hi))
  | fn f cs=>
   simp only [coll]
   cases hx with
   | fn _ _ _ vs f hs hv hr=>
    refine foldl_ext _ _ fun c hc acc=>?_
    obtain ⟨i,hi,rfl⟩:=List.mem_iff_getElem.1 hc
    exact ih _ _ acc (hr i _ (List.getElem?_eq_getElem hi))
  | ifc t v=>
   cases hx with
   | ifc _ _ _ y hr=>exact ih _ _ acc hr
  | _=>rfl
theorem told_ext (h:Rel Γ s μ a w) {H':Heap} (hH:∀ b,s.H b ≠ none->H' b=s.H b) (bs:List Bid):∀ (d:Nat) (v:AV) (x:Value),Rep w (forb Γ.Mx μ s.H) μ s.H v x->told H' bs d v=told s.H bs d v:=by
 intro d
 induction d with
 | zero=>intro v x _; rfl
 | succ d ih=>
  intro v x hx
  cases v with
  | own b n=>simp only [told,renV,hH b (rep_own hx)]
  | ows b l n=>simp only [told,renV,hH b (rep_ows hx)]
  | ref b p=>rfl
  | agg cs=>
   simp only [told,renV,AV.agg.injEq]
   cases hx with
   | agg _ _ vs f hs hv hr=>
    apply List.map_congr_left
    intro c hc
    obtain ⟨i,hi,rfl⟩:=List.mem_iff_getElem.1 hc
    exact ih _ _ (hr i _ (List.getElem?_eq_getElem hi))
  | fn f cs=>
   simp only [told,renV,AV.fn.injEq,true_and]
   cases hx with
   | fn _ _ _ vs f hs hv hr=>
    apply List.map_congr_left
    intro c hc
    obtain ⟨i,hi,rfl⟩:=List.mem_iff_getElem.1 hc
    exact ih _ _ (hr i _ (List.getElem?_eq_getElem hi))
  | tup cs=>
   simp only [told,renV,AV.tup.injEq]
   cases hx with
   | tup _ _ vs f hs hv hr=>
    apply List.map_congr_left
    intro c hc
    obtain ⟨i,hi,rfl⟩:=List.mem_iff_getElem.1 hc
    exact ih _ _ (hr i _ (List.getElem?_eq_getElem hi))
  | ifc t v=>
   cases hx with
   | ifc _ _ _ y hr=>
    simp only [told,renV]
    congr 1
    exact ih _ _ hr
  | _=>rfl
theorem aVal_ext {T:TypeId->Option TI} (h:Rel Γ s μ a w) {H':Heap} (hH:∀ b,s.H b ≠ none->H' b=s.H b) (dst:Option Tmp) (op:Op):aVal T env dst op (eva s.t) H'=aVal T env dst op (eva s.t) s.H:=by
 have hE:∀ x,Rep w (forb Γ.Mx μ s.H) μ s.H (eva s.t x) (a.eval x):=eva_rep h
 have hrows:∀ (l:List AV),(∀ v ∈ l,∃ x,Rep w (forb Γ.Mx μ s.H) μ s.H v x)->frzs H' (rowsIn l)=frzs s.H (rowsIn l):=fun l hl=>frzs_ext _ fun b hb=>by
  obtain ⟨n,hn⟩:=rowsIn_own l b hb
  obtain ⟨x,hx⟩:=hl _ hn
  exact hH b (rep_own hx)
 cases op with
 | buildSlice t n parts=>
  simp only [aVal]
  have h1:frzs H' (rowsIn ((parts.toList.map fun p=>(p.1,eva s.t p.2)).map (·.2)))=frzs s.H (rowsIn ((parts.toList.map fun p=>(p.1,eva s.t p.2)).map (·.2))):=hrows _ (fun v hv=>by
   simp only [List.map_map,List.mem_map] at hv
   obtain ⟨p,_,rfl⟩:=hv
   exact ⟨_,hE p.2⟩)
  have h2:((parts.toList.map fun p=>(p.1,eva s.t p.2)).map fun p=>(p.1,view H' 2 p.2))=((parts.toList.map fun p=>(p.1,eva s.t p.2)).map fun p=>(p.1,view s.H 2 p.2)):=by
   apply List.map_congr_left
   intro p hp
   obtain ⟨q,_,rfl⟩:=List.mem_map.1 hp
   simp only [view_ext h hH 2 _ _ (hE q.2)]
  cases hT:T t with
  | none=>simp [vBuildSlice]
  | some i=>
   cases hT':T i.etype with
   | none=>simp [hT',vBuildSlice]
   | some ie=>simp only [Option.bind_some,hT',vBuildSlice,h1,h2]
 | load t x=>
  simp only [aVal]
  have:=hE x
  cases hx:eva s.t x with
  | ref b p=>rw [hx] at this; cases T t <;> simp only [vLoad,hH b (rep_ref this)]
  | eref b i p=>rw [hx] at this; cases T t <;> simp only [vLoad,hH b (rep_eref this)]
  | _=>cases T t <;> rfl
 | store t x y=>
  simp only [aVal]
  have:=hE x
  cases hx:eva s.t x with
  | ref b p=>rw [hx] at this; cases T t <;> simp only [vStore,hH b (rep_ref this)]
  | eref b i p=>rw [hx] at this; cases T t <;> simp only [vStore,hH b (rep_eref this)]
  | _=>cases T t <;> rfl
 | slice t x lo hi mx=>
  simp only [aVal]
  have:=hE x
  cases mx with
  | some m=>rfl
  | none=>
   simp only [vSliceM]
   have key:vSlice H' (eva s.t x) (T t) (content H' (eva s.t x)) (bnd (some 0) (lo.map (eva s.t))) (bnd ((content H' (eva s.t x)).map (·.2.length)) (hi.map (eva s.t)))=vSlice s.H (eva s.t x) (T t) (content s.H (eva s.t x)) (bnd (some 0) (lo.map (eva s.t))) (bnd ((content s.H (eva s.t x)).map (·.2.length)) (hi.map (eva s.t))):=?_
   · cases hX:eva s.t x <;> simp only [vSliceA] <;> rw [hX] at key <;> exact key
   simp only [content_ext hH this]
   cases hc:content s.H (eva s.t x) with
   | none=>cases T t <;> rfl
   | some kL=>
    obtain ⟨k,L⟩:=kL
    cases T t with
    | none=>rfl
    | some i=>
     cases bnd (some 0) (lo.map (eva s.t)) with
     | none=>rfl
     | some l=>
      cases bnd ((some (k,L)).map (·.2.length)) (hi.map (eva s.t)) with
      | none=>rfl
      | some hh=>
       simp only [vSlice]
       split
       ·
        simp only [cutS]
        split
        ·
         cases hx:eva s.t x with
         | own b n=>rw [hx] at this; simp only [hH b (rep_own this)]
         | _=>rfl
        · rfl
       · rfl
 | fieldAddr t x f=>
  simp only [aVal]
  cases T t with
  | none=>rfl
  | some i=>
   simp only [vFieldAddr]
   cases i.fields[f]? with
   | none=>rfl
   | some fd=>simp only [fieldO,addO_ext hH (hE x)]
 | indexAddr t x ix=>
  simp only [aVal]
  have:=hE x
  cases hT:T t with
  | none=>rfl
  | some i=>
   cases hi:eva s.t ix with
   | int k n=>
    cases hx:eva s.t x with
    | own b m=>rw [hx] at this; simp only [vIndexAddr,hH b (rep_own this)]
    | ows b l m=>rw [hx] at this; simp only [vIndexAddr,hH b (rep_ows this)]
    | sl k L=>rfl
    | _=>rw [hx] at this; simp only [vIndexAddr,addO_ext hH this]
   | _=>cases eva s.t x <;> rfl
 | call c=>
  obtain ⟨callee,args,ts⟩:=c
  simp only [aVal]
  cases callee with
  | invoke r m=>rfl
  | value f=>
   simp only [vCallC]
   have:=hE f
   cases hf:eva s.t f with
   | fn g caps=>
    rw [hf] at this
    simp only [vCall]
    cases env.lookup g with
    | none=>rfl
    | some S=>
     have hall:∀ v ∈ args.toList.map (eva s.t)++caps,∃ x,Rep w (forb Γ.Mx μ s.H) μ s.H v x:=by
      intro v hv
      rcases List.mem_append.1 hv with hv | hv
      · obtain ⟨q,_,rfl⟩:=List.mem_map.1 hv; exact ⟨_,hE q⟩
      ·
       generalize a.eval f=fv at this
       cases this with
       | fn _ _ _ vs gg hs hvv hr=>
        obtain ⟨i,hi,rfl⟩:=List.mem_iff_getElem.1 hv
        exact ⟨_,hr i _ (List.getElem?_eq_getElem hi)⟩
     have h2:(args.toList.map (eva s.t)++caps).map (view H' 3)=(args.toList.map (eva s.t)++caps).map (view s.H 3):=by
      apply List.map_congr_left
      intro v hv
      obtain ⟨x,hx⟩:=hall v hv
      exact view_ext h hH 3 v x hx
     cases S with
     | p S=>
      simp only [callS,h2]
      cases S ((args.toList.map (eva s.t)++caps).map (view s.H 3)) with
      | none=>rfl
      | some r=>simp only [callR,hrows _ hall]
     | v S=>
      simp only [callS,h2]
      cases S ((args.toList.map (eva s.t)++caps).map (view s.H 3)) [] with
      | none=>rfl
      | some r=>simp only [callV,hrows _ hall]
     | h S=>
      have h4:∀ bs,(args.toList.map (eva s.t)++caps).map (told H' bs 5)=(args.toList.map (eva s.t)++caps).map (told s.H bs 5):=by
       intro bs
       apply List.map_congr_left
       intro v hv
       obtain ⟨x,hx⟩:=hall v hv
       exact told_ext h hH bs 5 v x hx
      have h5:(args.toList.map (eva s.t)++caps).foldl (coll H' 6) []=(args.toList.map (eva s.t)++caps).foldl (coll s.H 6) []:=foldl_ext _ _ fun v hv acc=>by
       obtain ⟨x,hx⟩:=hall v hv
       exact coll_ext h hH 6 v x acc hx
      have hbs:OkB s.H ((args.toList.map (eva s.t)++caps).foldl (coll s.H 6) []):=foldl_ok (fun acc v=>coll_ok 6 acc v) _ _ (OkB.nil _)
      simp only [callS,runH,h4,h5]
      congr 2
      apply List.map_congr_left
      intro b hb
      obtain ⟨y,hy,_⟩:=hbs.hot b hb
      rw [hH b (by rw [hy]; simp),hy]
      cases y with
      | obj cs=>
       simp only [Option.getD_some,renB,Box.obj.injEq]
       rcases h.hb b _ hy with q | ⟨g,c,cur,e,q1,q2,q3⟩ | ⟨q1,e1,sz1,z1,q2,q3⟩
       · cases q
       ·
        apply List.map_congr_left
        intro c hc
        obtain ⟨i,hi,rfl⟩:=List.mem_iff_getElem.1 hc
        obtain ⟨v,_,_,v3⟩:=q3.2 i cs[i] (List.getElem?_eq_getElem hi)
        exact told_ext h hH _ 5 _ _ v3
       · cases q2
      | _=>rfl
   | _=>rfl
  | builtin b=>
   simp only [vCallC]
   generalize args.toList=al
   generalize ts.toList=tl
   unfold vBuiltin
   split
   ·
    rename_i x t
    have hc:=content_ext hH (hE x)
    cases T t with
    | none=>rfl
    | some i=>
     have hE':=hE x
     cases hx:eva s.t x <;> rw [hx] at hc hE' <;> first | (simp only [vLen,hc]; done) | simp only [vLen,hH _ (rep_ows hE')] | simp only [vLen,hH _ (rep_own hE')]
   · rfl
   · rfl
   · rfl
   ·
    rename_i y x t t'
    have hc:=content_ext hH (hE x)
    rw [hc]
    split
    ·
     have hy:=hE y
     cases hyy:eva s.t y with
     | own b n=>
      rw [hyy] at hy
      cases T t with
      | none=>rfl
      | some i=>
       cases hE':T i.etype with
       | none=>simp only [Option.bind_some,hE']; rfl
       | some ie=>
        simp only [Option.bind_some,hE']
        cases content s.H (eva s.t x) with
        | none=>rfl
        | some kM=>simp only [vAppend,hH b (rep_own hy)]
     | _=>
      cases T t with
      | none=>rfl
      | some i=>
       cases hE':T i.etype with
       | none=>simp only [Option.bind_some,hE']; rfl
       | some ie=>
        simp only [Option.bind_some,hE']
        cases content s.H (eva s.t x) with
        | none=>rfl
        | some kM=>simp only [vAppend]
    · rfl
   · rfl
   · rfl
 | _=>rfl
end
set_option linter.unusedSimpArgs false
def eff (T:TypeId->Option TI) (env:Env) (ops:Array Oper) (o:Oper) (t:Nat->AV) (H:Heap):Option R:=
 match o.guard with
 | none=>aVal T env o.dst o.op (eva t) H
 | some (j,want)=>match guardV ops j t with
  | .bool b=>if b=want then aVal T env o.dst o.op (eva t) H else some ⟨.tup [],[],[],[],none⟩
  | .tup []=>some ⟨.tup [],[],[],[],none⟩
  | _=>none
theorem aStep_eff (T:TypeId->Option TI) (env:Env) (ops:Array Oper) (o:Oper) (s:St):aStep T env ops o s=fin o.dst s (eff T env ops o s.t s.H):=by
 unfold aStep eff
 cases o.guard with
 | none=>rfl
 | some jw=>
  obtain ⟨j,want⟩:=jw
  simp only
  cases guardV ops j s.t with
  | bool b=>simp only [guarded]; split <;> rfl
  | tup l=>cases l <;> rfl
  | _=>rfl
def pureOp:Op->Bool
 | .build _ _ | .move _ | .assign _ | .pick _ _ _ | .binOp _ _ _ _ _ | .unOp _ _ _ | .convert _ _ _ | .makeInterface _ _ | .makeFunc _ _ _ | .field _ _ _ | .extract _ _ | .nilCheck _=>true
 | _=>false
def lenCall (c:Call):Bool:=match c.callee,c.args.toList,c.argTypes.toList with
 | .builtin .len,[_],[_]=>true
 | _,_,_=>false
def loadOp:Op->Bool
 | .load _ _ | .fieldAddr _ _ _ | .indexAddr _ _ _=>true
 | .call c=>lenCall c
 | _=>false
theorem aVal_congr {T:TypeId->Option TI} {env:Env} {dst:Option Tmp} {op:Op} {ρ ρ':Operand->AV} {H:Heap} (h:∀ x ∈ op.operands,ρ x=ρ' x):aVal T env dst op ρ H=aVal T env dst op ρ' H:=by
 cases op with
 | build t ps=>
  have:(ps.toList.map fun p=>(p.1,ρ p.2))=(ps.toList.map fun p=>(p.1,ρ' p.2)):=by
   apply List.map_congr_left
   intro p hp
   rw [h p.2 (by simp [Op.operands]; exact ⟨p.1,by simpa using hp⟩)]
  simp only [aVal,this]
 | buildSlice t n ps=>
  have:(ps.toList.map fun p=>(p.1,ρ p.2))=(ps.toList.map fun p=>(p.1,ρ' p.2)):=by
   apply List.map_congr_left
   intro p hp
   rw [h p.2 (by simp [Op.operands]; exact ⟨p.1,by simpa using hp⟩)]
  simp only [aVal,this]
 | makeFunc f first caps=>
  have:caps.toList.map ρ=caps.toList.map ρ':=by
   apply List.map_congr_left
   intro x hx
   exact h x (by simp [Op.operands]; exact .inr (by simpa using hx))
  simp only [aVal,this]
 | slice t x lo hi mx=>
  have h1:ρ x=ρ' x:=h x (by simp [Op.operands])
  have h2:lo.map ρ=lo.map ρ':=by cases lo with | none=>rfl | some l=>simp [h l (by simp [Op.operands])]
  have h3:hi.map ρ=hi.map ρ':=by cases hi with | none=>rfl | some l=>simp [h l (by simp [Op.operands])]
  simp only [aVal,h1,h2,h3]
 | call c=>
  obtain ⟨callee,args,ts⟩:=c
  have hargs:∀ x ∈ args.toList,ρ x=ρ' x:=fun x hx=>h x (by simp [Op.operands,Call.operands]; exact .inr (by simpa using hx))
  have:args.toList.map ρ=args.toList.map ρ':=List.map_congr_left hargs
  cases callee with
  | invoke r m=>rfl
  | value f=>
   have hf:ρ f=ρ' f:=h f (by simp [Op.operands,Call.operands])
   simp only [aVal,vCallC,this,hf]
  | builtin b=>
   simp only [aVal,vCallC]
   generalize args.toList=al at hargs
   generalize ts.toList=tl
   unfold vBuiltin
   split
   · rw [hargs _ (by simp)]
   · rw [hargs _ (by simp),hargs _ (by simp)]
   ·
    rename_i _ x y z uu
    rw [hargs x (by simp),hargs y (by simp),hargs z (by simp),hargs uu (by simp)]
   · rw [hargs _ (by simp),hargs _ (by simp)]
   ·
    rename_i y x t t'
    rw [hargs y (by simp),hargs x (by simp)]
   · rw [hargs _ (by simp)]
   · rfl
 | move x=>simp only [aVal,h x (by simp [Op.operands])]
 | assign x=>simp only [aVal,h x (by simp [Op.operands])]
 | pick c x y=>simp only [aVal,h c (by simp [Op.operands]),h x (by simp [Op.operands]),h y (by simp [Op.operands])]
 | box t x=>simp only [aVal,h x (by simp [Op.operands])]
 | load t x=>simp only [aVal,h x (by simp [Op.operands])]
 | store t x y=>simp only [aVal,h x (by simp [Op.operands]),h y (by simp [Op.operands])]
 | nilCheck x=>simp only [aVal,h x (by simp [Op.operands])]
 | binOp b t x y t'=>simp only [aVal,h x (by simp [Op.operands]),h y (by simp [Op.operands])]
 | unOp b t x=>simp only [aVal,h x (by simp [Op.operands])]
 | convert t t' x=>simp only [aVal,h x (by simp [Op.operands])]
 | makeInterface t x=>simp only [aVal,h x (by simp [Op.operands])]
 | panic x=>simp only [aVal,h x (by simp [Op.operands])]
 | fieldAddr t x f=>simp only [aVal,h x (by simp [Op.operands])]
 | field t x f=>simp only [aVal,h x (by simp [Op.operands])]
 | index t x ix=>simp only [aVal,h x (by simp [Op.operands]),h ix (by simp [Op.operands])]
 | indexAddr t x ix=>simp only [aVal,h x (by simp [Op.operands]),h ix (by simp [Op.operands])]
 | extract x i=>simp only [aVal,h x (by simp [Op.operands])]
 | _=>rfl
section
variable {T:TypeId->Option TI} {env:Env} {ops:Array Oper} {o:Oper}
theorem eva_congr {t t':Nat->AV} {x:Operand} (h:∀ i,x=.tmp i->t i=t' i):eva t x=eva t' x:=by
 cases x with
 | tmp i=>exact h i rfl
 | _=>rfl
theorem eff_congr {t t':Nat->AV} {H:Heap} (h:∀ i ∈ o.looksAt ops,t i=t' i):eff T env ops o t H=eff T env ops o t' H:=by
 have h1:aVal T env o.dst o.op (eva t) H=aVal T env o.dst o.op (eva t') H:=aVal_congr fun x hx=>eva_congr fun i hi=>h i (by
  subst hi
  exact List.mem_append_left _ (List.mem_filterMap.2 ⟨.tmp i,by simpa using hx,rfl⟩))
 unfold eff
 cases hg:o.guard with
 | none=>exact h1
 | some jw=>
  obtain ⟨j,want⟩:=jw
  have h2:guardV ops j t=guardV ops j t':=by
   unfold guardV
   cases hd:(ops[j]?).bind (·.dst) with
   | none=>rfl
   | some d=>exact h d (by simp [Oper.looksAt,hg,hd])
  simp only [h1,h2]
theorem eff_ext {Γ:Ctx} {s:St} {μ:Lay} {a:Act} {w:World} (h:Rel Γ s μ a w) {H':Heap} (hH:∀ b,s.H b ≠ none->H' b=s.H b):eff T env ops o s.t H'=eff T env ops o s.t s.H:=by
 unfold eff
 simp only [aVal_ext h hH]
theorem aVal_pure (hp:pureOp o.op=true) (ρ:Operand->AV) (H H':Heap):aVal T env o.dst o.op ρ H=aVal T env o.dst o.op ρ H':=by
 cases hop:o.op <;> rw [hop] at hp <;> simp [pureOp] at hp <;> rfl
theorem aVal_pure_parts (hp:pureOp o.op=true) {ρ:Operand->AV} {H:Heap} {r:R} (h:aVal T env o.dst o.op ρ H=some r):r.nw=[]/\r.up=[]:=by
 have hval:∀ {v:AV} {r:R},val v=some r->r.nw=[]/\r.up=[]:=fun h=>by cases val_inj h; exact ⟨rfl,rfl⟩
 have hoptV:∀ {x:Option AV} {r:R},optV x=some r->r.nw=[]/\r.up=[]:=fun {x} {r} h=>by cases x with | none=>cases h | some v=>exact hval h
 have hoptB:∀ {n:Bool} {x:Option Bool} {r:R},optB n x=some r->r.nw=[]/\r.up=[]:=fun {n} {x} {r} h=>by cases x with | none=>cases h | some v=>exact hval h
 cases hop:o.op <;> rw [hop] at hp h <;> simp [pureOp] at hp <;> simp only [aVal] at h
 case build t ps=>
  have hA:∀ {x:Option (List AV)},optA x=some r->r.nw=[]/\r.up=[]:=fun {x} h=>by cases x with | none=>cases h | some v=>exact hval h
  unfold vBuild at h
  repeat' split at h
  all_goals first | exact hA h | (cases h; done)
 case move=>exact hval h
 case assign=>exact hval h
 case pick c x y=>cases hc:ρ c <;> rw [hc] at h <;> simp only [vPick] at h <;> first | exact hval h | (cases h; done)
 case nilCheck x=>cases hc:ρ x <;> rw [hc] at h <;> simp only [vNil] at h <;> first | exact hval h | (cases h; done)
 case binOp b t x y t'=>
  unfold vBin at h
  split at h
  ·
   split at h
   · exact hoptV h
   · cases h
  ·
   have hO:∀ neg,eqO neg (ρ x) (ρ y) (T t)=some r->r.nw=[]/\r.up=[]:=by
    intro neg h
    unfold eqO at h
    split at h
    ·
     split at h
     · exact hval h
     · cases h
    · exact hoptB h
    · cases h
   split at h <;> first | exact hO _ h | (cases h; done)
 case unOp b t x=>cases b <;> cases hc:ρ x <;> rw [hc] at h <;> simp only [vUn,vNot,vNeg] at h <;> first | exact hval h | (cases h; done)
 case convert t t' x=>
  cases hT:T t' with
  | none=>rw [hT] at h; cases ρ x <;> cases h
  | some i=>
   rw [hT] at h
   cases hc:ρ x <;> rw [hc] at h <;> simp only [vConv] at h <;> try (cases h; done)
   · cases hk:i.kind <;> rw [hk] at h <;> simp only [convK] at h <;> first | exact hval h | (cases h; done)
   ·
    split at h
    ·
     unfold vStr at h
     split at h
     ·
      split at h
      ·
       unfold strO at h
       split at h <;> first | exact hval h | (cases h; done)
      · cases h
     · cases h
    · cases h
 case makeInterface t x=>cases hc:ρ x <;> rw [hc] at h <;> simp only [vIface] at h <;> first | exact hval h | (cases h; done)
 case makeFunc f first caps=>unfold vFunc at h; split at h <;> first | exact hval h | (cases h; done)
 case field t x f=>
  cases hT:T t with
  | none=>rw [hT] at h; cases ρ x <;> cases h
  | some i=>
   rw [hT] at h
   cases hc:ρ x <;> rw [hc] at h <;> simp only [vField] at h <;> try (cases h; done)
   unfold fieldV at h
   split at h
   ·
    split at h
    ·
     split at h
     · exact hval h
     · cases h
    · exact hoptV h
   · cases h
 case extract x i=>cases hc:ρ x <;> rw [hc] at h <;> simp only [vExtract] at h <;> first | exact hoptV h | (cases h; done)
theorem eff_pure (hp:pureOp o.op=true) (t:Nat->AV) (H H':Heap):eff T env ops o t H=eff T env ops o t H':=by
 unfold eff
 simp only [aVal_pure hp (eva t) H H']
theorem eff_pure_parts (hp:pureOp o.op=true) {t:Nat->AV} {H:Heap} {r:R} (h:eff T env ops o t H=some r):r.nw=[]/\r.up=[]:=by
 unfold eff at h
 split at h
 · exact aVal_pure_parts hp h
 ·
  split at h
  ·
   split at h
   · exact aVal_pure_parts hp h
   · cases h; exact ⟨rfl,rfl⟩
  · cases h; exact ⟨rfl,rfl⟩
  · cases h
theorem addO_load {H:Heap} {m:Nat} {v:AV} {r:R} (h:addO H m v=some r):r.nw=[]/\r.up=[]/\(∀ H',(∀ b ∈ r.fp,H' b=H b)->addO H' m v=some r)/\(∀ b ∈ r.fp,∃ i p,v=.eref b i p):=by
 cases v <;> simp only [addO] at h <;> try (cases h; done)
 ·
  cases val_inj h
  exact ⟨rfl,rfl,fun _ _=>rfl,fun b hb=>by simp at hb⟩
 ·
  split at h
  ·
   rename_i hr
   cases h
   refine ⟨rfl,rfl,fun H' hH=>?_,fun b' hb'=>?_⟩
   ·
    simp only [addO]
    rw [if_pos (by rw [hH _ (by simp)]; exact hr)]
   ·
    simp only [List.mem_singleton] at hb'
    subst hb'
    exact ⟨_,_,rfl⟩
  · cases h
 ·
  cases val_inj h
  exact ⟨rfl,rfl,fun _ _=>rfl,fun b hb=>by simp at hb⟩
theorem idx_load {ρ:Operand->AV} {H:Heap} {r:R} {x:Operand} {l:List Operand} {ti:Option TI} {ix:AV} (hm:x ∈ l) (h:vIndexAddr H ti (ρ x) ix=some r):r.nw=[]/\r.up=[]/\(∀ H',(∀ b ∈ r.fp,H' b=H b)->vIndexAddr H' ti (ρ x) ix=some r)/\(∀ b ∈ r.fp,∃ x ∈ l,(∃ p,ρ x=.ref b p)\/(∃ i p,ρ x=.eref b i p)\/(∃ n,ρ x=.own b n)\/∃ l n,ρ x=.ows b l n):=by
 have hadd:∀ {i:TI} {n:Int},(if i.arr=true/\0<=n/\n < i.len then addO H (n.toNat * i.esize) (ρ x) else none)=some r ->
   r.nw=[]/\r.up=[]/\(∀ H',(∀ b ∈ r.fp,H' b=H b)->(if i.arr=true/\0<=n/\n < i.len then addO H' (n.toNat * i.esize) (ρ x) else none)=some r)/\(∀ b ∈ r.fp,∃ x ∈ l,(∃ p,ρ x=.ref b p)\/(∃ i p,ρ x=.eref b i p)\/(∃ n,ρ x=.own b n)\/∃ l n,ρ x=.ows b l n):=by
  intro i n h
  split at h
  ·
   rename_i hc
   obtain ⟨h1,h2,h3,h4⟩:=addO_load h
   exact ⟨h1,h2,fun H' hH=>by rw [if_pos hc]; exact h3 H' hH,fun b hb=>by obtain ⟨i,p,he⟩:=h4 b hb; exact ⟨x,hm,.inr (.inl ⟨i,p,he⟩)⟩⟩
  · cases h
 cases ti with
 | none=>cases hx:ρ x <;> rw [hx] at h <;> cases ix <;> simp [vIndexAddr] at h
 | some i=>
  cases ix with
  | int k n=>
   generalize hX:ρ x=X at h hadd ⊢
   cases X <;> simp only [vIndexAddr] at h ⊢ <;> first
    | (have:=hadd h; simpa only [hX] using this)
    | skip
   ·
    split at h
    ·
     rename_i L' hc
     unfold irefO at h
     split at h
     ·
      cases val_inj h
      exact ⟨rfl,rfl,fun _ _=>by rw [if_pos hc]; unfold irefO; simp only [*],fun b hb=>by simp at hb⟩
     · cases h
    · cases h
   ·
    split at h
    ·
     rename_i hc
     cases h
     refine ⟨rfl,rfl,fun H' hH=>?_,fun b hb=>?_⟩
     · rw [if_pos (by rw [hH _ (by simp)]; exact hc)]
     ·
      simp only [List.mem_singleton] at hb
      subst hb
      exact ⟨x,hm,.inr (.inr (.inl ⟨_,hX⟩))⟩
    · cases h
   ·
    split at h
    ·
     rename_i hc
     cases h
     refine ⟨rfl,rfl,fun H' hH=>?_,fun b hb=>?_⟩
     · rw [if_pos (by rw [hH _ (by simp)]; exact hc)]
     ·
      simp only [List.mem_singleton] at hb
      subst hb
      exact ⟨x,hm,.inr (.inr (.inr ⟨_,_,hX⟩))⟩
    · cases h
  | _=>cases hx:ρ x <;> rw [hx] at h <;> simp [vIndexAddr] at h
theorem len_load {ρ:Operand->AV} {H:Heap} {r:R} {x:Operand} {l:List Operand} {ti:Option TI} (hm:x ∈ l) (h:vLen H ti (ρ x)=some r):r.nw=[]/\r.up=[]/\(∀ H',(∀ b ∈ r.fp,H' b=H b)->vLen H' ti (ρ x)=some r)/\(∀ b ∈ r.fp,∃ x ∈ l,(∃ p,ρ x=.ref b p)\/(∃ i p,ρ x=.eref b i p)\/(∃ n,ρ x=.own b n)\/∃ l n,ρ x=.ows b l n):=by
 cases ti with
 | none=>simp [vLen] at h
 | some i=>
  generalize hX:ρ x=X at h ⊢
  have hc:∀ {H':Heap},(∀ b n,X ≠ .own b n)->content H' X=content H X:=fun {H'} hn=>by
   cases X with
   | own b n=>exact absurd rfl (hn b n)
   | _=>rfl
  cases X with
  | own b n=>
   simp only [vLen] at h ⊢
   split at h
   ·
    rename_i hs
    cases hr:rowOf n (H b) with
    | none=>rw [hr] at h; cases h
    | some kL=>
     rw [hr] at h
     simp only [lenB,Option.some.injEq] at h
     subst h
     refine ⟨rfl,rfl,fun H' hH=>by rw [if_pos hs,hH b (by simp),hr]; rfl,fun b' hb=>?_⟩
     simp only [List.mem_singleton] at hb
     subst hb
     exact ⟨x,hm,.inr (.inr (.inl ⟨_,hX⟩))⟩
   · cases h
  | ows b m n=>
   simp only [vLen] at h ⊢
   split at h
   ·
    rename_i hs
    cases h
    refine ⟨rfl,rfl,fun H' hH=>by rw [if_pos ⟨hs.1,by rw [hH b (by simp)]; exact hs.2⟩],fun b' hb=>?_⟩
    simp only [List.mem_singleton] at hb
    subst hb
    exact ⟨x,hm,.inr (.inr (.inr ⟨_,_,hX⟩))⟩
   · cases h
  | str z=>
   simp only [vLen] at h ⊢
   split at h
   ·
    rename_i hs
    cases val_inj h
    exact ⟨rfl,rfl,fun H' _=>by rw [if_pos hs]; rfl,fun b hb=>by simp at hb⟩
   · cases h
  | _=>
   simp only [vLen] at h ⊢
   split at h
   ·
    rename_i hs
    simp only [hs,if_true]
    have hcc:=fun H'=>hc (H':=H') (fun b n=>by simp)
    simp only [hcc]
    unfold lenO at h ⊢
    split at h
    ·
     cases val_inj h
     exact ⟨rfl,rfl,fun H' _=>rfl,fun b hb=>by simp at hb⟩
    · cases h
   · cases h
theorem aVal_load (hp:loadOp o.op=true) {ρ:Operand->AV} {H:Heap} {r:R} (h:aVal T env o.dst o.op ρ H=some r):r.nw=[]/\r.up=[]/\(∀ H',(∀ b ∈ r.fp,H' b=H b)->aVal T env o.dst o.op ρ H'=some r)/\(∀ b ∈ r.fp,∃ x ∈ o.op.operands,(∃ p,ρ x=.ref b p)\/(∃ i p,ρ x=.eref b i p)\/(∃ n,ρ x=.own b n)\/∃ l n,ρ x=.ows b l n):=by
 cases hop:o.op <;> rw [hop] at hp h <;> simp [loadOp] at hp
 ·
  rename_i t x
  simp only [aVal] at h ⊢
  cases hT:T t with
  | none=>rw [hT] at h; simp [vLoad] at h
  | some i=>
   rw [hT] at h
   cases hx:ρ x <;> rw [hx] at h <;> simp only [vLoad] at h <;> try (cases h; done)
   ·
    rename_i b p
    cases hb:H b with
    | none=>rw [hb] at h; cases h
    | some y=>
     rw [hb] at h
     cases y <;> simp only [loadB] at h <;> try (cases h; done)
     obtain ⟨v,hv,rfl⟩:=Option.map_eq_some_iff.1 h
     refine ⟨rfl,rfl,fun H' hH=>?_,fun b' hb'=>?_⟩
     · simp only [vLoad,hH b (by simp),hb,loadB,hv,Option.map_some]
     ·
      simp only [List.mem_singleton] at hb'
      subst hb'
      exact ⟨x,by simp [Op.operands],.inl ⟨p,hx⟩⟩
   ·
    rename_i b j p
    cases hb:nthRow j (H b) with
    | none=>rw [hb] at h; cases h
    | some cs=>
     rw [hb] at h
     simp only [loadE] at h
     obtain ⟨v,hv,rfl⟩:=Option.map_eq_some_iff.1 h
     refine ⟨rfl,rfl,fun H' hH=>?_,fun b' hb'=>?_⟩
     · simp only [vLoad,hH b (by simp),hb,loadE,hv,Option.map_some]
     ·
      simp only [List.mem_singleton] at hb'
      subst hb'
      exact ⟨x,by simp [Op.operands],.inr (.inl ⟨j,p,hx⟩)⟩
   ·
    cases hl:ld i _ _ with
    | none=>rw [hl] at h; cases h
    | some v=>
     rw [hl] at h
     cases val_inj h
     exact ⟨rfl,rfl,fun H' _=>by simp only [vLoad,hl]; rfl,fun b hb=>by simp at hb⟩
 ·
  rename_i t x f
  simp only [aVal] at h ⊢
  cases hT:T t with
  | none=>rw [hT] at h; simp [vFieldAddr] at h
  | some i=>
   rw [hT] at h
   simp only [vFieldAddr] at h ⊢
   cases hf:i.fields[f]? with
   | none=>rw [hf] at h; cases h
   | some q=>
    rw [hf] at h
    simp only [fieldO] at h ⊢
    split at h
    · cases h
    ·
     rename_i hq
     cases hx:ρ x <;> rw [hx] at h <;> simp only [addO] at h <;> try (cases h; done)
     ·
      cases val_inj h
      exact ⟨rfl,rfl,fun H' _=>by rw [if_neg hq]; rfl,fun b hb=>by simp at hb⟩
     ·
      rename_i b j p
      split at h
      ·
       rename_i hr
       cases h
       refine ⟨rfl,rfl,fun H' hH=>?_,fun b' hb'=>?_⟩
       ·
        rw [if_neg hq]
        simp only [addO]
        rw [if_pos (by rw [hH b (by simp)]; exact hr)]
       ·
        simp only [List.mem_singleton] at hb'
        subst hb'
        exact ⟨x,by simp [Op.operands],.inr (.inl ⟨j,p,hx⟩)⟩
      · cases h
     ·
      cases val_inj h
      exact ⟨rfl,rfl,fun H' _=>by rw [if_neg hq]; rfl,fun b hb=>by simp at hb⟩
 ·
  rename_i t x ix
  obtain ⟨h1,h2,h3,h4⟩:=idx_load (x:=x) (l:=[x]) (by simp) h
  exact ⟨h1,h2,h3,fun b hb=>by obtain ⟨y,hy,q⟩:=h4 b hb; rw [List.mem_singleton] at hy; subst hy; exact ⟨y,by simp [Op.operands],q⟩⟩
 ·
  rename_i c
  obtain ⟨callee,args,ts⟩:=c
  obtain ⟨al⟩:=args
  obtain ⟨tl⟩:=ts
  have hq:∃ x t,callee=.builtin .len/\al=[x]/\tl=[t]:=by
   revert hp
   unfold lenCall
   simp only
   split
   · intro _; exact ⟨_,_,by first | rfl | assumption,by first | rfl | assumption,by first | rfl | assumption⟩
   · intro hp; cases hp
  obtain ⟨x,t,rfl,rfl,rfl⟩:=hq
  obtain ⟨h1,h2,h3,h4⟩:=len_load (x:=x) (l:=[x]) (by simp) h
  exact ⟨h1,h2,h3,fun b hb=>by obtain ⟨y,hy,q⟩:=h4 b hb; rw [List.mem_singleton] at hy; subst hy; exact ⟨y,by simp [Op.operands,Call.operands],q⟩⟩
theorem eff_load {Γ:Ctx} {s:St} {μ:Lay} {a:Act} {w:World} (h:Rel Γ s μ a w) (hp:loadOp o.op=true) {H:Heap} {r:R} (he:eff T env ops o s.t H=some r) :
  r.nw=[]/\r.up=[]/\(∀ H',(∀ b ∈ r.fp,H' b=H b)->eff T env ops o s.t H'=some r)/\(∀ b ∈ r.fp,s.H b ≠ none):=by
 have live:∀ {r:R},aVal T env o.dst o.op (eva s.t) H=some r->r.nw=[]/\r.up=[]/\(∀ H',(∀ b ∈ r.fp,H' b=H b)->aVal T env o.dst o.op (eva s.t) H'=some r)/\(∀ b ∈ r.fp,s.H b ≠ none):=by
  intro r hr
  obtain ⟨h1,h2,h3,h4⟩:=aVal_load hp hr
  refine ⟨h1,h2,h3,fun b hb=>?_⟩
  obtain ⟨x,_,hx⟩:=h4 b hb
  have:=eva_rep h x
  rcases hx with ⟨p,hx⟩ | ⟨i,p,hx⟩ | ⟨n,hx⟩ | ⟨l,n,hx⟩
  · rw [hx] at this; exact rep_ref this
  · rw [hx] at this; exact rep_eref this
  · rw [hx] at this; exact rep_own this
  · rw [hx] at this; exact rep_ows this
 unfold eff at he ⊢
 split at he
 · exact live he
 ·
  split at he
  ·
   split at he
   ·
    rename_i hb
    obtain ⟨h1,h2,h3,h4⟩:=live he
    exact ⟨h1,h2,fun H' hH=>by simp only [*,if_true]; exact h3 H' hH,h4⟩
   ·
    rename_i hb
    cases he
    exact ⟨rfl,rfl,fun H' _=>by simp only [*,if_false],fun b hb=>by simp at hb⟩
  ·
   cases he
   exact ⟨rfl,rfl,fun H' _=>by simp only [*],fun b hb=>by simp at hb⟩
  · cases he
def sliceOp:Op->Bool
 | .slice _ _ _ _ _=>true
 | _=>false
theorem aVal_sliceK (hp:sliceOp o.op=true) {ρ:Operand->AV} {H:Heap} {r:R} (h:aVal T env o.dst o.op ρ H=some r) (hu:r.up=[]):r.nw=[]/\r.up=[]/\(∀ H',(∀ b ∈ r.fp,H' b=H b)->aVal T env o.dst o.op ρ H'=some r)/\(∀ b ∈ r.fp,∃ x ∈ o.op.operands,(∃ p,ρ x=.ref b p)\/(∃ i p,ρ x=.eref b i p)\/(∃ n,ρ x=.own b n)\/∃ l n,ρ x=.ows b l n):=by
 cases hop:o.op <;> rw [hop] at hp h <;> simp [sliceOp] at hp
 rename_i t x lo hi mx
 simp only [aVal] at h ⊢
 cases mx with
 | some m=>simp [vSliceM] at h
 | none=>
  simp only [vSliceM] at h ⊢
  generalize hX:ρ x=X at h
  have plain:∀ {v:AV},val v=some r->(∀ H',vSliceA H' (T t) (lo.map ρ) (hi.map ρ) X=vSliceA H (T t) (lo.map ρ) (hi.map ρ) X)->r.nw=[]/\r.up=[]/\(∀ H',(∀ b ∈ r.fp,H' b=H b)->vSliceA H' (T t) (lo.map ρ) (hi.map ρ) X=some r)/\(∀ b ∈ r.fp,∃ y ∈ (Op.slice t x lo hi none).operands,(∃ p,ρ y=.ref b p)\/(∃ i p,ρ y=.eref b i p)\/(∃ n,ρ y=.own b n)\/∃ l n,ρ y=.ows b l n):=by
   intro v hv hh
   refine ⟨?_,hu,fun H' _=>by rw [hh H',h],fun b hb=>?_⟩
   · cases val_inj hv; rfl
   · cases val_inj hv; simp at hb
  cases X with
  | own b n=>
   simp only [vSliceA,vSlice,content] at h
   have hcon:∀ H':Heap,H' b=H b->vSliceA H' (T t) (lo.map ρ) (hi.map ρ) (.own b n)=vSliceA H (T t) (lo.map ρ) (hi.map ρ) (.own b n):=by
    intro H' hH
    simp only [vSliceA,content,hH]
    unfold vSlice
    split <;> simp only [*,cutS,hH]
   have hh:=h
   split at h
   ·
    split at h
    ·
     simp only [cutS] at h
     split at h
     ·
      split at h
      ·
       cases h
       refine ⟨rfl,rfl,fun H' hH=>by rw [hcon H' (hH b (by simp))]; simp only [vSliceA,vSlice,content]; exact hh,fun b' hb=>?_⟩
       simp only [List.mem_singleton] at hb
       subst hb
       exact ⟨x,by simp [Op.operands],.inr (.inr (.inl ⟨_,hX⟩))⟩
      ·
       unfold frzB at h
       split at h
       · cases h; simp at hu
       · cases h
     · cases h
    · cases h
   · cases h
  | iref cs p=>
   have h0:=h
   simp only [vSliceA] at h
   split at h
   ·
    unfold arrS at h
    split at h
    ·
     split at h
     · exact plain h fun H'=>rfl
     · cases h
    · cases h
   · cases h
  | nils=>
   have h0:=h
   simp only [vSliceA,vSlice,content] at h
   split at h
   ·
    split at h
    ·
     simp only [cutS] at h
     split at h
     · exact plain h fun H'=>rfl
     · cases h
    · cases h
   · cases h
  | sl k L=>
   have h0:=h
   simp only [vSliceA,vSlice,content] at h
   split at h
   ·
    split at h
    ·
     simp only [cutS] at h
     split at h
     · exact plain h fun H'=>rfl
     · cases h
    · cases h
   · cases h
  | _=>
   simp only [vSliceA,vSlice,content] at h
   split at h
   · simp_all
   · cases h
theorem eff_like {Γ:Ctx} {s:St} {μ:Lay} {a:Act} {w:World} (h:Rel Γ s μ a w) {H:Heap} {r:R} (hp:loadOp o.op=true\/(sliceOp o.op=true/\(r.up.map (·.1)).isEmpty=true)) (he:eff T env ops o s.t H=some r) :
  r.nw=[]/\r.up=[]/\(∀ H',(∀ b ∈ r.fp,H' b=H b)->eff T env ops o s.t H'=some r)/\(∀ b ∈ r.fp,s.H b ≠ none):=by
 rcases hp with hp | ⟨hp,hu⟩
 · exact eff_load h hp he
 have hu':r.up=[]:=by
  cases hr:r.up with
  | nil=>rfl
  | cons p l=>rw [hr] at hu; simp at hu
 have live:∀ {r:R},r.up=[]->aVal T env o.dst o.op (eva s.t) H=some r->r.nw=[]/\r.up=[]/\(∀ H',(∀ b ∈ r.fp,H' b=H b)->aVal T env o.dst o.op (eva s.t) H'=some r)/\(∀ b ∈ r.fp,s.H b ≠ none):=by
  intro r hu hr
  obtain ⟨h1,h2,h3,h4⟩:=aVal_sliceK hp hr hu
  refine ⟨h1,h2,h3,fun b hb=>?_⟩
  obtain ⟨x,_,hx⟩:=h4 b hb
  have:=eva_rep h x
  rcases hx with ⟨p,hx⟩ | ⟨i,p,hx⟩ | ⟨n,hx⟩ | ⟨l,n,hx⟩
  · rw [hx] at this; exact rep_ref this
  · rw [hx] at this; exact rep_eref this
  · rw [hx] at this; exact rep_own this
  · rw [hx] at this; exact rep_ows this
 unfold eff at he ⊢
 split at he
 · exact live hu' he
 ·
  split at he
  ·
   split at he
   ·
    rename_i hb
    obtain ⟨h1,h2,h3,h4⟩:=live hu' he
    exact ⟨h1,h2,fun H' hH=>by simp only [*,if_true]; exact h3 H' hH,h4⟩
   ·
    rename_i hb
    cases he
    exact ⟨rfl,rfl,fun H' _=>by simp only [*,if_false],fun b hb=>by simp at hb⟩
  ·
   cases he
   exact ⟨rfl,rfl,fun H' _=>by simp only [*],fun b hb=>by simp at hb⟩
  · cases he
end
end Go.Proofs.YtjoaigccapegpaaGreat.AE
