/-
 A plain machine for the code of functions, and its soundness: part AEo. Conditions: none; every lemma names its own.
-/
import Derived.Test.YtjoaigccapegpaaGreatOAEn
set_option linter.constructorNameAsVariable false
namespace Go.Proofs.YtjoaigccapegpaaGreat.AE
open Go Go.RowKit
set_option linter.unusedVariables false
section
variable {Γ:Ctx} {env:Env} {Q:X->St->Prop} {s:St} {μ:Lay} {a:Act} {w:World} {o:Oper}
theorem sim_nilown (h:Rel Γ s μ a w) (hd:∀ t,o.dst=some t->t < Γ.n) {x y:Operand} {t t':TypeId} (ho:o.op=.binOp .eql t x y t') {b:Bid} {n sz:Nat} {e:TypeId} {L:List (List AV)} {z:Bool} {i:TI}
  (hX:eva s.t x=.own b n) (hY:eva s.t y=.nils) (hb:s.H b=some (.row e sz L z)) (hT:TI.of Γ.P t=some i) (hs:i.slc=true):SimR Γ s μ a w o ⟨nilB false (L.take n),[],[],[b],none⟩:=by
 have hx:=eva_rep h x
 have hy:=eva_rep h y
 rw [hX] at hx
 rw [hY] at hy
 have hy':=hy.nils_inv
 obtain ⟨e0,q,d,u1,_⟩:=slice_info hT hs
 generalize hvx:a.eval x=vx at hx
 have fin:∀ (a':Option Addr) (m c:Nat) (r:Bool),vx=.slice a' m c->(Op.equal t (.slice a' m c) (.slice none 0 0)).run Γ.P w=.ok r w->Rep w (forb Γ.Mx μ s.H) μ s.H (nilB false (L.take n)) (.bool r)->SimR Γ s μ a w o ⟨nilB false (L.take n),[],[],[b],none⟩:=by
  intro a' m c r hv k1 k2
  obtain ⟨g1,g2⟩:=binOp_eql (t:=t) (vx:=.slice a' m c) (vy:=a.eval y) (by simp) (by simp) (by simp) (by simp)
  have e2:∀ op p q,(eqGuard op t p q (.slice a' m c) (a.eval y)).run Γ.P w=.ok () w:=fun op p q=>by cases op <;> rfl
  rw [<-hy'] at k1
  exact simV h hd (x:=.bool r) (by rw [hv] at hvx; simp only [execOp,ho,hvx,Sem.run_bind,e2,Result.andThen_ok,g1,k1,Sem.run_pure]) k2
 cases hx with
 | ownd _ _ _ _ hH _=>rw [hb] at hH; cases hH
 | own _ _ _ _ _ _ _ hH hn=>
  rw [hb] at hH
  cases hH
  rcases h.hb b _ hb with hq | ⟨g,c,cur,e1,q1,q2,q3⟩ | ⟨q1,e1,sz1,z1,q2,q3⟩
  · cases hq
  ·
   refine fin (some ⟨g,0,none⟩) n c false (by rw [q1]; rfl) (equal_slice' u1 9999 _ _ _ _ _) ?_
   cases L.take n with
   | nil=>exact .ub _ _
   | cons=>exact .bool _ _
  ·
   cases q2
   obtain rfl:n=0:=by simpa using hn
   exact fin none 0 0 true (by rw [q1]; rfl) (equal_slice u1 9999 _ _ _ _) (.ub _ _)
theorem opsW_nilown {ops:Array Oper} {l:List Oper} {x y:Operand} {t t':TypeId} (ho:o.op=.binOp .eql t x y t') (hg:o.guard=none) {b:Bid} {n sz:Nat} {e:TypeId} {L:List (List AV)} {z:Bool} {i:TI}
  (hX:eva s.t x=.own b n) (hY:eva s.t y=.nils) (hb:s.H b=some (.row e sz L z)) (hT:TI.of Γ.P t=some i) (hs:i.slc=true)
  (h:opsW Γ env ops l ⟨tput s.t o.dst (nilB false (L.take n)),s.H⟩ Q):opsW Γ env ops (o :: l) s Q:=
 opsW_sim (r:=⟨nilB false (L.take n),[],[],[b],none⟩) hg (fun μ a w hok hR=>sim_nilown hR (opOK_dst hok) ho hX hY hb hT hs) (H1:=s.H) rfl rfl h
theorem opsW_lenpt {ops:Array Oper} {l:List Oper} {x:Operand} {t:TypeId} (ho:o.op=.call ⟨.builtin .len,#[x],#[t]⟩) (hg:o.guard=none) {b:Bid} {k n:Nat} {i:TI} (hX:eva s.t x=.pt b k n) (hT:TI.of Γ.P t=some i) (hs:i.slc=true)
  (h:opsW Γ env ops l ⟨tput s.t o.dst (.int .i64 n),s.H⟩ Q):opsW Γ env ops (o :: l) s Q:=by
 refine opsW_sim (r:=⟨.int .i64 n,[],[],[],none⟩) hg (fun μ a w hok hR=>?_) (H1:=s.H) rfl rfl h
 have hx:=eva_rep hR x
 rw [hX] at hx
 obtain ⟨e,q,d,u1,_⟩:=slice_info hT hs
 generalize hval:a.eval x=y at hx
 cases hx with
 | pt _ _ _ _ cs g c off m hH hμ hn hm=>
  exact simV hR (opOK_dst hok) (x:=goInt n) (by simp [execOp,ho,resolve,invoke,builtin,Builtin.len_,hval,run_underlying u1]) (.int _ _ _)
theorem opsW_putpt {ops:Array Oper} {l:List Oper} {o1 o2 o3:Oper} {x ix:Operand} {t t2 t3:TypeId} {e1 e2:Tmp} {f:Nat} {z:Int} (g1:o1.guard=none) (g2:o2.guard=none) (g3:o3.guard=none) (d1:o1.dst=some e1) (d2:o2.dst=some e2) (d3:o3.dst=none)
  (h1:o1.op=.indexAddr t x ix) (h2:o2.op=.fieldAddr t2 (.tmp e1) f) (h3:o3.op=.store t3 (.tmp e2) (.const (.int .i64 z))) {b:Bid} {k n off:Nat} {kk:IntKind} {j:Int} {i i2 i3:TI}
  (hX:eva s.t x=.pt b k n) (hI:eva s.t ix=.int kk j) (hj:0<=j/\j < n) (hb:s.H b=some (.obj [])) (hT:TI.of Γ.P t=some i) (hs:i.slc=true) (hk:i.esize=k)
  (hT2:TI.of Γ.P t2=some i2) (hf:i2.fields[f]?=some (off,1,false)) (hoff:off < k) (hT3:TI.of Γ.P t3=some i3) (hs3:i3.size=1)
  (h:opsW Γ env ops l ⟨tput (tput s.t (some e1) .u) (some e2) .u,s.H⟩ Q):opsW Γ env ops (o1 :: o2 :: o3 :: l) s Q:=by
 intro henv hok μ a w hR
 have hx:=eva_rep hR x
 rw [hX] at hx
 have hi:=eva_rep hR ix
 rw [hI] at hi
 have ei:=hi.int_inv
 generalize hval:a.eval x=y at hx
 cases hx with
 | pt _ _ _ _ cs g c p m hH hμ hn hm=>
  obtain ⟨cur,e,hg,hc,_⟩:=box_obj hR hH hμ
  obtain ⟨e0,q,d,hu',hq,hes,_⟩:=slice_info hT hs
  obtain ⟨fs,F,q2,d',u1,u2,u3,u4,u5,u6,u7⟩:=field_info hT2 hf
  obtain ⟨q3,d'',v1,v2,_,v3,_⟩:=TI.of_some hT3
  have hjn:j.toNat < n:=by omega
  have hle:(j.toNat + 1) * k<=n * k:=Nat.mul_le_mul_right _ (by omega)
  rw [Nat.add_mul,Nat.one_mul] at hle
  have hnm:j < (n:Int):=hj.2
  refine wpList_step fun K hK=>?_
  rw [if_pos (by simp [Region.wanted,g1])]
  have r1:(execOp a.eval o1).run Γ.P w=.ok (.value (.pointer (some ⟨g,p + j.toNat * k,none⟩))) w:=by
   have hk':k=q.size:=hk.symm.trans hes
   simp only [execOp,h1,hval,ei,Instr.indexAt,asIntOf,Sem.run_bind,Sem.run_pure,Result.andThen_ok,run_underlying hu',Sem.run_ite,hj.1,hnm,and_self,if_true,run_sizeOf' hq,Addr.add_lit,hk']
  refine wp_value r1 (hK _ _ ?_)
  have lt1:∀ t,o1.dst=some t->t < Γ.n:=opOK_dst (hok o1 (by simp))
  have lt2:∀ t,o2.dst=some t->t < Γ.n:=opOK_dst (hok o2 (by simp))
  have hR1:=hR.put (d:=o1.dst) lt1 (v:=.u) (x:=.pointer (some ⟨g,p + j.toNat * k,none⟩)) (.u _ _)
  have ev1:(a.put o1.dst (.pointer (some ⟨g,p + j.toNat * k,none⟩))).eval (.tmp e1)=.pointer (some ⟨g,p + j.toNat * k,none⟩):=by
   show (a.put o1.dst _).tmps.getD e1 undef=_
   rw [getD_put _ _ _ _ (by rw [hR.hn]; exact lt1),if_pos d1]
  generalize a.put o1.dst (.pointer (some ⟨g,p + j.toNat * k,none⟩))=a1 at hR1 ev1
  refine wpList_step fun K hK=>?_
  rw [if_pos (by simp [Region.wanted,g2])]
  have r2:(execOp a1.eval o2).run Γ.P w=.ok (.value (.pointer (some ⟨g,p + j.toNat * k + off,none⟩))) w:=by
   have hsz:¬ q2.size=0:=by rw [<-u5]; simp
   simp only [execOp,h2,ev1,Instr.fieldAt,Sem.run_bind,run_underlying u1,Result.andThen_ok,u2,Instr.sureAddr,Sem.run_pure,fieldPlace,run_sizeOf' u4,hsz,if_false,Addr.add_lit,<-u3]
  refine wp_value r2 (hK _ _ ?_)
  have hR2:=hR1.put (d:=o2.dst) lt2 (v:=.u) (x:=.pointer (some ⟨g,p + j.toNat * k + off,none⟩)) (.u _ _)
  have ev2:(a1.put o2.dst (.pointer (some ⟨g,p + j.toNat * k + off,none⟩))).eval (.tmp e2)=.pointer (some ⟨g,p + j.toNat * k + off,none⟩):=by
   show (a1.put o2.dst _).tmps.getD e2 undef=_
   rw [getD_put _ _ _ _ (by rw [hR1.hn]; exact lt2),if_pos d2]
  generalize a1.put o2.dst (.pointer (some ⟨g,p + j.toNat * k + off,none⟩))=a2 at hR2 ev2
  refine wpList_step fun K hK=>?_
  rw [if_pos (by simp [Region.wanted,g3])]
  have hlt:p + j.toNat * k + off < cur.size:=by omega
  have hst:=run_storeCells_at Γ.P g (p + j.toNat * k + off) e [Value.int .i64 z] 0 cur w hg (by simp; omega) (fun v hv=>by simp at hv; subst hv; rfl)
  have r3:(execOp a2.eval o3).run Γ.P w=.ok .skip (w.setRow g (cur.toList.take (p + j.toNat * k + off)++[Value.int .i64 z]++cur.toList.drop (p + j.toNat * k + off + 1)).toArray):=by
   have hn1:¬ ((Value.int .i64 z).cells.size ≠ q3.size):=by rw [<-v3,hs3]; simp [Value.cells]
   have ec:a2.eval (.const (.int .i64 z))=.int .i64 z:=rfl
   have hst':(storeCells ⟨g,p + j.toNat * k + off,none⟩ (Value.int .i64 z).cells.toList).run Γ.P w=.ok () (w.setRow g (cur.toList.take (p + j.toNat * k + off)++[Value.int .i64 z]++cur.toList.drop (p + j.toNat * k + off + 1)).toArray):=by
    have e0:(Value.int .i64 z).cells.toList=[Value.int .i64 z]:=rfl
    rw [e0]
    simpa using hst
   simp only [execOp,h3,ev2,ec,Instr.storeAt,Instr.sureAddr,storeVar,Sem.run_bind,Sem.run_pure,Result.andThen_ok,run_sizeOf' v1,Sem.run_ite,hn1,if_false,hst']
  refine wp_skipped r3 (hK _ _ ?_)
  have hput:a2.put o3.dst undef=a2:=by rw [d3]; rfl
  rw [hput]
  have hsame:∀ H:Heap,H b=some (.obj [])->AE.hput H b (.obj [])=H:=fun H hHb=>by
   funext i
   by_cases hi:i=b
   · subst hi; simp [AE.hput,hHb]
   · simp [AE.hput,hi]
  have hsz':c<=(cur.toList.take (p + j.toNat * k + off)++[Value.int .i64 z]++cur.toList.drop (p + j.toNat * k + off + 1)).toArray.size:=by
   simp only [List.size_toArray,List.length_append,List.length_take,List.length_drop,List.length_cons,List.length_nil,Array.length_toList]
   omega
  have hW:=hR2.write (b:=b) (x:=.obj []) (x':=.obj []) (g:=g) (c:=c) hb rfl rfl hμ (by rw [hsame _ hb]; exact HLe.refl _) (setRow_heap w g cur _ e _ hg) rfl rfl rfl (by simp) (fun k' hk'=>setRow_other w g k' _ hk')
   ⟨⟨hsz',Nat.zero_le _⟩,fun i' x' hi'=>by simp at hi'⟩
  have hfin:Rel Γ ⟨tput (tput s.t (some e1) .u) (some e2) .u,AE.hput s.H b (.obj [])⟩ μ a2 (w.setRow g (cur.toList.take (p + j.toNat * k + off)++[Value.int .i64 z]++cur.toList.drop (p + j.toNat * k + off + 1)).toArray):=by
   rw [<-d1,<-d2]
   exact hW
  rw [hsame _ hb] at hfin
  exact h henv (fun o ho=>hok o (by simp [ho])) μ a2 _ hfin
end
end Go.Proofs.YtjoaigccapegpaaGreat.AE
