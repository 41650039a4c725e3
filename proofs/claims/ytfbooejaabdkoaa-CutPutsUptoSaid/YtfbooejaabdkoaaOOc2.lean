/-
 Package octet: next: contract. Conditions: none; every contract names its own.
-/
import Derived.Test.YtfbooejaabdkoaaOOc1
import Derived.Test.YtfbooejaabdkoaaPc
set_option linter.constructorNameAsVariable false
namespace Go.Proofs.Ytfbooejaabdkoaa.AE
open Go Go.Proofs Go.RowKit
set_option linter.unusedVariables false
set_option linter.unusedSimpArgs false
set_option maxRecDepth 100000
set_option maxHeartbeats 4000000
def rdL (w:Nat) (r:Rd):List U8:=if r.1=false/\w<=r.2.length then r.2.take w else []
def rdK (w:Nat) (r:Rd):Bool:=decide (r.1=false/\w<=r.2.length)
theorem rdN_eq (w:Nat) (r:Rd):rdN w r=beN (rdL w r):=by unfold rdN rdL; split <;> rfl
theorem rdL_len (w:Nat) (r:Rd):(rdL w r).length<=w:=by
 unfold rdL
 split
 · simp; omega
 · simp
theorem rdL_oct {w:Nat} {r:Rd} (h:Oct r.2):Oct (rdL w r):=by
 unfold rdL
 split
 · exact h.take w
 · exact Oct.nil
def otakeI (w:Nat) (r:Rd) (L:List U8) (pre _post:List U8):St:=⟨ofL [(7,.bool (rdK w r)),(8,.int .u64 (beN pre)),(23,.sl 1 (rows cU8 L)),(24,.int .i64 L.length),(25,.int .i64 pre.length)],hOf [((1,0),.obj [.bool true,.bool (rdR w r).1,.sl 1 (rows cU8 (rdR w r).2)])]⟩
section
variable {Γ:Ctx} {env:Env} {Q:X->St->Prop} {s:St}
theorem opsW_slice3 {ops:Array Oper} {o:Oper} {l:List Oper} {x hi mx:Operand} {t:TypeId} {k:Nat} {L:List (List AV)} {kd:IntKind} {n:Nat} {i:TI} (ho:o.op=.slice t x none (some hi) (some mx)) (hg:o.guard=none) (hX:eva s.t x=.sl k L) (hT:TI.of Γ.P t=some i) (hs:i.slc=true) (hk:k=i.esize)
  (hh:eva s.t hi=.int kd (n:Int)) (hm:eva s.t mx=.int kd (n:Int)) (h1:n<=L.length) (h:opsW Γ env ops l ⟨tput s.t o.dst (.sl k (L.take n)),s.H⟩ Q):opsW Γ env ops (o :: l) s Q:=by
 refine opsW_sim (r:=⟨.sl k (L.take n),[],[],[],none⟩) hg (fun μ a w hok hR=>?_) (H1:=s.H) rfl rfl h
 have hx:=eva_rep hR x
 have eh:a.eval hi=.int kd (n:Int):=by have:=eva_rep hR hi; rw [hh] at this; exact this.int_inv
 have em:a.eval mx=.int kd (n:Int):=by have:=eva_rep hR mx; rw [hm] at this; exact this.int_inv
 rw [hX] at hx
 generalize hval:a.eval x=y at hx
 obtain ⟨e',q,d,u1,u2,u3,_⟩:=slice_info hT hs
 cases hx with
 | sl _ _ _ ad c f hc hmx hkk hv hr=>
  have hlen:(L.take n).length=n:=by simp; omega
  have hb:(Instr.sliceBounds true L.length c none (some (.int kd (n:Int))) (some (.int kd (n:Int)))).run Γ.P w=.ok (0,n,n) w:=by
   have g1:(n:Int)<=(c:Int):=by omega
   simp [Instr.sliceBounds,Instr.sliceBound,asIntOf,g1]
  have run:(execOp a.eval o).run Γ.P w=.ok (.value (.slice (if n=0 then ad else ad.map (·.add (0 * q.size))) (n - 0) (n - 0))) w:=by
   simp only [execOp,ho,hval,Instr.sliceAt,Sem.run_bind,run_underlying u1,Result.andThen_ok,Instr.slice,Option.map_none,Option.map_some,eh,em,hb,run_sizeOf' u2,Sem.run_pure]
  refine simV hR (opOK_dst hok) run ?_
  have:=@Rep.sl w (forb Γ.Mx μ s.H) μ s.H k (L.take n) (if n=0 then ad else ad.map (·.add (0 * q.size))) n f (by omega) (by omega) (fun x hx=>hkk x (List.mem_of_mem_take hx)) (fun i j hi hj=>by
   rw [hlen] at hi
   obtain ⟨g,off,e1,e2,e3,e4⟩:=hv i j (by omega) hj
   refine ⟨g,off,?_,e2,e3,e4⟩
   rw [if_neg (by omega),e1]
   simp [Addr.add_lit]) (fun i j cs x hi hj=>by
   rw [List.getElem?_take] at hi
   split at hi
   · exact hr _ _ _ _ hi hj
   · cases hi)
  rw [hlen] at this
  simpa using this
end
structure onextX where
 p:Bool
 l:List U8
 z:Nat
 hL:l.length<=140737488355328
noncomputable def onextS:HSpec:=mkH (ι:=onextX) (fun ⟨p,l,z,hL⟩=>([.ref (1,0) 0,.int .i64 z],[.obj [.bool true,.bool p,.sl 1 (rows cU8 l)]])) fun ⟨p,l,z,hL⟩=>⟨.tup [.sl 1 (rows cU8 (rdL z (p,l))),.bool (rdK z (p,l))],[.obj [.bool true,.bool (rdR z (p,l)).1,.sl 1 (rows cU8 (rdR z (p,l)).2)]],[]⟩
theorem onextS_atG (p:Bool) (l:List U8) (z:Nat) (hL:l.length<=140737488355328):onextS [.ref (1,0) 0,.int .i64 z] [.obj [.bool true,.bool p,.sl 1 (rows cU8 l)]]=some (⟨.tup [.sl 1 (rows cU8 (rdL z (p,l))),.bool (rdK z (p,l))],[.obj [.bool true,.bool (rdR z (p,l)).1,.sl 1 (rows cU8 (rdR z (p,l)).2)]],[]⟩):=
 mA_ (ι:=onextX) (fun i j h=>by obtain ⟨p,l,z,hL⟩:=i; obtain ⟨p2,l2,z2,hL2⟩:=j; simp [and_assoc,qB_,qI_,qO_,qC_,qE_,qK_,qR_,qV_,qP_,qOc_,rows_iff_U8,cCut_eq_iff,Int.natCast_inj] at h; obtain ⟨rfl,rfl,rfl⟩:=h; rfl) ⟨p,l,z,hL⟩
theorem onextS_at (p:Bool) (l:List U8) (z:Nat) (hL:l.length<=140737488355328):onextS [.ref (1,0) 0,.int .i64 z] [.obj [.bool true,.bool p,.sl 1 (rows cU8 l)]]=some (⟨.tup [.sl 1 (rows cU8 (rdL z (p,l))),.bool (rdK z (p,l))],[.obj [.bool true,.bool (rdR z (p,l)).1,.sl 1 (rows cU8 (rdR z (p,l)).2)]],[]⟩):=onextS_atG p l z hL
theorem onext_ok:HSound Try.prog 95 onextS:=by
 refine sE_ (fn:=Try.f95) rfl rfl (by kernel_rfl) fun args bx hr hS=>?_
 obtain ⟨⟨p,l,z,hL⟩,rfl,rfl,rfl⟩:=mO_ hS
 clear hS
 refine ⟨_,(eV_ (g:=101) (by kernel_rfl) ofine_ok (eN_ _)),by simp [Try.f95],by simp [go_sem],fun w Mx pin=>?_⟩
 simp only [hB_at,lab_nil,lab_cons,hOf_nil,hOf_cons]
 have g0:¬ (z:Int) < 0:=by omega
 refine aQ_ ?_
 iterate 2
  refine oC_ fun J hJ=>?_
  simp [go_sem]
  refine hJ _ _ _ ?_
 refine oN_ ?_
 refine aS_ fun K2 hK2=>?_
 refine aS_ fun K3 hK3=>?_
 cases p
 rotate_left
 ·
  have e1:rdL z (true,l)=[]:=by simp [rdL]
  have e2:rdK z (true,l)=false:=by simp [rdK]
  have e3:rdR z (true,l)=(true,l):=by simp [rdR]
  refine aR_ ?_
  iterate 3
   refine oC_ fun J hJ=>?_
   simp [go_sem,ofineS_at true l]
   refine hJ _ _ _ ?_
  refine oN_ ?_
  refine hK3 _ ?_
  refine aT_ rfl ?_
  refine aQ_ ?_
  iterate 2
   refine oC_ fun J hJ=>?_
   simp [go_sem]
   refine hJ _ _ _ ?_
  refine oN_ ?_
  refine aE_ ?_
  refine fQ_ [((1,0),some (1,0))] ?_
  simp [go_sem,Try.f95,e1,e2,e3]
 ·
  refine aR_ ?_
  iterate 3
   refine oC_ fun J hJ=>?_
   simp [go_sem,ofineS_at false l]
   refine hJ _ _ _ ?_
  refine oN_ ?_
  refine hK3 _ ?_
  refine aF_ rfl ?_
  refine aK_ ?_
  refine hK2 _ ?_
  refine aS_ fun K6 hK6=>?_
  refine aS_ fun K7 hK7=>?_
  by_cases hw:z<=l.length
  ·
   have e1:rdL z (false,l)=l.take z:=by simp [rdL,hw]
   have e2:rdK z (false,l)=true:=by simp [rdK,hw]
   have e3:rdR z (false,l)=(false,l.drop z):=by simp [rdR,hw]
   have g1:¬ (l.length:Int) < (z:Int):=by omega
   refine aR_ ?_
   iterate 11
    refine oC_ fun J hJ=>?_
    simp [go_sem,g0,g1]
    refine hJ _ _ _ ?_
   refine oN_ ?_
   refine hK7 _ ?_
   refine aF_ rfl ?_
   refine aK_ ?_
   refine hK6 _ ?_
   refine aS_ fun K11 hK11=>?_
   refine awp_regionW ?_
   refine opsW_cons fun J hJ=>?_
   simp [go_sem]
   refine hJ _ _ _ ?_
   refine opsW_cons fun J hJ=>?_
   simp [go_sem]
   refine hJ _ _ _ ?_
   refine opsW_cons fun J hJ=>?_
   simp [go_sem]
   refine hJ _ _ _ ?_
   refine opsW_cons fun J hJ=>?_
   simp [go_sem]
   refine hJ _ _ _ ?_
   refine opsW_cons fun J hJ=>?_
   simp [go_sem]
   refine hJ _ _ _ ?_
   refine opsW_cons fun J hJ=>?_
   simp [go_sem]
   refine hJ _ _ _ ?_
   refine opsW_slice3 (L:=rows cU8 l) (n:=z) rfl rfl (by simp [go_sem]) ti64 rfl rfl (kd:=.i64) (by simp [go_sem]) (by simp [go_sem]) (by simp [go_sem,hw]) ?_
   refine opsW_cons fun J hJ=>?_
   simp [go_sem]
   refine hJ _ _ _ ?_
   refine opsW_nil ?_
   refine hK11 _ ?_
   refine aQ_ ?_
   iterate 10
    refine oC_ fun J hJ=>?_
    simp [go_sem,hw]
    refine hJ _ _ _ ?_
   refine oN_ ?_
   refine aQ_ ?_
   iterate 3
    refine oC_ fun J hJ=>?_
    simp [go_sem]
    refine hJ _ _ _ ?_
   refine oN_ ?_
   refine aE_ ?_
   refine fQ_ [((1,0),some (1,0))] ?_
   simp [go_sem,Try.f95,e1,e2,e3]
  ·
   have e1:rdL z (false,l)=[]:=by simp [rdL]; omega
   have e2:rdK z (false,l)=false:=by simp [rdK]; omega
   have e3:rdR z (false,l)=(true,l):=by simp [rdR]; omega
   have g1:(l.length:Int) < (z:Int):=by omega
   refine aR_ ?_
   iterate 11
    refine oC_ fun J hJ=>?_
    simp [go_sem,g0,g1]
    refine hJ _ _ _ ?_
   refine oN_ ?_
   refine hK7 _ ?_
   refine aT_ rfl ?_
   refine aQ_ ?_
   iterate 4
    refine oC_ fun J hJ=>?_
    simp [go_sem]
    refine hJ _ _ _ ?_
   refine oN_ ?_
   refine aQ_ ?_
   iterate 2
    refine oC_ fun J hJ=>?_
    simp [go_sem]
    refine hJ _ _ _ ?_
   refine oN_ ?_
   refine aE_ ?_
   refine fQ_ [((1,0),some (1,0))] ?_
   simp [go_sem,Try.f95,e1,e2,e3]
end Go.Proofs.Ytfbooejaabdkoaa.AE
