/-
 Chapter 19: alive. Conditions: none; every contract names its own.
-/
import Derived.Test.YtjoaigccapegpaaGreatOLg8
set_option linter.constructorNameAsVariable false
namespace Go.Proofs.YtjoaigccapegpaaGreat.AE
open Go Go.Proofs Go.RowKit
set_option linter.unusedVariables false
set_option linter.unusedSimpArgs false
set_option maxRecDepth 100000
set_option maxHeartbeats 4000000
theorem lNew_S:lNewS [] []=some ⟨.ref (2,0) 0,[],[.obj (cLg (.own (2,1) (zS.d).length) (.own (2,2) (zS.d).length) (bD (zS.d)).1 (.sl 7 (rows cOrd (bD (zS.d)).2)) (.bool true) (.ref (2,3) 0) zS.v zS.u),.row 35 9 (rows cChg (zS.d)) false,.row 50 2 (rows cOc (oD (zS.d))) false,.obj [.sl 9 (rows cChg (zS.r))]]⟩:=lNewS_at
theorem lAdd_S {s s1:LS} {c:Chg} (h:s1=addS s c) (hl:s.d.length + s.r.length<=10000):lAddS [.ref (1,0) 0,.agg (cChg c)] [.obj (cLg (.own (1,1) (s.d).length) (.own (1,2) (s.d).length) (bD (s.d)).1 (.sl 7 (rows cOrd (bD (s.d)).2)) (.bool true) (.ref (1,3) 0) s.v s.u),.row 35 9 (rows cChg (s.d)) false,.row 50 2 (rows cOc (oD (s.d))) false,.obj [.sl 9 (rows cChg (s.r))]]=some ⟨.int .i64 (adC s.d s.r s.v s.u c),[.obj (cLg (.own (1,1) (s1.d).length) (.own (1,2) (s1.d).length) (bD (s1.d)).1 (.sl 7 (rows cOrd (bD (s1.d)).2)) (.bool true) (.ref (1,3) 0) s1.v s1.u),.row 35 9 (rows cChg (s1.d)) false,.row 50 2 (rows cOc (oD (s1.d))) false,.obj [.sl 9 (rows cChg (s1.r))]],[]⟩:=by
 subst h
 exact lAddS_at s.d s.r s.v s.u c hl
theorem lCom_S {s s1:LS} {a:Id} (h:s1=comS s a) (hf:freeC s.r a=true) (hl:s.d.length + s.r.length<=9000):lComS [.ref (1,0) 0,.agg (cId a)] [.obj (cLg (.own (1,1) (s.d).length) (.own (1,2) (s.d).length) (bD (s.d)).1 (.sl 7 (rows cOrd (bD (s.d)).2)) (.bool true) (.ref (1,3) 0) s.v s.u),.row 35 9 (rows cChg (s.d)) false,.row 50 2 (rows cOc (oD (s.d))) false,.obj [.sl 9 (rows cChg (s.r))]]=some ⟨.int .i64 0,[.obj (cLg (.own (2,0) (s1.d).length) (.own (2,1) (s1.d).length) (bD (s1.d)).1 (.sl 7 (rows cOrd (bD (s1.d)).2)) (.bool true) (.ref (1,3) 0) s1.v s1.u),.dead,.dead,.obj [.sl 9 (rows cChg (s1.r))]],[.row 35 9 (rows cChg (s1.d)) false,.row 50 2 (rows cOc (oD (s1.d))) false]⟩:=by
 subst h
 have q:comD s.d s.r a=s.d++[takeC s.r a]:=if_pos hf
 have hc:=lComS_at s.d s.r s.v s.u a hl
 rw [show comH s.d s.r s.v s.u a=_ from if_pos hf] at hc
 simp only [comS,q]
 exact hc
def c191:Chg:=⟨⟨1,1⟩,5,2,0,0,4,zId⟩
theorem c191e:cChg { id:={ rep:=1,seq:=1 },time:=5,kind:=2,a:=zChg.a,b:=zChg.b,n:=4,ref:=zChg.ref }=cChg c191:=rfl
def c192:Chg:=⟨⟨2,1⟩,3,2,0,0,4,zId⟩
theorem c192e:cChg { id:={ rep:=2,seq:=1 },time:=3,kind:=2,a:=zChg.a,b:=zChg.b,n:=4,ref:=zChg.ref }=cChg c192:=rfl
def c193:Chg:=⟨⟨2,3⟩,9,2,0,0,4,zId⟩
theorem c193e:cChg { id:={ rep:=2,seq:=3 },time:=9,kind:=2,a:=zChg.a,b:=zChg.b,n:=4,ref:=zChg.ref }=cChg c193:=rfl
def s191:LS:=addS zS c191
def s192:LS:=addS s191 c192
def s193:LS:=addS s192 c193
def f19:Id:=(headC s193.r).id
def s194:LS:=comS s193 f19
theorem ok193:okS s193:=okS_add (okS_add (okS_add okS_z _) _) _
theorem ok194:okS s194:=okS_com ok193 _
theorem n190:zS.d.length + zS.r.length<=9000:=by have:=okS_len okS_z; omega
theorem n191:s191.d.length + s191.r.length<=9000:=by have:=okS_len (okS_add okS_z c191); unfold s191; omega
theorem n192:s192.d.length + s192.r.length<=9000:=by have:=okS_len (okS_add (okS_add okS_z c191) c192); unfold s192 s191; omega
theorem n193:s193.d.length + s193.r.length<=9000:=by have:=okS_len ok193; omega
theorem n194:s194.d.length + s194.r.length<=9000:=by have:=okS_len ok194; omega
theorem k191:adC zS.d zS.r zS.v zS.u c191=0:=by kernel_rfl
theorem k192:adC s191.d s191.r s191.v s191.u c192=0:=by kernel_rfl
theorem k193:adC s192.d s192.r s192.v s192.u c193=9:=by kernel_rfl
theorem k194:decide (s193.r ≠ [])=true:=by kernel_rfl
theorem k195:f19.rep=2:=by kernel_rfl
theorem k196:freeC s193.r f19=true:=by kernel_rfl
theorem k197:(outG s194.d s194.r f19).code=0:=by kernel_rfl
theorem k198:goodG s194.d s194.r f19=true:=by kernel_rfl
theorem k199:wasG s194.d s194.r f19=true:=by kernel_rfl
theorem k19a:mx (mx (mx (s194.u.at 0) (s194.u.at 1)) (s194.u.at 2)) (s194.u.at 3)=5:=by kernel_rfl
theorem k19b:(bD s194.d).1.pu.at 0=4:=by kernel_rfl
theorem k19c:(bD (s194.d++s194.r)).1.pu.at 0=8:=by kernel_rfl
theorem b191:lAddS [.ref (1,0) 0,.agg (cChg c191)] [.obj (cLg (.own (1,1) (zS.d).length) (.own (1,2) (zS.d).length) (bD (zS.d)).1 (.sl 7 (rows cOrd (bD (zS.d)).2)) (.bool true) (.ref (1,3) 0) zS.v zS.u),.row 35 9 (rows cChg (zS.d)) false,.row 50 2 (rows cOc (oD (zS.d))) false,.obj [.sl 9 (rows cChg (zS.r))]]=some ⟨.int .i64 0,[.obj (cLg (.own (1,1) (s191.d).length) (.own (1,2) (s191.d).length) (bD (s191.d)).1 (.sl 7 (rows cOrd (bD (s191.d)).2)) (.bool true) (.ref (1,3) 0) s191.v s191.u),.row 35 9 (rows cChg (s191.d)) false,.row 50 2 (rows cOc (oD (s191.d))) false,.obj [.sl 9 (rows cChg (s191.r))]],[]⟩:=by rw [lAdd_S (s1:=s191) rfl (by have:=n190; omega),k191]
theorem b192:lAddS [.ref (1,0) 0,.agg (cChg c192)] [.obj (cLg (.own (1,1) (s191.d).length) (.own (1,2) (s191.d).length) (bD (s191.d)).1 (.sl 7 (rows cOrd (bD (s191.d)).2)) (.bool true) (.ref (1,3) 0) s191.v s191.u),.row 35 9 (rows cChg (s191.d)) false,.row 50 2 (rows cOc (oD (s191.d))) false,.obj [.sl 9 (rows cChg (s191.r))]]=some ⟨.int .i64 0,[.obj (cLg (.own (1,1) (s192.d).length) (.own (1,2) (s192.d).length) (bD (s192.d)).1 (.sl 7 (rows cOrd (bD (s192.d)).2)) (.bool true) (.ref (1,3) 0) s192.v s192.u),.row 35 9 (rows cChg (s192.d)) false,.row 50 2 (rows cOc (oD (s192.d))) false,.obj [.sl 9 (rows cChg (s192.r))]],[]⟩:=by rw [lAdd_S (s1:=s192) rfl (by have:=n191; omega),k192]
theorem b193:lAddS [.ref (1,0) 0,.agg (cChg c193)] [.obj (cLg (.own (1,1) (s192.d).length) (.own (1,2) (s192.d).length) (bD (s192.d)).1 (.sl 7 (rows cOrd (bD (s192.d)).2)) (.bool true) (.ref (1,3) 0) s192.v s192.u),.row 35 9 (rows cChg (s192.d)) false,.row 50 2 (rows cOc (oD (s192.d))) false,.obj [.sl 9 (rows cChg (s192.r))]]=some ⟨.int .i64 9,[.obj (cLg (.own (1,1) (s193.d).length) (.own (1,2) (s193.d).length) (bD (s193.d)).1 (.sl 7 (rows cOrd (bD (s193.d)).2)) (.bool true) (.ref (1,3) 0) s193.v s193.u),.row 35 9 (rows cChg (s193.d)) false,.row 50 2 (rows cOc (oD (s193.d))) false,.obj [.sl 9 (rows cChg (s193.r))]],[]⟩:=by rw [lAdd_S (s1:=s193) rfl (by have:=n192; omega),k193]
theorem b194:lFirstS [.iref (cLg (.sl 9 (rows cChg s193.d)) (.sl 2 (rows cOc (oD s193.d))) (bD s193.d).1 (.sl 7 (rows cOrd (bD s193.d).2)) (.bool true) (.iref [.sl 9 (rows cChg s193.r)] 0) s193.v s193.u) 0] []=some ⟨.tup [.agg (cId f19),.bool true],[],[]⟩:=by rw [lFirstS_at,k194]; rfl
theorem b195:lComS [.ref (1,0) 0,.agg (cId f19)] [.obj (cLg (.own (1,1) (s193.d).length) (.own (1,2) (s193.d).length) (bD (s193.d)).1 (.sl 7 (rows cOrd (bD (s193.d)).2)) (.bool true) (.ref (1,3) 0) s193.v s193.u),.row 35 9 (rows cChg (s193.d)) false,.row 50 2 (rows cOc (oD (s193.d))) false,.obj [.sl 9 (rows cChg (s193.r))]]=some ⟨.int .i64 0,[.obj (cLg (.own (2,0) (s194.d).length) (.own (2,1) (s194.d).length) (bD (s194.d)).1 (.sl 7 (rows cOrd (bD (s194.d)).2)) (.bool true) (.ref (1,3) 0) s194.v s194.u),.dead,.dead,.obj [.sl 9 (rows cChg (s194.r))]],[.row 35 9 (rows cChg (s194.d)) false,.row 50 2 (rows cOc (oD (s194.d))) false]⟩:=lCom_S rfl k196 n193
theorem b196:lOutS [.ref (1,0) 0,.agg (cId f19)] [.obj (cLg (.own (1,1) (s194.d).length) (.own (1,2) (s194.d).length) (bD (s194.d)).1 (.sl 7 (rows cOrd (bD (s194.d)).2)) (.bool true) (.ref (1,3) 0) s194.v s194.u),.row 35 9 (rows cChg (s194.d)) false,.row 50 2 (rows cOc (oD (s194.d))) false,.obj [.sl 9 (rows cChg (s194.r))]]=some ⟨.tup [.agg (cOc (outG s194.d s194.r f19)),.bool true,.bool true],[.obj (cLg (.own (1,1) (s194.d).length) (.own (1,2) (s194.d).length) (bD (s194.d)).1 (.sl 7 (rows cOrd (bD (s194.d)).2)) (.bool true) (.ref (1,3) 0) s194.v s194.u),.row 35 9 (rows cChg (s194.d)) false,.row 50 2 (rows cOc (oD (s194.d))) false,.obj [.sl 9 (rows cChg (s194.r))]],[]⟩:=by
 have:=lOutS_at s194.d s194.r s194.v s194.u f19 (by have:=n194; omega)
 rw [k198,k199] at this
 exact this
theorem b197:lClockS [.iref (cLg (.sl 9 (rows cChg s194.d)) (.sl 2 (rows cOc (oD s194.d))) (bD s194.d).1 (.sl 7 (rows cOrd (bD s194.d).2)) (.bool true) (.iref [.sl 9 (rows cChg s194.r)] 0) s194.v s194.u) 0] []=some ⟨.int .i64 5,[],[]⟩:=by rw [lClockS_at,k19a]
structure alive19X where
 u:Unit
noncomputable def alive19S:HSpec:=mkH (ι:=alive19X) (fun ⟨_⟩=>([],[])) fun ⟨_⟩=>⟨.bool true,[],[]⟩
theorem alive19S_atG:alive19S [] []=some (⟨.bool true,[],[]⟩):=
 mA_ (ι:=alive19X) (fun i j h=>by obtain ⟨_⟩:=i; obtain ⟨_⟩:=j; rfl) ⟨()⟩
theorem alive19S_at:alive19S [] []=some (⟨.bool true,[],[]⟩):=alive19S_atG
theorem alive19_ok:HSound Tryz.prog 6 alive19S:=by
 refine sE_ (fn:=Tryz.f6) rfl rfl (by kernel_rfl) fun args bx hr hS=>?_
 obtain ⟨⟨_⟩,rfl,rfl,rfl⟩:=mO_ hS
 clear hS
 refine ⟨_,(eH_ (g:=7) (by kernel_rfl) lNew_ok (eH_ (g:=24) (by kernel_rfl) lAdd_ok (eV_ (g:=23) (by kernel_rfl) lFirst_ok (eH_ (g:=25) (by kernel_rfl) lCom_ok (eH_ (g:=13) (by kernel_rfl) lOut_ok (eV_ (g:=26) (by kernel_rfl) lClock_ok (eH_ (g:=16) (by kernel_rfl) lBase_ok (eH_ (g:=19) (by kernel_rfl) lSeen_ok (eN_ _))))))))),by simp [Tryz.f6],by simp [go_sem],fun w Mx pin=>?_⟩
 simp only [hB_at,lab_nil,lab_cons,hOf_nil,hOf_cons]
 refine aQ_ ?_
 iterate 1
  refine oC_ fun J hJ=>?_
  simp [go_sem]
  refine hJ _ _ _ ?_
 refine oN_ ?_
 refine aQ_ ?_
 iterate 2
  refine oC_ fun J hJ=>?_
  simp [go_sem,↓lNew_S]
  refine hJ _ _ _ ?_
 refine oN_ ?_
 refine aQ_ ?_
 iterate 5
  refine oC_ fun J hJ=>?_
  simp [go_sem,c191e,↓b191]
  refine hJ _ _ _ ?_
 refine oN_ ?_
 refine aQ_ ?_
 iterate 5
  refine oC_ fun J hJ=>?_
  simp [go_sem,c192e,↓b192]
  refine hJ _ _ _ ?_
 refine oN_ ?_
 refine aQ_ ?_
 iterate 5
  refine oC_ fun J hJ=>?_
  simp [go_sem,c193e,↓b193]
  refine hJ _ _ _ ?_
 refine oN_ ?_
 refine aQ_ ?_
 iterate 8
  refine oC_ fun J hJ=>?_
  simp [go_sem,take_oD,↓b194]
  refine hJ _ _ _ ?_
 refine oN_ ?_
 refine aQ_ ?_
 iterate 4
  refine oC_ fun J hJ=>?_
  simp [go_sem,↓b195]
  refine hJ _ _ _ ?_
 refine oN_ ?_
 refine aQ_ ?_
 iterate 11
  refine oC_ fun J hJ=>?_
  simp [go_sem,↓b196]
  refine hJ _ _ _ ?_
 refine oN_ ?_
 refine aQ_ ?_
 iterate 53
  refine oC_ fun J hJ=>?_
  simp [go_sem,take_oD,k195,k197,↓b197,lBaseS_at s194.d s194.r s194.v s194.u (by have:=n194; omega),lSeenS_at s194.d s194.r s194.v s194.u (by have:=n194; omega),k19b,k19c]
  refine hJ _ _ _ ?_
 refine oN_ ?_
 refine aE_ ?_
 refine fQ_ [] ?_
 simp [go_sem,Tryz.f6]
end Go.Proofs.YtjoaigccapegpaaGreat.AE
