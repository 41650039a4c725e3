/-
 An abstract machine for the program's code: plain values in the place of memory (structs as lists of cells, slices as lists, a call's own variables as boxes), and what one operation, one region, one piece of code does to them. Conditions: none; it is shown sound in the texts behind this one.
-/
import Derived.WalkKit
import Derived.Maps.AppendAt
import Derived.Orders
import Derived.Laws.BytesString
import Derived.ChangeKeysEq
set_option linter.constructorNameAsVariable false
set_option linter.unusedVariables false
namespace Go.Proofs.YtjoaigccapegpaaGreat.AE
open Go
abbrev Bid:=Nat × Nat
inductive AV where
 | u
 | int (k:IntKind) (n:Int)
 | bool (b:Bool)
 | str (s:ByteArray)
 | agg (cs:List AV)
 | nils
 | sl (k:Nat) (L:List (List AV))
 | own (b:Bid) (n:Nat)
 | ows (b:Bid) (l n:Nat)
 | mpv (g:Nat) (es:Array MapEntry) (clock:Nat)
 | ref (b:Bid) (o:Nat)
 | pt (b:Bid) (k n:Nat)
 | eref (b:Bid) (i o:Nat)
 | iref (cs:List AV) (o:Nat)
 | nilp
 | fn (f:FuncId) (caps:List AV)
 | tup (vs:List AV)
 | ifc (t:TypeId) (v:AV)
 | nili
 | yl (l:Nat)
 | ub
 | frs (e:TypeId) (sz:Nat) (L:List (List AV))
 | pnc (v:AV)
inductive Box where
 | obj (cs:List AV)
 | row (e:TypeId) (sz:Nat) (L:List (List AV)) (frz:Bool)
 | dead
abbrev Heap:=Bid->Option Box
structure St where
 t:Nat->AV
 H:Heap
inductive Kd where
 | int (k:IntKind) | bool | str
 deriving DecidableEq
structure TI where
 size:Nat
 agg:Bool
 zero:List AV
 fields:List (Nat × Nat × Bool)
 len:Nat
 esize:Nat
 etype:TypeId
 ebytes:Nat
 kind:Option IntKind
 arr:Bool
 slc:Bool
 ptr:Bool
 kinds:Option (List Kd)
def cAV:Value->AV
 | .int k n=>.int k n
 | .bool b=>.bool b
 | .string s=>.str s
 | .slice none 0 0=>.nils
 | .pointer none=>.nilp
 | .nilIface=>.nili
 | _=>.u
@[go_sem] theorem cAV_int (k n):cAV (.int k n)=.int k n:=rfl
@[go_sem] theorem cAV_bool (b):cAV (.bool b)=.bool b:=rfl
@[go_sem] theorem cAV_str (b):cAV (.string b)=.str b:=rfl
@[go_sem] theorem cAV_nils:cAV (.slice none 0 0)=.nils:=rfl
@[go_sem] theorem cAV_nilp:cAV (.pointer none)=.nilp:=rfl
@[go_sem] theorem cAV_nili:cAV .nilIface=.nili:=rfl
structure R where
 v:AV
 nw:List (Bid × Box)
 up:List (Bid × Box)
 fp:List Bid
 pan:Option AV
def val (v:AV):Option R:=some ⟨v,[],[],[],none⟩
def fput (f:Nat->AV) (d:Nat) (v:AV):Nat->AV:=fun i=>if i=d then v else f i
def hput (H:Heap) (b:Bid) (x:Box):Heap:=fun i=>if i=b then some x else H i
def hputs (H:Heap):List (Bid × Box)->Heap
 | []=>H
 | (b,x) :: r=>hputs (hput H b x) r
def hnews (H:Heap):List (Bid × Box)->Option Heap
 | []=>some H
 | (b,x) :: r=>if (H b).isNone then hnews (hput H b x) r else none
def noH:Heap:=fun _=>none
def ofL:List (Nat × AV)->Nat->AV
 | []=>fun _=>.u
 | (d,v) :: l=>fput (ofL l) d v
def hOf:List (Bid × Box)->Heap
 | []=>noH
 | (b,x) :: l=>hput (hOf l) b x
@[go_sem] theorem fput_at (f d v i):fput f d v i=if i=d then v else f i:=rfl
@[go_sem] theorem hput_at (H b x) (i:Bid):hput H b x i=if i=b then some x else H i:=rfl
@[go_sem] theorem hputs_nil (H):hputs H []=H:=rfl
@[go_sem] theorem hputs_cons (H b x r):hputs H ((b,x) :: r)=hputs (hput H b x) r:=rfl
@[go_sem] theorem hnews_nil (H):hnews H []=some H:=rfl
@[go_sem] theorem hnews_cons (H b x r):hnews H ((b,x) :: r)=if (H b).isNone then hnews (hput H b x) r else none:=rfl
@[go_sem] theorem ofL_nil (i):ofL [] i=.u:=rfl
@[go_sem] theorem ofL_cons (d v l):ofL ((d,v) :: l)=fput (ofL l) d v:=rfl
@[go_sem] theorem hOf_nil:hOf []=noH:=rfl
@[go_sem] theorem hOf_cons (d v l):hOf ((d,v) :: l)=hput (hOf l) d v:=rfl
@[go_sem] theorem noH_at (i):noH i=none:=rfl
@[go_sem] theorem bid_eq (a b c d:Nat):(((a,b):Bid)=(c,d))=(a=c/\b=d):=by simp
def cells:AV->Option (List AV)
 | .agg cs=>some cs
 | .u=>none
 | .tup _=>none
 | .frs _ _ _=>none
 | .pnc _=>none
 | .yl _=>none
 | v=>some [v]
@[go_sem] theorem cells_agg (cs):cells (.agg cs)=some cs:=rfl
@[go_sem] theorem cells_int (k n):cells (.int k n)=some [.int k n]:=rfl
@[go_sem] theorem cells_bool (b):cells (.bool b)=some [.bool b]:=rfl
@[go_sem] theorem cells_str (b):cells (.str b)=some [.str b]:=rfl
@[go_sem] theorem cells_nils:cells .nils=some [.nils]:=rfl
@[go_sem] theorem cells_sl (k L):cells (.sl k L)=some [.sl k L]:=rfl
@[go_sem] theorem cells_ows (b l n):cells (.ows b l n)=some [.ows b l n]:=rfl
@[go_sem] theorem cells_own (b n):cells (.own b n)=some [.own b n]:=rfl
@[go_sem] theorem cells_ref (b n):cells (.ref b n)=some [.ref b n]:=rfl
@[go_sem] theorem cells_pt (b k n):cells (.pt b k n)=some [.pt b k n]:=rfl
@[go_sem] theorem cells_iref (b n):cells (.iref b n)=some [.iref b n]:=rfl
@[go_sem] theorem cells_nilp:cells .nilp=some [.nilp]:=rfl
@[go_sem] theorem cells_nili:cells .nili=some [.nili]:=rfl
@[go_sem] theorem cells_ifc (t v):cells (.ifc t v)=some [.ifc t v]:=rfl
@[go_sem] theorem cells_fn (f c):cells (.fn f c)=some [.fn f c]:=rfl
def over (cs:List AV) (o:Nat) (d:List AV):List AV:=cs.take o++d++cs.drop (o + d.length)
def ld (i:TI) (cs:List AV) (o:Nat):Option AV:=
 if i.agg then (if o + i.size<=cs.length then some (.agg ((cs.drop o).take i.size)) else none) else cs[o]?
def bitOr (k:IntKind) (a b:Int):Int:=k.wrap (BitVec.ofInt k.bits a ||| BitVec.ofInt k.bits b).toNat
def aInt (op:BinOp) (k:IntKind) (a b:Int):Option AV:=
 match op with
 | .add=>some (.int k (k.wrap (a + b)))
 | .sub=>some (.int k (k.wrap (a - b)))
 | .mul=>some (.int k (k.wrap (a * b)))
 | .quo=>if b=0 then none else some (.int k (k.wrap (a.tdiv b)))
 | .rem=>if b=0 then none else some (.int k (a.tmod b))
 | .eql=>some (.bool (a == b))
 | .neq=>some (.bool (a != b))
 | .lss=>some (.bool (decide (a < b)))
 | .leq=>some (.bool (decide (a<=b)))
 | .gtr=>some (.bool (decide (b < a)))
 | .geq=>some (.bool (decide (b<=a)))
 | .shl=>if b < 0 then none else some (.int k (k.wrap (a * 2 ^ (min b.toNat k.bits))))
 | .shr=>if b < 0 then none else some (.int k (a.fdiv (2 ^ (min b.toNat k.bits))))
 | .or=>some (.int k (bitOr k a b))
 | _=>none
section
variable (k:IntKind) (a b:Int)
@[go_sem] theorem aInt_add:aInt .add k a b=some (.int k (k.wrap (a + b))):=rfl
@[go_sem] theorem aInt_sub:aInt .sub k a b=some (.int k (k.wrap (a - b))):=rfl
@[go_sem] theorem aInt_mul:aInt .mul k a b=some (.int k (k.wrap (a * b))):=rfl
@[go_sem] theorem aInt_or:aInt .or k a b=some (.int k (bitOr k a b)):=rfl
@[go_sem] theorem aInt_eql:aInt .eql k a b=some (.bool (a == b)):=rfl
@[go_sem] theorem aInt_neq:aInt .neq k a b=some (.bool (a != b)):=rfl
@[go_sem] theorem aInt_lss:aInt .lss k a b=some (.bool (decide (a < b))):=rfl
@[go_sem] theorem aInt_leq:aInt .leq k a b=some (.bool (decide (a<=b))):=rfl
@[go_sem] theorem aInt_gtr:aInt .gtr k a b=some (.bool (decide (b < a))):=rfl
@[go_sem] theorem aInt_geq:aInt .geq k a b=some (.bool (decide (b<=a))):=rfl
@[go_sem] theorem aInt_shl:aInt .shl k a b=if b < 0 then none else some (.int k (k.wrap (a * 2 ^ (min b.toNat k.bits)))):=rfl
@[go_sem] theorem aInt_shr:aInt .shr k a b=if b < 0 then none else some (.int k (a.fdiv (2 ^ (min b.toNat k.bits)))):=rfl
end
def eqv:AV->AV->Option Bool
 | .int k a,.int k' b=>if k=k' then some (a == b) else none
 | .bool a,.bool b=>some (a == b)
 | .str a,.str b=>some (a == b)
 | _,_=>none
@[go_sem] theorem eqv_int (k a b):eqv (.int k a) (.int k b)=some (a == b):=by simp [eqv]
@[go_sem] theorem eqv_bool (a b):eqv (.bool a) (.bool b)=some (a == b):=rfl
@[go_sem] theorem eqv_str (a b):eqv (.str a) (.str b)=some (a == b):=rfl
def both:Option Bool->Option Bool->Option Bool
 | some x,some y=>some (x && y)
 | _,_=>none
@[go_sem] theorem both_some (x y):both (some x) (some y)=some (x && y):=rfl
def eqvs:List AV->List AV->Option Bool
 | [],[]=>some true
 | a :: l,b :: m=>both (eqv a b) (eqvs l m)
 | _,_=>none
@[go_sem] theorem eqvs_nil:eqvs [] []=some true:=rfl
@[go_sem] theorem eqvs_cons (a l b m):eqvs (a :: l) (b :: m)=both (eqv a b) (eqvs l m):=rfl
def kd:AV->Option Kd
 | .int k _=>some (.int k)
 | .bool _=>some .bool
 | .str _=>some .str
 | _=>none
@[go_sem] theorem kd_int (k n):kd (.int k n)=some (.int k):=rfl
@[go_sem] theorem kd_bool (n):kd (.bool n)=some .bool:=rfl
@[go_sem] theorem kd_str (n):kd (.str n)=some .str:=rfl
def eqK (l m:List AV):Option (List Kd)->Option Bool
 | some ks=>if l.map kd=ks.map some then eqvs l m else none
 | none=>none
@[go_sem] theorem eqK_some (l m ks):eqK l m (some ks)=if l.map kd=ks.map some then eqvs l m else none:=rfl
def aEq (i:TI):AV->AV->Option Bool
 | .agg l,.agg m=>if i.agg then eqK l m i.kinds else none
 | .nils,.nils=>if i.slc then some true else none
 | .nilp,.nilp=>if i.ptr then some true else none
 | .ref _ _,.nilp=>if i.ptr then some false else none
 | .iref _ _,.nilp=>if i.ptr then some false else none
 | .bool a,.bool b=>if i.agg then none else eqK [.bool a] [.bool b] i.kinds
 | .str a,.str b=>some (a.toList == b.toList)
 | _,_=>none
section
variable (i:TI)
@[go_sem] theorem aEq_agg (l m):aEq i (.agg l) (.agg m)=if i.agg then eqK l m i.kinds else none:=rfl
@[go_sem] theorem aEq_nils:aEq i .nils .nils=if i.slc then some true else none:=rfl
@[go_sem] theorem aEq_nilp:aEq i .nilp .nilp=if i.ptr then some true else none:=rfl
@[go_sem] theorem aEq_ref (b o):aEq i (.ref b o) .nilp=if i.ptr then some false else none:=rfl
@[go_sem] theorem aEq_iref (b o):aEq i (.iref b o) .nilp=if i.ptr then some false else none:=rfl
@[go_sem] theorem aEq_bool (a b):aEq i (.bool a) (.bool b)=if i.agg then none else eqK [.bool a] [.bool b] i.kinds:=rfl
@[go_sem] theorem aEq_str (a b):aEq i (.str a) (.str b)=some (a.toList == b.toList):=rfl
end
def optV:Option AV->Option R
 | some v=>val v
 | none=>none
@[go_sem] theorem optV_some (v):optV (some v)=val v:=rfl
def optB (neg:Bool):Option Bool->Option R
 | some b=>val (.bool (b != neg))
 | none=>none
@[go_sem] theorem optB_false (b):optB false (some b)=val (.bool b):=by cases b <;> rfl
@[go_sem] theorem optB_true (b):optB true (some b)=val (.bool !b):=by cases b <;> rfl
def nilB (neg:Bool):List (List AV)->AV
 | []=>.ub
 | _ :: _=>.bool neg
def eqO (neg:Bool):AV->AV->Option TI->Option R
 | .sl k L,.nils,some i=>if i.slc/\k ≠ 0 then val (nilB neg L) else none
 | x,y,some i=>optB neg (aEq i x y)
 | _,_,none=>none
@[go_sem] theorem eqO_sl (neg k L i):eqO neg (.sl k L) .nils (some i)=if i.slc/\k ≠ 0 then val (nilB neg L) else none:=rfl
@[go_sem] theorem eqO_agg (neg l y i):eqO neg (.agg l) y (some i)=optB neg (aEq i (.agg l) y):=by cases y <;> rfl
@[go_sem] theorem eqO_bool (neg l y i):eqO neg (.bool l) y (some i)=optB neg (aEq i (.bool l) y):=by cases y <;> rfl
@[go_sem] theorem eqO_str (neg l y i):eqO neg (.str l) y (some i)=optB neg (aEq i (.str l) y):=by cases y <;> rfl
@[go_sem] theorem eqO_nils (neg y i):eqO neg .nils y (some i)=optB neg (aEq i .nils y):=by cases y <;> rfl
@[go_sem] theorem eqO_nilp (neg y i):eqO neg .nilp y (some i)=optB neg (aEq i .nilp y):=by cases y <;> rfl
@[go_sem] theorem eqO_ref (neg b o y i):eqO neg (.ref b o) y (some i)=optB neg (aEq i (.ref b o) y):=by cases y <;> rfl
@[go_sem] theorem eqO_iref (neg b o y i):eqO neg (.iref b o) y (some i)=optB neg (aEq i (.iref b o) y):=by cases y <;> rfl
def vBin (i:Option TI) (op:BinOp):AV->AV->Option R
 | .int k a,.int k' b=>if k=k'\/op=.shl\/op=.shr then optV (aInt op k a b) else none
 | x,y=>match op with
  | .eql=>eqO false x y i
  | .neq=>eqO true x y i
  | _=>none
section
variable (i:Option TI) (op:BinOp) (x y:AV)
@[go_sem] theorem vBin_int (k a b):vBin i op (.int k a) (.int k b)=optV (aInt op k a b):=by simp [vBin]
@[go_sem] theorem vBin_shl (k k' a b):vBin i .shl (.int k a) (.int k' b)=optV (aInt .shl k a b):=by simp [vBin]
@[go_sem] theorem vBin_shr (k k' a b):vBin i .shr (.int k a) (.int k' b)=optV (aInt .shr k a b):=by simp [vBin]
@[go_sem] theorem vBin_eql_agg (l):vBin i .eql (.agg l) y=eqO false (.agg l) y i:=rfl
@[go_sem] theorem vBin_eql_bool (l):vBin i .eql (.bool l) y=eqO false (.bool l) y i:=rfl
@[go_sem] theorem vBin_eql_str (l):vBin i .eql (.str l) y=eqO false (.str l) y i:=rfl
@[go_sem] theorem vBin_eql_nils:vBin i .eql .nils y=eqO false .nils y i:=rfl
@[go_sem] theorem vBin_eql_sl (k L):vBin i .eql (.sl k L) y=eqO false (.sl k L) y i:=rfl
@[go_sem] theorem vBin_eql_nilp:vBin i .eql .nilp y=eqO false .nilp y i:=rfl
@[go_sem] theorem vBin_eql_ref (b n):vBin i .eql (.ref b n) y=eqO false (.ref b n) y i:=rfl
@[go_sem] theorem vBin_eql_iref (b n):vBin i .eql (.iref b n) y=eqO false (.iref b n) y i:=rfl
@[go_sem] theorem vBin_neq_agg (l):vBin i .neq (.agg l) y=eqO true (.agg l) y i:=rfl
@[go_sem] theorem vBin_neq_bool (l):vBin i .neq (.bool l) y=eqO true (.bool l) y i:=rfl
@[go_sem] theorem vBin_neq_str (l):vBin i .neq (.str l) y=eqO true (.str l) y i:=rfl
@[go_sem] theorem vBin_neq_nils:vBin i .neq .nils y=eqO true .nils y i:=rfl
@[go_sem] theorem vBin_neq_sl (k L):vBin i .neq (.sl k L) y=eqO true (.sl k L) y i:=rfl
@[go_sem] theorem vBin_neq_nilp:vBin i .neq .nilp y=eqO true .nilp y i:=rfl
@[go_sem] theorem vBin_neq_ref (b n):vBin i .neq (.ref b n) y=eqO true (.ref b n) y i:=rfl
@[go_sem] theorem vBin_neq_iref (b n):vBin i .neq (.iref b n) y=eqO true (.iref b n) y i:=rfl
end
def rowOf (n:Nat):Option Box->Option (Nat × List (List AV))
 | some (.row _ sz L _)=>some (sz,L.take n)
 | _=>none
@[go_sem] theorem rowOf_row (n e sz L f):rowOf n (some (.row e sz L f))=some (sz,L.take n):=rfl
def content (H:Heap):AV->Option (Nat × List (List AV))
 | .nils=>some (0,[])
 | .sl k L=>some (k,L)
 | .own b n=>rowOf n (H b)
 | _=>none
@[go_sem] theorem content_nils (H):content H .nils=some (0,[]):=rfl
@[go_sem] theorem content_sl (H k L):content H (.sl k L)=some (k,L):=rfl
@[go_sem] theorem content_own (H b n):content H (.own b n)=rowOf n (H b):=rfl
def piece (o n:Nat) (cs:List AV):Option (List AV)->Option (List AV)
 | some d=>if d.length=n/\o + n<=cs.length then some (over cs o d) else none
 | none=>none
@[go_sem] theorem piece_some (o n cs d):piece o n cs (some d)=if d.length=n/\o + n<=cs.length then some (over cs o d) else none:=rfl
def pieceO (v:AV):Option (Nat × Nat × Bool)->Option (List AV)->Option (List AV)
 | some f,some cs=>piece f.1 f.2.1 cs (cells v)
 | _,_=>none
@[go_sem] theorem pieceO_some (v f cs):pieceO v (some f) (some cs)=piece f.1 f.2.1 cs (cells v):=rfl
def structP (fs:List (Nat × Nat × Bool)):List (Nat × AV)->Option (List AV)->Option (List AV)
 | [],r=>r
 | (j,v) :: r,cs=>structP fs r (pieceO v fs[j]? cs)
@[go_sem] theorem structP_nil (fs cs):structP fs [] cs=cs:=rfl
@[go_sem] theorem structP_cons (fs j v r cs):structP fs ((j,v) :: r) cs=structP fs r (pieceO v fs[j]? cs):=rfl
def arrP (sz:Nat):List (Nat × AV)->Option (List AV)->Option (List AV)
 | [],r=>r
 | (j,v) :: r,cs=>arrP sz r (pieceO v (some (j * sz,sz,false)) cs)
@[go_sem] theorem arrP_nil (fs cs):arrP fs [] cs=cs:=rfl
@[go_sem] theorem arrP_cons (sz j v r cs):arrP sz ((j,v) :: r) cs=arrP sz r (pieceO v (some (j * sz,sz,false)) cs):=rfl
def optA:Option (List AV)->Option R
 | some cs=>val (.agg cs)
 | none=>none
def chunk (k:Nat):Nat->List AV->List (List AV)
 | 0,_=>[]
 | n + 1,l=>l.take k :: chunk k n (l.drop k)
def leafV:AV->AV
 | .int k n=>.int k n
 | .bool b=>.bool b
 | .str s=>.str s
 | .nils=>.nils
 | .sl k L=>.sl k L
 | .nilp=>.nilp
 | .nili=>.nili
 | _=>.u
def slV:Option (Nat × List (List AV))->AV
 | some (k,L)=>.sl k L
 | none=>.u
def objV (o:Nat) (f:AV->AV):Option Box->AV
 | some (.obj cs)=>.iref (cs.map f) o
 | _=>.u
def view (H:Heap):Nat->AV->AV
 | 0,v=>leafV v
 | d + 1,v=>match v with
  | .own b n=>slV (rowOf n (H b))
  | .ref b o=>objV o (view H d) (H b)
  | .agg cs=>.agg (cs.map (view H d))
  | .fn f caps=>.fn f (caps.map (view H d))
  | .iref cs o=>.iref cs o
  | v=>leafV v
section
variable (H:Heap) (d:Nat)
@[go_sem] theorem slV_some (k L):slV (some (k,L))=.sl k L:=rfl
@[go_sem] theorem objV_obj (o f cs):objV o f (some (.obj cs))=.iref (cs.map f) o:=rfl
@[go_sem] theorem view_own (b n):view H (d + 1) (.own b n)=slV (rowOf n (H b)):=rfl
@[go_sem] theorem view_ref (b n):view H (d + 1) (.ref b n)=objV n (view H d) (H b):=rfl
@[go_sem] theorem view_agg (cs):view H (d + 1) (.agg cs)=.agg (cs.map (view H d)):=rfl
@[go_sem] theorem view_fn (f cs):view H (d + 1) (.fn f cs)=.fn f (cs.map (view H d)):=rfl
@[go_sem] theorem view_iref (cs o):view H (d + 1) (.iref cs o)=.iref cs o:=rfl
@[go_sem] theorem view_int (k n):view H d (.int k n)=.int k n:=by cases d <;> rfl
@[go_sem] theorem view_bool (b):view H d (.bool b)=.bool b:=by cases d <;> rfl
@[go_sem] theorem view_str (b):view H d (.str b)=.str b:=by cases d <;> rfl
@[go_sem] theorem view_sl (k L):view H d (.sl k L)=.sl k L:=by cases d <;> rfl
@[go_sem] theorem view_nils:view H d .nils=.nils:=by cases d <;> rfl
@[go_sem] theorem view_nilp:view H d .nilp=.nilp:=by cases d <;> rfl
@[go_sem] theorem view_nili:view H d .nili=.nili:=by cases d <;> rfl
@[go_sem] theorem view_u:view H d .u=.u:=by cases d <;> rfl
end
def light:AV->Bool
 | .int _ _ | .bool _ | .str _ | .nils | .nilp | .nili | .sl _ []=>true
 | _=>false
def lightA:AV->Bool
 | .agg cs=>cs.all light
 | v=>light v
def lightR:AV->Bool
 | .tup vs=>vs.all lightA
 | .pnc (.ifc _ v)=>lightA v
 | .frs _ _ L=>L.all fun xs=>xs.all light
 | v=>lightA v
def rowsIn:List AV->List Bid
 | []=>[]
 | .own b _ :: l=>b :: rowsIn l
 | _ :: l=>rowsIn l
def plainA:AV->Bool
 | .int _ _ | .bool _ | .str _ | .nils | .nilp | .nili | .sl _ _ | .own _ _=>true
 | .agg cs=>cs.all fun | .int _ _ | .bool _ | .str _ | .nils | .nilp | .nili | .sl _ _=>true | _=>false
 | .fn _ []=>true
 | _=>false
def frzs (H:Heap):List Bid->List (Bid × Box)
 | []=>[]
 | b :: l=>match H b with
  | some (.row e sz L false)=>(b,.row e sz L true) :: frzs H l
  | _=>frzs H l
def took (b:Bid) (up:List (Bid × Box)):AV->R
 | .frs e sz L=>⟨.own b L.length,[(b,.row e sz L false)],up,[],none⟩
 | .pnc v=>⟨.u,[],up,[],some v⟩
 | v=>⟨v,[],up,[],none⟩
abbrev Spec:=List AV->Option AV
structure HR where
 v:AV
 up:List Box
 nw:List Box
abbrev HSpec:=List AV->List Box->Option HR
inductive Con where
 | p (S:Spec)
 | h (S:HSpec)
 | v (S:HSpec)
abbrev Env:=List (FuncId × Con)
def place (b:Bid):Nat->List Bid->Option Nat
 | _,[]=>none
 | i,c :: l=>if b=c then some i else place b (i + 1) l
@[go_sem] theorem place_nil (b i):place b i []=none:=rfl
@[go_sem] theorem place_cons (b i c l):place b i (c :: l)=if b=c then some i else place b (i + 1) l:=rfl
def owsOf (l:Nat):AV->AV
 | .own b n=>.ows b l n
 | _=>.u
@[go_sem] theorem owsOf_own (l b n):owsOf l (.own b n)=.ows b l n:=rfl
def ptOf (k n:Nat):AV->AV
 | .ref b _=>.pt b k n
 | _=>.u
@[go_sem] theorem ptOf_ref (k n b o):ptOf k n (.ref b o)=.pt b k n:=rfl
@[go_sem] theorem ptOf_u (k n):ptOf k n .u=.u:=rfl
def renV (fo fr:Bid->Nat->AV):Nat->AV->AV
 | 0,v=>leafV v
 | d + 1,v=>match v with
  | .own b n=>fo b n
  | .ows b l n=>owsOf l (fo b n)
  | .ref b o=>fr b o
  | .pt b k n=>ptOf k n (fr b 0)
  | .agg cs=>.agg (cs.map (renV fo fr d))
  | .fn f cs=>.fn f (cs.map (renV fo fr d))
  | .tup cs=>.tup (cs.map (renV fo fr d))
  | .ifc t x=>.ifc t (renV fo fr d x)
  | .iref cs o=>.iref cs o
  | v=>leafV v
section
variable (fo fr:Bid->Nat->AV) (d:Nat)
@[go_sem] theorem renV_own (b n):renV fo fr (d + 1) (.own b n)=fo b n:=rfl
@[go_sem] theorem renV_ows (b l n):renV fo fr (d + 1) (.ows b l n)=owsOf l (fo b n):=rfl
@[go_sem] theorem renV_ref (b n):renV fo fr (d + 1) (.ref b n)=fr b n:=rfl
@[go_sem] theorem renV_pt (b k n):renV fo fr (d + 1) (.pt b k n)=ptOf k n (fr b 0):=rfl
@[go_sem] theorem renV_agg (cs):renV fo fr (d + 1) (.agg cs)=.agg (cs.map (renV fo fr d)):=rfl
@[go_sem] theorem renV_fn (f cs):renV fo fr (d + 1) (.fn f cs)=.fn f (cs.map (renV fo fr d)):=rfl
@[go_sem] theorem renV_tup (cs):renV fo fr (d + 1) (.tup cs)=.tup (cs.map (renV fo fr d)):=rfl
@[go_sem] theorem renV_ifc (t x):renV fo fr (d + 1) (.ifc t x)=.ifc t (renV fo fr d x):=rfl
@[go_sem] theorem renV_iref (cs o):renV fo fr (d + 1) (.iref cs o)=.iref cs o:=rfl
@[go_sem] theorem renV_int (k n):renV fo fr d (.int k n)=.int k n:=by cases d <;> rfl
@[go_sem] theorem renV_bool (b):renV fo fr d (.bool b)=.bool b:=by cases d <;> rfl
@[go_sem] theorem renV_str (b):renV fo fr d (.str b)=.str b:=by cases d <;> rfl
@[go_sem] theorem renV_sl (k L):renV fo fr d (.sl k L)=.sl k L:=by cases d <;> rfl
@[go_sem] theorem renV_nils:renV fo fr d .nils=.nils:=by cases d <;> rfl
@[go_sem] theorem renV_nilp:renV fo fr d .nilp=.nilp:=by cases d <;> rfl
@[go_sem] theorem renV_nili:renV fo fr d .nili=.nili:=by cases d <;> rfl
@[go_sem] theorem renV_u:renV fo fr d .u=.u:=by cases d <;> rfl
end
def renB (f:AV->AV):Box->Box
 | .obj cs=>.obj (cs.map f)
 | x=>x
@[go_sem] theorem renB_obj (f cs):renB f (.obj cs)=.obj (cs.map f):=rfl
@[go_sem] theorem renB_row (f e sz L z):renB f (.row e sz L z)=.row e sz L z:=rfl
@[go_sem] theorem renB_dead (f):renB f .dead=.dead:=rfl
def frzV (n:Nat):Option Box->AV
 | some (.row _ sz L true)=>.sl sz (L.take n)
 | _=>.u
@[go_sem] theorem frzV_row (n e sz L):frzV n (some (.row e sz L true))=.sl sz (L.take n):=rfl
def optOwn (n:Nat) (v:AV):Option Nat->AV
 | some i=>.own (1,i) n
 | none=>v
@[go_sem] theorem optOwn_some (n v i):optOwn n v (some i)=.own (1,i) n:=rfl
@[go_sem] theorem optOwn_none (n v):optOwn n v none=v:=rfl
def optRef (n:Nat):Option Nat->AV
 | some i=>.ref (1,i) n
 | none=>.u
@[go_sem] theorem optRef_some (n i):optRef n (some i)=.ref (1,i) n:=rfl
def told (H:Heap) (bs:List Bid):Nat->AV->AV:=renV (fun b n=>optOwn n (frzV n (H b)) (place b 0 bs)) (fun b o=>optRef o (place b 0 bs))
def hotO:Option Box->Bool
 | some (.obj _)=>true
 | some (.row _ _ _ z)=>!z
 | _=>false
@[go_sem] theorem hotO_obj (cs):hotO (some (.obj cs))=true:=rfl
@[go_sem] theorem hotO_row (e sz L z):hotO (some (.row e sz L z))=!z:=rfl
@[go_sem] theorem hotO_dead:hotO (some .dead)=false:=rfl
def addB (H:Heap) (acc:List Bid) (b:Bid):List Bid:=if (place b 0 acc).isSome then acc else if hotO (H b) then acc++[b] else acc
@[go_sem] theorem addB_at (H acc b):addB H acc b=if (place b 0 acc).isSome then acc else if hotO (H b) then acc++[b] else acc:=rfl
def cellsO:Option Box->List AV
 | some (.obj cs)=>cs
 | _=>[]
@[go_sem] theorem cellsO_obj (cs):cellsO (some (.obj cs))=cs:=rfl
def coll (H:Heap):Nat->List Bid->AV->List Bid
 | 0,acc,_=>acc
 | d + 1,acc,v=>match v with
  | .own b _=>addB H acc b
  | .ows b _ _=>addB H acc b
  | .pt b _ _=>addB H acc b
  | .ref b _=>if (place b 0 acc).isSome then acc else (cellsO (H b)).foldl (coll H d) (addB H acc b)
  | .agg cs=>cs.foldl (coll H d) acc
  | .fn _ cs=>cs.foldl (coll H d) acc
  | .ifc _ x=>coll H d acc x
  | _=>acc
section
variable (H:Heap) (d:Nat) (acc:List Bid)
@[go_sem] theorem coll_own (b n):coll H (d + 1) acc (.own b n)=addB H acc b:=rfl
@[go_sem] theorem coll_ows (b l n):coll H (d + 1) acc (.ows b l n)=addB H acc b:=rfl
@[go_sem] theorem coll_pt (b k n):coll H (d + 1) acc (.pt b k n)=addB H acc b:=rfl
@[go_sem] theorem coll_ref (b n):coll H (d + 1) acc (.ref b n)=if (place b 0 acc).isSome then acc else (cellsO (H b)).foldl (coll H d) (addB H acc b):=rfl
@[go_sem] theorem coll_agg (cs):coll H (d + 1) acc (.agg cs)=cs.foldl (coll H d) acc:=rfl
@[go_sem] theorem coll_fn (f cs):coll H (d + 1) acc (.fn f cs)=cs.foldl (coll H d) acc:=rfl
@[go_sem] theorem coll_ifc (t x):coll H (d + 1) acc (.ifc t x)=coll H d acc x:=rfl
@[go_sem] theorem coll_int (k n):coll H d acc (.int k n)=acc:=by cases d <;> rfl
@[go_sem] theorem coll_bool (b):coll H d acc (.bool b)=acc:=by cases d <;> rfl
@[go_sem] theorem coll_str (b):coll H d acc (.str b)=acc:=by cases d <;> rfl
@[go_sem] theorem coll_sl (k L):coll H d acc (.sl k L)=acc:=by cases d <;> rfl
@[go_sem] theorem coll_iref (k L):coll H d acc (.iref k L)=acc:=by cases d <;> rfl
@[go_sem] theorem coll_nils:coll H d acc .nils=acc:=by cases d <;> rfl
@[go_sem] theorem coll_nilp:coll H d acc .nilp=acc:=by cases d <;> rfl
@[go_sem] theorem coll_nili:coll H d acc .nili=acc:=by cases d <;> rfl
@[go_sem] theorem coll_u:coll H d acc .u=acc:=by cases d <;> rfl
end
def backB (bs:List Bid) (b0 b:Bid):Option Bid:=if b.1=1 then bs[b.2]? else if b.1=2 then some (b0.1,b0.2 + b.2) else none
@[go_sem] theorem backB_one (bs b0 i):backB bs b0 (1,i)=bs[i]?:=rfl
@[go_sem] theorem backB_two (bs b0 i):backB bs b0 (2,i)=some (b0.1,b0.2 + i):=rfl
def ownO (n:Nat):Option Bid->AV
 | some c=>.own c n
 | none=>.u
@[go_sem] theorem ownO_some (n c):ownO n (some c)=.own c n:=rfl
def refO (n:Nat):Option Bid->AV
 | some c=>.ref c n
 | none=>.u
@[go_sem] theorem refO_some (n c):refO n (some c)=.ref c n:=rfl
def back (bs:List Bid) (b0:Bid):Nat->AV->AV:=renV (fun b n=>ownO n (backB bs b0 b)) (fun b n=>refO n (backB bs b0 b))
def labB (b0:Bid):Nat->List Box->List (Bid × Box)
 | _,[]=>[]
 | j,x :: l=>((b0.1,b0.2 + j),x) :: labB b0 (j + 1) l
@[go_sem] theorem labB_nil (b0 j):labB b0 j []=[]:=rfl
@[go_sem] theorem labB_cons (b0 j x l):labB b0 j (x :: l)=((b0.1,b0.2 + j),x) :: labB b0 (j + 1) l:=rfl
def callH (b0:Bid) (bs:List Bid):Option HR->Option R
 | some ⟨.pnc p,up,nw⟩=>some ⟨.u,labB b0 0 (nw.map (renB (back bs b0 5))),bs.zip (up.map (renB (back bs b0 5))),bs,some (back bs b0 5 p)⟩
 | some ⟨v,up,nw⟩=>some ⟨back bs b0 5 v,labB b0 0 (nw.map (renB (back bs b0 5))),bs.zip (up.map (renB (back bs b0 5))),bs,none⟩
 | none=>none
def runH (b0:Bid) (H:Heap) (S:HSpec) (l:List AV) (bs:List Bid):Option R:=callH b0 bs (S (l.map (told H bs 5)) (bs.map fun b=>renB (told H bs 5) ((H b).getD .dead)))
def loadB (i:TI) (b:Bid) (o:Nat):Option Box->Option R
 | some (.obj cs)=>(ld i cs o).map fun v=>⟨v,[],[],[b],none⟩
 | _=>none
def loadE (i:TI) (b:Bid) (o:Nat):Option (List AV)->Option R
 | some cs=>(ld i cs o).map fun v=>⟨v,[],[],[b],none⟩
 | _=>none
def nthRow (j:Nat):Option Box->Option (List AV)
 | some (.row _ _ L _)=>L[j]?
 | _=>none
def vLoad (H:Heap):Option TI->AV->Option R
 | some i,.ref b o=>loadB i b o (H b)
 | some i,.iref cs o=>optV (ld i cs o)
 | some i,.eref b j o=>loadE i b o (nthRow j (H b))
 | _,_=>none
def storeB (b:Bid) (o:Nat) (n:Nat):Option (List AV)->Option Box->Option R
 | some d,some (.obj cs)=>if d.length=n/\o + n<=cs.length then some ⟨.u,[],[(b,.obj (over cs o d))],[b],none⟩ else none
 | _,_=>none
def flatC:AV->Bool
 | .int _ _ | .bool _ | .str _ | .nils | .nilp | .nili | .sl _ _=>true
 | _=>false
def storeR (b:Bid) (j o:Nat) (n:Nat) (d:List AV) (e:TypeId) (sz:Nat) (L:List (List AV)):Option (List AV)->Option R
 | some cs=>if d.length=n/\o + n<=cs.length/\d.all flatC=true then some ⟨.u,[],[(b,.row e sz (L.set j (over cs o d)) false)],[b],none⟩ else none
 | _=>none
def storeE (b:Bid) (j o:Nat) (n:Nat):Option (List AV)->Option Box->Option R
 | some d,some (.row e sz L false)=>storeR b j o n d e sz L L[j]?
 | _,_=>none
def vStore (H:Heap):Option TI->AV->AV->Option R
 | some i,.ref b o,x=>storeB b o i.size (cells x) (H b)
 | some i,.eref b j o,x=>storeE b j o i.size (cells x) (H b)
 | _,_,_=>none
def isRow:Option Box->Bool
 | some (.row _ _ _ _)=>true
 | _=>false
@[go_sem] theorem isRow_row (e sz L z):isRow (some (.row e sz L z))=true:=rfl
def addO (H:Heap) (o:Nat):AV->Option R
 | .ref b p=>val (.ref b (p + o))
 | .iref cs p=>val (.iref cs (p + o))
 | .eref b j p=>if isRow (H b)=true then some ⟨.eref b j (p + o),[],[],[b],none⟩ else none
 | _=>none
def fieldO (H:Heap) (x:AV):Option (Nat × Nat × Bool)->Option R
 | some f=>if f.2.1=0 then none else addO H f.1 x
 | none=>none
def vFieldAddr (H:Heap):Option TI->AV->Nat->Option R
 | some i,x,f=>fieldO H x i.fields[f]?
 | none,_,_=>none
def fieldV (cs:List AV):Option (Nat × Nat × Bool)->Option R
 | some f=>if f.2.2 then (if f.1 + f.2.1<=cs.length then val (.agg ((cs.drop f.1).take f.2.1)) else none) else optV cs[f.1]?
 | none=>none
def vField:Option TI->AV->Nat->Option R
 | some i,.agg cs,f=>fieldV cs i.fields[f]?
 | _,_,_=>none
def vIndex:Option TI->Option TI->AV->AV->Option R
 | some i,some e,.agg cs,.int _ n=>if i.arr=true/\0<=n/\n < i.len/\e.agg=false then optV cs[n.toNat * i.esize]? else none
 | _,_,_,_=>none
def irefO:Option (List AV)->Option R
 | some cs=>val (.iref cs 0)
 | none=>none
def erow (sz:Nat):Option Box->Bool
 | some (.row _ z _ _)=>z == sz
 | _=>false
@[go_sem] theorem erow_row (n e sz L z):erow n (some (.row e sz L z))=(sz == n):=rfl
def vIndexAddr (H:Heap):Option TI->AV->AV->Option R
 | some i,.sl k L,.int _ n=>if k=i.esize/\k ≠ 0/\i.slc=true/\0<=n then irefO L[n.toNat]? else none
 | some i,.own b m,.int _ n=>if i.slc=true/\0<=n/\n < m/\erow i.esize (H b)=true then some ⟨.eref b n.toNat 0,[],[],[b],none⟩ else none
 | some i,.ows b l m,.int _ n=>if i.slc=true/\0<=n/\n < m/\erow i.esize (H b)=true then some ⟨.eref b (l + n.toNat) 0,[],[],[b],none⟩ else none
 | some i,x,.int _ n=>if i.arr=true/\0<=n/\n < i.len then addO H (n.toNat * i.esize) x else none
 | _,_,_=>none
def bnd (d:Option Nat):Option AV->Option Nat
 | some (.int _ n)=>if 0<=n then some n.toNat else none
 | none=>d
 | _=>none
def frzB (b:Bid) (v:AV):Option Box->Option R
 | some (.row e sz M _)=>some ⟨v,[],[(b,.row e sz M true)],[b],none⟩
 | _=>none
def cutS (H:Heap) (x:AV) (k:Nat) (L:List (List AV)) (l h:Nat):Option R:=
 if l<=h/\h<=L.length then match x with
  | .own b _=>if l=0 then some ⟨.own b h,[],[],[b],none⟩ else frzB b (.sl k ((L.take h).drop l)) (H b)
  | .nils=>val .nils
  | .ows _ _ _=>none
  | _=>val (.sl k ((L.take h).drop l))
 else none
def vSlice (H:Heap) (x:AV):Option TI->Option (Nat × List (List AV))->Option Nat->Option Nat->Option R
 | some i,some (k,L),some l,some h=>if i.slc=true/\(k=i.esize\/L=[]) then cutS H x k L l h else none
 | _,_,_,_=>none
def appO (b b':Bid) (n:Nat) (i:TI) (M:List (List AV)):Option Box->Option R
 | some (.row e sz L false)=>if e=i.etype/\sz=i.esize then some ⟨.own b (n + M.length),[(b,.row e sz (L.take n++M) false)],[(b',.dead)],[b'],none⟩ else none
 | _=>none
def vAppend (H:Heap) (b:Bid):AV->Option TI->Option TI->Option (Nat × List (List AV))->Option R
 | s,some i,some ie,some (k,M)=>if i.slc=true/\ie.zero.length=i.esize/\0 < i.esize/\(k=i.esize\/M=[]) then (match s with
  | .nils=>if M.length * i.ebytes<=140737488355328/\M.length<=maxLen then some ⟨.own b M.length,[(b,.row i.etype i.esize M false)],[],[],none⟩ else none
  | .own b' n=>if (n + M.length) * i.ebytes<=140737488355328/\n + M.length<=maxLen then appO b b' n i M (H b') else none
  | _=>none) else none
 | _,_,_,_=>none
def lenO:Option (Nat × List (List AV))->Option R
 | some (_,L)=>val (.int .i64 L.length)
 | none=>none
def lenB (b:Bid):Option (Nat × List (List AV))->Option R
 | some (_,L)=>some ⟨.int .i64 L.length,[],[],[b],none⟩
 | none=>none
def vLen (H:Heap):Option TI->AV->Option R
 | some i,.str s=>if i.agg=false/\i.kinds=some [.str] then val (.int .i64 s.size) else none
 | some i,.ows b l n=>if i.slc=true/\isRow (H b)=true then some ⟨.int .i64 n,[],[],[b],none⟩ else none
 | some i,.own b n=>if i.slc=true then lenB b (rowOf n (H b)) else none
 | some i,v=>if i.slc=true then lenO (content H v) else none
 | none,_=>none
def callR (b:Bid) (H:Heap) (args:List AV):Option AV->Option R
 | some r=>if lightR r=true then some (took b [] r) else if args.all plainA=true then some (took b (frzs H (rowsIn args)) r) else none
 | none=>none
def lightN:Nat->AV->Bool
 | 0,v=>light v
 | d + 1,v=>match v with
  | .own b _=>b.1 == 2
  | .ref b _=>b.1 == 2
  | .pt b _ _=>b.1 == 2
  | .agg cs=>cs.all (lightN d)
  | .fn _ cs=>cs.all (lightN d)
  | .tup cs=>cs.all (lightN d)
  | .ifc _ x=>lightN d x
  | .pnc x=>lightN d x
  | v=>light v
section
variable (d:Nat)
@[go_sem] theorem lightN_own (b n):lightN (d + 1) (.own b n)=(b.1 == 2):=rfl
@[go_sem] theorem lightN_ref (b n):lightN (d + 1) (.ref b n)=(b.1 == 2):=rfl
@[go_sem] theorem lightN_pt (b k n):lightN (d + 1) (.pt b k n)=(b.1 == 2):=rfl
@[go_sem] theorem lightN_agg (cs):lightN (d + 1) (.agg cs)=cs.all (lightN d):=rfl
@[go_sem] theorem lightN_fn (f cs):lightN (d + 1) (.fn f cs)=cs.all (lightN d):=rfl
@[go_sem] theorem lightN_tup (cs):lightN (d + 1) (.tup cs)=cs.all (lightN d):=rfl
@[go_sem] theorem lightN_ifc (t x):lightN (d + 1) (.ifc t x)=lightN d x:=rfl
@[go_sem] theorem lightN_pnc (x):lightN (d + 1) (.pnc x)=lightN d x:=rfl
@[go_sem] theorem lightN_int (k n):lightN d (.int k n)=true:=by cases d <;> rfl
@[go_sem] theorem lightN_bool (n):lightN d (.bool n)=true:=by cases d <;> rfl
@[go_sem] theorem lightN_str (n):lightN d (.str n)=true:=by cases d <;> rfl
@[go_sem] theorem lightN_nils:lightN d .nils=true:=by cases d <;> rfl
@[go_sem] theorem lightN_nilp:lightN d .nilp=true:=by cases d <;> rfl
@[go_sem] theorem lightN_nili:lightN d .nili=true:=by cases d <;> rfl
@[go_sem] theorem lightN_sl (k L):lightN d (.sl k L)=L.isEmpty:=by cases d <;> cases L <;> rfl
end
def lightB:Box->Bool
 | .obj cs=>cs.all (lightN 4)
 | .row _ _ L _=>L.all fun xs=>xs.all light
 | .dead=>true
@[go_sem] theorem lightB_obj (cs):lightB (.obj cs)=cs.all (lightN 4):=rfl
@[go_sem] theorem lightB_row (e sz L z):lightB (.row e sz L z)=L.all fun xs=>xs.all light:=rfl
@[go_sem] theorem lightB_dead:lightB .dead=true:=rfl
def lightH (hr:HR):Bool:=lightN 5 hr.v && hr.nw.all lightB
@[go_sem] theorem lightH_at (v up nw):lightH ⟨v,up,nw⟩=(lightN 5 v && nw.all lightB):=rfl
def withUp (up:List (Bid × Box)):Option R->Option R
 | some r=>some ⟨r.v,r.nw,up,r.fp,r.pan⟩
 | none=>none
@[go_sem] theorem withUp_some (up r):withUp up (some r)=some ⟨r.v,r.nw,up,r.fp,r.pan⟩:=rfl
def callV (b0:Bid) (H:Heap) (args:List AV):Option HR->Option R
 | some hr=>if lightH hr=true then callH b0 [] (some hr) else if args.all plainA=true then withUp (frzs H (rowsIn args)) (callH b0 [] (some hr)) else none
 | none=>none
def callS (b:Bid) (H:Heap):Option Con->List AV->Option R
 | some (.p S),l=>callR b H l (S (l.map (view H 3)))
 | some (.h S),l=>runH b H S l (l.foldl (coll H 6) [])
 | some (.v S),l=>callV b H l (S (l.map (view H 3)) [])
 | none,_=>none
def vCall (b:Bid) (H:Heap) (env:Env):AV->List AV->Option R
 | .fn g caps,l=>callS b H (env.lookup g) (l++caps)
 | _,_=>none
def vPick:AV->AV->AV->Option R
 | .bool t,a,b=>val (bif t then a else b)
 | _,_,_=>none
def vBox (b:Bid):Option (List AV)->Option R
 | some cs=>some ⟨.ref b 0,[(b,.obj cs)],[],[],none⟩
 | none=>none
def vAlloc (b:Bid):Option TI->Option R
 | some i=>if i.zero.isEmpty=true then none else some ⟨.ref b 0,[(b,.obj i.zero)],[],[],none⟩
 | none=>none
def vBuild:Option TI->List (Nat × AV)->Option R
 | some i,l=>if i.zero.isEmpty=true\/i.agg=false then none else optA (if i.arr then arrP i.esize l (some i.zero) else structP i.fields l (some i.zero))
 | none,_=>none
def rowP (b:Bid) (i:TI) (n:Nat) (up:List (Bid × Box)) (fp:List Bid):Option (List AV)->Option R
 | some cs=>if cs.all flatC=true/\cs.length=n * i.esize then some ⟨.own b n,[(b,.row i.etype i.esize (chunk i.esize n cs) false)],up,fp,none⟩ else none
 | none=>none
def vBuildSlice (b:Bid) (n:Nat) (H:Heap):Option TI->Option TI->List (Nat × AV)->Option R
 | some i,some e,l=>if i.slc=true/\e.zero.length=i.esize/\0 < i.esize/\n * i.esize<=16777216/\(l.map (·.2)).all plainA=true then rowP b i n (frzs H (rowsIn (l.map (·.2)))) (rowsIn (l.map (·.2))) (arrP i.esize (l.map fun p=>(p.1,view H 2 p.2)) (some (List.replicate n e.zero).flatten)) else none
 | _,_,_=>none
def vNil:AV->Option R
 | .ref b o=>val (.ref b o)
 | .iref b o=>val (.iref b o)
 | _=>none
def vNot:AV->Option R
 | .bool b=>val (.bool !b)
 | _=>none
def vNeg:AV->Option R
 | .int k n=>val (.int k (k.wrap (0 - n)))
 | _=>none
def convK (n:Int):Option IntKind->Option R
 | some k=>val (.int k (k.wrap n))
 | none=>none
def strL:List (List AV)->Option (List Int)
 | []=>some []
 | [.int .u8 n] :: l=>match strL l with | some ns=>some (n :: ns) | none=>none
 | _=>none
def bytesB (ns:List Int):ByteArray:=ns.foldl (fun r n=>r.push (UInt8.ofNat n.toNat)) ByteArray.empty
def strO:Option (List Int)->Option R
 | some ns=>val (.str (bytesB ns))
 | none=>none
def vStr:Option TI->Option TI->TI->List (List AV)->Option R
 | some s,some e,i,L=>if s.slc=true/\e.kind=some .u8/\i.agg=false/\i.kinds=some [.str] then strO (strL L) else none
 | _,_,_,_=>none
def vConv (s e:Option TI):Option TI->AV->Option R
 | some i,.int _ n=>convK n i.kind
 | some i,.sl k L=>if k=1 then vStr s e i L else none
 | _,_=>none
def vExtract (i:Nat):AV->Option R
 | .tup vs=>optV vs[i]?
 | _=>none
def mx (a b:Int):Int:=if b > a then b else a
def mn (a b:Int):Int:=if b < a then b else a
def vMax:AV->AV->Option R
 | .int k a,.int _ b=>val (.int k (mx a b))
 | _,_=>none
def vMax4:AV->AV->AV->AV->Option R
 | .int k a,.int _ b,.int _ c,.int _ d=>val (.int k (mx (mx (mx a b) c) d))
 | _,_,_,_=>none
def vMin:AV->AV->Option R
 | .int k a,.int _ b=>val (.int k (mn a b))
 | _,_=>none
def vPanic:AV->Option R
 | .ifc t v=>some ⟨.u,[],[],[],some (.ifc t v)⟩
 | _=>none
def vIface (t:TypeId):AV->Option R
 | .u=>none
 | v=>val (.ifc t v)
def nid (d:Option Tmp):Bid:=(0,16 * (d.getD 0))
@[go_sem] theorem nid_some (d):nid (some d)=(0,16 * d):=rfl
def vFunc (caps:List AV):Fn->List Operand->Option R
 | .func f,[]=>val (.fn f caps)
 | _,_=>none
def vUn:UnOp->AV->Option R
 | .not,x=>vNot x
 | .neg,x=>vNeg x
 | _,_=>none
def arrS (cs:List AV) (o:Nat):Option TI->Option R
 | some i=>if i.arr=true/\i.esize=1/\o + i.len<=cs.length/\i.len<=maxLen then val (.sl 1 (((cs.drop o).take i.len).map fun x=>[x])) else none
 | none=>none
def vSliceA (H:Heap) (i:Option TI) (lo hi:Option AV):AV->Option R
 | .iref cs o=>if lo.isNone && hi.isNone then arrS cs o i else none
 | x=>vSlice H x i (content H x) (bnd (some 0) lo) (bnd ((content H x).map (·.2.length)) hi)
def vSliceM (H:Heap) (x:AV) (i:Option TI) (lo hi:Option AV):Option Operand->Option R
 | none=>vSliceA H i lo hi x
 | some _=>none
def vZeros (b:Bid):AV->AV->Option TI->Option TI->Option TI->Option R
 | .nils,.int _ n,some i,some ie,some i'=>if i.slc=true/\ie.zero.length=i.esize/\0 < i.esize/\i'.kind.isSome=true/\0 < n/\n.toNat * i.ebytes<=140737488355328/\n<=4611686018427387904 then some ⟨.own b n.toNat,[(b,.row i.etype i.esize (List.replicate n.toNat ie.zero) false)],[],[],none⟩ else none
 | _,_,_,_,_=>none
def vCap:AV->Option TI->Option R
 | .nils,some i=>if i.slc=true then val (.int .i64 0) else none
 | _,_=>none
def vBuiltin (T:TypeId->Option TI) (dst:Option Tmp) (ρ:Operand->AV) (H:Heap):Builtin->List Operand->List TypeId->Option R
 | .len,[x],[t]=>vLen H (T t) (ρ x)
 | .max,[x,y],_=>vMax (ρ x) (ρ y)
 | .max,[x,y,z,uu],_=>vMax4 (ρ x) (ρ y) (ρ z) (ρ uu)
 | .min,[x,y],_=>vMin (ρ x) (ρ y)
 | .append,[s,x],[t,t']=>if t'=t then vAppend H (nid dst) (ρ s) (T t) ((T t).bind fun i=>T i.etype) (content H (ρ x)) else vZeros (nid dst) (ρ s) (ρ x) (T t) ((T t).bind fun i=>T i.etype) (T t')
 | .cap,[x],[t]=>vCap (ρ x) (T t)
 | _,_,_=>none
def vCallC (T:TypeId->Option TI) (env:Env) (dst:Option Tmp) (ρ:Operand->AV) (H:Heap) (args:List Operand) (ts:List TypeId):Callee->Option R
 | .builtin b=>vBuiltin T dst ρ H b args ts
 | .value f=>vCall (nid dst) H env (ρ f) (args.map ρ)
 | _=>none
def aVal (T:TypeId->Option TI) (env:Env) (dst:Option Tmp) (op:Op) (ρ:Operand->AV) (H:Heap):Option R:=
 match op with
 | .move x=>val (ρ x)
 | .assign x=>val (ρ x)
 | .pick c a b=>vPick (ρ c) (ρ a) (ρ b)
 | .alloc t=>vAlloc (nid dst) (T t)
 | .box _ x=>vBox (nid dst) (cells (ρ x))
 | .build t parts=>vBuild (T t) (parts.toList.map fun p=>(p.1,ρ p.2))
 | .buildSlice t n parts=>vBuildSlice (nid dst) n H (T t) ((T t).bind fun i=>T i.etype) (parts.toList.map fun p=>(p.1,ρ p.2))
 | .load t a=>vLoad H (T t) (ρ a)
 | .store t a x=>vStore H (T t) (ρ a) (ρ x)
 | .nilCheck x=>vNil (ρ x)
 | .binOp op t x y _=>vBin (T t) op (ρ x) (ρ y)
 | .unOp op _ x=>vUn op (ρ x)
 | .convert s d x=>vConv (T s) ((T s).bind fun i=>T i.etype) (T d) (ρ x)
 | .makeInterface t x=>vIface t (ρ x)
 | .panic x=>vPanic (ρ x)
 | .makeFunc fn first caps=>vFunc (caps.toList.map ρ) fn first.toList
 | .slice t x lo hi mx=>vSliceM H (ρ x) (T t) (lo.map ρ) (hi.map ρ) mx
 | .fieldAddr t x f=>vFieldAddr H (T t) (ρ x) f
 | .field t x f=>vField (T t) (ρ x) f
 | .indexAddr t x ix=>vIndexAddr H (T t) (ρ x) (ρ ix)
 | .index t x ix=>vIndex (T t) ((T t).bind fun i=>T i.etype) (ρ x) (ρ ix)
 | .extract x i=>vExtract i (ρ x)
 | .call c=>vCallC T env dst ρ H c.args.toList c.argTypes.toList c.callee
 | _=>none
def eva (t:Nat->AV):Operand->AV
 | .tmp i=>t i
 | .const v=>cAV v
 | .func f=>.fn f []
 | .global _=>.u
@[go_sem] theorem eva_tmp (t i):eva t (.tmp i)=t i:=rfl
@[go_sem] theorem eva_const (t v):eva t (.const v)=cAV v:=rfl
@[go_sem] theorem eva_func (t f):eva t (.func f)=.fn f []:=rfl
def tput (t:Nat->AV):Option Tmp->AV->Nat->AV
 | some d,v=>fput t d v
 | none,_=>t
@[go_sem] theorem tput_some (t d v):tput t (some d) v=fput t d v:=rfl
@[go_sem] theorem tput_none (t v):tput t none v=t:=rfl
structure Out where
 s:St
 ch:List Bid
 fp:List Bid
 pan:Option AV
def finH (d:Option Tmp) (s:St) (r:R):Option Heap->Option Out
 | some H=>some ⟨⟨match r.pan with | none=>tput s.t d r.v | some _=>s.t,hputs H r.up⟩,r.up.map (·.1),r.fp,r.pan⟩
 | none=>none
def fin (d:Option Tmp) (s:St):Option R->Option Out
 | some r=>finH d s r (hnews s.H r.nw)
 | none=>none
def guarded (want:Bool) (d:Option Tmp) (s:St) (go:Option Out):AV->Option Out
 | .bool b=>if b=want then go else some ⟨⟨tput s.t d (.tup []),s.H⟩,[],[],none⟩
 | .tup []=>some ⟨⟨tput s.t d (.tup []),s.H⟩,[],[],none⟩
 | _=>none
def guardV (ops:Array Oper) (j:Nat) (t:Nat->AV):AV:=match (ops[j]?).bind (·.dst) with | some d=>t d | none=>.u
def aStep (T:TypeId->Option TI) (env:Env) (ops:Array Oper) (o:Oper) (s:St):Option Out:=
 match o.guard with
 | none=>fin o.dst s (aVal T env o.dst o.op (eva s.t) s.H)
 | some (j,want)=>guarded want o.dst s (fin o.dst s (aVal T env o.dst o.op (eva s.t) s.H)) (guardV ops j s.t)
abbrev Trace:=List (List Bid × List Bid)
inductive Run where
 | done (s:St) (tr:Trace)
 | pan (s:St) (v:AV)
 | bad
def Run.cons (c f:List Bid):Run->Run
 | .done s tr=>.done s ((c,f) :: tr)
 | r=>r
def aRun (T:TypeId->Option TI) (env:Env) (ops:Array Oper):List Oper->St->Run
 | [],s=>.done s []
 | o :: l,s=>match aStep T env ops o s with
  | some ⟨s',c,f,none⟩=>(aRun T env ops l s').cons c f
  | some ⟨s',_,_,some v⟩=>.pan s' v
  | none=>.bad
inductive X where
 | normal | exit (id:Nat) | ret | pan (v:AV)
def thenX (K:St->Prop) (Q:X->St->Prop):X->St->Prop
 | .normal,s=>K s
 | x,s=>Q x s
def blockX (id:Nat) (Q:X->St->Prop):X->St->Prop
 | .exit i,s=>if i=id then Q .normal s else Q (.exit i) s
 | x,s=>Q x s
def runK (K:St->Trace->Prop) (Q:X->St->Prop):Run->Prop
 | .done s tr=>K s tr
 | .pan s v=>Q (.pan v) s
 | .bad=>False
open Go Go.RowKit
set_option linter.unusedVariables false
def isAggD:TypeDesc->Bool
 | .struct _ | .array _ _=>true
 | _=>false
def aggT (P:Program) (t:TypeId):Bool:=((P.underlying t).map isAggD).getD false
def fieldsD (P:Program):TypeDesc->List (Nat × Nat × Bool)
 | .struct fs=>fs.toList.map fun f=>(f.offset,P.cellsOf f.type,aggT P f.type)
 | _=>[]
def elemD:TypeDesc->Option TypeId
 | .slice e | .array _ e=>some e
 | _=>none
def okD (P:Program):TypeDesc->Bool
 | .struct fs=>fs.toList.all fun f=>(P.info? f.type).isSome && (P.underlying f.type).isSome
 | .slice e | .array _ e=>(P.info? e).isSome && (P.underlying e).isSome
 | _=>true
def tilesK (P:Program) (off total:Nat):List Field->Bool
 | []=>off == total
 | f :: fs=>f.offset == off && f.name != "_" && tilesK P (off + P.cellsOf f.type) total fs
def catK:List (Option (List Kd))->Option (List Kd)
 | []=>some []
 | some l :: r=>match catK r with
  | some m=>some (l++m)
  | none=>none
 | none :: _=>none
def kindsAt (P:Program):Nat->TypeId->Option (List Kd)
 | 0,_=>none
 | d + 1,t=>if (P.info? t).isNone then none else match P.underlying t with
  | some (.int k)=>if P.cellsOf t=1 then some [.int k] else none
  | some .bool=>if P.cellsOf t=1 then some [.bool] else none
  | some .string=>if P.cellsOf t=1 then some [.str] else none
  | some (.array n e)=>if P.cellsOf t=n * P.cellsOf e/\n ≠ 0 then catK (List.replicate n (kindsAt P d e)) else none
  | some (.struct fs)=>if !P.stoodInHeld t && tilesK P 0 (P.cellsOf t) fs.toList then catK (fs.toList.map fun f=>kindsAt P d f.type) else none
  | _=>none
def TI.of (P:Program) (t:TypeId):Option TI:=
 match P.info? t,P.underlying t with
 | some i,some d=>if okD P d then some {
   size:=i.size
   agg:=isAggD d
   zero:=match i.zero with | some z=>if z.cells.all (·.oneCell') then z.cells.toList.map cAV else [] | none=>[]
   fields:=fieldsD P d
   len:=match d with | .array n _=>n | _=>0
   esize:=match elemD d with | some e=>P.cellsOf e | none=>0
   etype:=(elemD d).getD 0
   ebytes:=match elemD d with | some e=>((P.info? e).map (·.bytes)).getD 0 | none=>0
   kind:=match d with | .int k=>some k | _=>none
   arr:=match d with | .array _ _=>true | _=>false
   slc:=match d with | .slice _=>true | _=>false
   ptr:=match d with | .pointer _=>true | _=>false
   kinds:=if P.eqGuardType P.depth t then none else kindsAt P 6 t } else none
 | _,_=>none
def CellAt (w:World) (M:Nat->Prop) (a:Option Addr) (j:Nat) (x:Value):Prop:=
 ∃ g off,a=some ⟨g,off,none⟩/\¬ M g/\w.cell? ⟨g,off + j,none⟩=some x/\x.oneCell'=true
abbrev Lay:=Bid->Option (Nat × Nat)
def sliceV (p:Option (Nat × Nat)) (n:Nat):Value:=match p with
 | some (g,c)=>.slice (some ⟨g,0,none⟩) n c
 | none=>.slice none 0 0
inductive Rep (w:World) (M:Nat->Prop) (μ:Lay):Heap->AV->Value->Prop
 | u (H v):Rep w M μ H .u v
 | int (H k n):Rep w M μ H (.int k n) (.int k n)
 | bool (H b):Rep w M μ H (.bool b) (.bool b)
 | str (H b):Rep w M μ H (.str b) (.string b)
 | agg (H cs) (vs:Array Value) (f:Nat->Value) (hs:vs.size=cs.length) (hv:∀ i,i < cs.length->vs[i]?=some (f i)/\(f i).oneCell'=true)
   (hr:∀ i c,cs[i]?=some c->Rep w M μ H c (f i)):Rep w M μ H (.agg cs) (.agg vs)
 | nils (H):Rep w M μ H .nils (.slice none 0 0)
 | sl (H k L a c) (f:Nat->Nat->Value) (hc:L.length<=c) (hm:c<=maxLen) (hk:∀ x ∈ L,x.length=k)
   (hv:∀ i j,i < L.length->j < k->CellAt w M a (i * k + j) (f i j))
   (hr:∀ i j cs x,L[i]?=some cs->cs[j]?=some x->Rep w M μ noH x (f i j)):Rep w M μ H (.sl k L) (.slice a L.length c)
 | own (H b n e sz L z) (hH:H b=some (.row e sz L z)) (hn:n<=L.length):Rep w M μ H (.own b n) (sliceV (μ b) n)
 | ownd (H b n v) (hH:H b=some .dead) (h1:v.oneCell'=true):Rep w M μ H (.own b n) v
 | ows (H b l n e sz L z ad cp) (hH:H b=some (.row e sz L z)) (hn:l + n<=L.length) (hc:n<=cp/\cp<=maxLen) (hv:0 < n->∃ g c,μ b=some (g,c)/\ad=some ⟨g,l * sz,none⟩):Rep w M μ H (.ows b l n) (.slice ad n cp)
 | owsd (H b l n v) (hH:H b=some .dead) (h1:v.oneCell'=true):Rep w M μ H (.ows b l n) v
 | mpv (H es clock g) (hM:¬ M g) (hg:w.heap[g]?=some (.map es clock)):Rep w M μ H (.mpv g es clock) (.map (some g))
 | ref (H b o cs g c) (hH:H b=some (.obj cs)) (hμ:μ b=some (g,c)):Rep w M μ H (.ref b o) (.pointer (some ⟨g,o,none⟩))
 | pt (H b k n cs g c off m) (hH:H b=some (.obj cs)) (hμ:μ b=some (g,c)) (hn:off + n * k<=c) (hm:n<=m/\m<=maxLen):Rep w M μ H (.pt b k n) (.slice (some ⟨g,off,none⟩) n m)
 | eref (H b i o e sz L z g c) (hH:H b=some (.row e sz L z)) (hμ:μ b=some (g,c)) (hi:i < L.length):Rep w M μ H (.eref b i o) (.pointer (some ⟨g,i * sz + o,none⟩))
 | erefd (H b i o v) (hH:H b=some .dead) (h1:v.oneCell'=true):Rep w M μ H (.eref b i o) v
 | iref (H cs o g off) (f:Nat->Value) (hv:∀ j,j < cs.length->CellAt w M (some ⟨g,off,none⟩) j (f j))
   (hr:∀ j x,cs[j]?=some x->Rep w M μ noH x (f j)):Rep w M μ H (.iref cs o) (.pointer (some ⟨g,off + o,none⟩))
 | nilp (H):Rep w M μ H .nilp (.pointer none)
 | fn (H f caps) (vs:Array Value) (g:Nat->Value) (hs:vs.size=caps.length) (hv:∀ i,i < caps.length->vs[i]?=some (g i))
   (hr:∀ i c,caps[i]?=some c->Rep w M μ H c (g i)):Rep w M μ H (.fn f caps) (.func (.func f) #[] vs)
 | tup (H xs) (vs:Array Value) (g:Nat->Value) (hs:vs.size=xs.length) (hv:∀ i,i < xs.length->vs[i]?=some (g i))
   (hr:∀ i c,xs[i]?=some c->Rep w M μ H c (g i)):Rep w M μ H (.tup xs) (.tuple vs)
 | ifc (H t v x) (hr:Rep w M μ H v x):Rep w M μ H (.ifc t v) (.iface t x)
 | nili (H):Rep w M μ H .nili .nilIface
 | yl (H l):Rep w M μ H (.yl l) (.func (.yield l) #[] #[])
 | ub (H b):Rep w M μ H .ub (.bool b)
def HLe (H H':Heap):Prop:=∀ b,match H b with
 | none=>True
 | some (.obj _)=>∃ cs,H' b=some (.obj cs)
 | some (.row e sz L _)=>(∃ L' z,H' b=some (.row e sz L' z)/\L'.length=L.length)\/H' b=some .dead
 | some .dead=>H' b=some .dead
theorem HLe.refl (H:Heap):HLe H H:=by
 intro b
 cases h:H b with
 | none=>trivial
 | some x=>cases x <;> simp_all
theorem HLe.noH (H:Heap):HLe noH H:=fun b=>trivial
theorem CellAt.mono {w w':World} {M M':Nat->Prop} {a:Option Addr} {j:Nat} {x:Value} (h:CellAt w M a j x)
  (hm:∀ g,g < w.heap.size->¬ M g->¬ M' g/\w'.heap[g]?=w.heap[g]?):CellAt w' M' a j x:=by
 obtain ⟨g,off,h1,h2,h3,h4⟩:=h
 have hg:=World.block_lt_of_cell? w _ h3
 obtain ⟨q1,q2⟩:=hm g hg h2
 exact ⟨g,off,h1,q1,by rw [World.cell?_of_block (w:=w) q2]; exact h3,h4⟩
theorem Rep.mono {w w':World} {M M':Nat->Prop} {μ μ':Lay} {H:Heap} {v:AV} {x:Value} (h:Rep w M μ H v x)
  (hm:∀ g,g < w.heap.size->¬ M g->¬ M' g/\w'.heap[g]?=w.heap[g]?) :
  ∀ {H':Heap},HLe H H'->(∀ b,H b ≠ none->μ' b=μ b)->Rep w' M' μ' H' v x:=by
 induction h with
 | u H v=>intro H' _ _; exact .u _ _
 | int H k n=>intro H' _ _; exact .int _ _ _
 | bool H b=>intro H' _ _; exact .bool _ _
 | str H b=>intro H' _ _; exact .str _ _
 | agg H cs vs f hs hv hr ih=>intro H' h1 h2; exact .agg _ _ _ f hs hv fun i c hc=>ih i c hc h1 h2
 | nils H=>intro H' _ _; exact .nils _
 | sl H k L a c f hc hmx hk hv hr ih=>intro H' h1 h2; exact .sl _ _ _ _ _ f hc hmx hk (fun i j hi hj=>(hv i j hi hj).mono hm) fun i j cs x hi hj=>ih i j cs x hi hj (HLe.refl _) (fun b hb=>absurd rfl hb)
 | own H b n e sz L z hH hn=>
  intro H' h1 h2
  have hb:=h1 b
  rw [hH] at hb
  rw [<-h2 b (by rw [hH]; simp)]
  rcases hb with ⟨L',z',hb,hl⟩ | hb
  · exact .own _ _ _ _ _ _ _ hb (by omega)
  · exact .ownd _ _ _ _ hb (by cases hq:μ' b <;> rfl)
 | ownd H b n v hH h1'=>intro H' h1 h2; have hb:=h1 b; rw [hH] at hb; exact .ownd _ _ _ _ hb h1'
 | ows H b l n e sz L z ad cp hH hn hc hv=>
  intro H' h1 h2
  have hb:=h1 b
  rw [hH] at hb
  rcases hb with ⟨L',z',hb,hl⟩ | hb
  · exact .ows _ _ _ _ _ _ _ _ _ _ hb (by omega) hc fun h0=>by rw [h2 b (by rw [hH]; simp)]; exact hv h0
  · exact .owsd _ _ _ _ _ hb rfl
 | owsd H b l n v hH h1'=>intro H' h1 h2; have hb:=h1 b; rw [hH] at hb; exact .owsd _ _ _ _ _ hb h1'
 | mpv H es clock g hM hg=>
  intro H' h1 h2
  obtain ⟨q1,q2⟩:=hm g (Array.getElem?_eq_some_iff.1 hg).1 hM
  exact .mpv _ _ _ _ q1 (q2.trans hg)
 | ref H b o cs g c hH hμ=>
  intro H' h1 h2
  have hb:=h1 b
  rw [hH] at hb
  obtain ⟨cs',hb⟩:=hb
  exact .ref _ _ _ _ _ c hb (by rw [h2 b (by rw [hH]; simp)]; exact hμ)
 | pt H b k n cs g c off m hH hμ hn hm'=>
  intro H' h1 h2
  have hb:=h1 b
  rw [hH] at hb
  obtain ⟨cs',hb⟩:=hb
  exact .pt _ _ _ _ _ _ c _ _ hb (by rw [h2 b (by rw [hH]; simp)]; exact hμ) hn hm'
 | eref H b i o e sz L z g c hH hμ hi=>
  intro H' h1 h2
  have hb:=h1 b
  rw [hH] at hb
  rcases hb with ⟨L',z',hb,hl⟩ | hb
  · exact .eref _ _ _ _ _ _ _ _ _ c hb (by rw [h2 b (by rw [hH]; simp)]; exact hμ) (by omega)
  · exact .erefd _ _ _ _ _ hb rfl
 | erefd H b i o v hH h1'=>intro H' h1 h2; have hb:=h1 b; rw [hH] at hb; exact .erefd _ _ _ _ _ hb h1'
 | iref H cs o g off f hv hr ih=>intro H' h1 h2; exact .iref _ _ _ _ _ f (fun j hj=>(hv j hj).mono hm) fun j x hj=>ih j x hj (HLe.refl _) (fun b hb=>absurd rfl hb)
 | nilp H=>intro H' _ _; exact .nilp _
 | fn H f caps vs g hs hv hr ih=>intro H' h1 h2; exact .fn _ _ _ _ g hs hv fun i c hc=>ih i c hc h1 h2
 | tup H xs vs g hs hv hr ih=>intro H' h1 h2; exact .tup _ _ _ g hs hv fun i c hc=>ih i c hc h1 h2
 | ifc H t v x hr ih=>intro H' h1 h2; exact .ifc _ _ _ _ (ih h1 h2)
 | nili H=>intro H' _ _; exact .nili _
 | yl H l=>intro H' _ _; exact .yl _ _
 | ub H b=>intro H' _ _; exact .ub _ _
theorem Rep.ofNo {w:World} {M:Nat->Prop} {μ μ':Lay} {H:Heap} {v:AV} {x:Value} (h:Rep w M μ noH v x):Rep w M μ' H v x:=
 h.mono (fun g _ hg=>⟨hg,rfl⟩) (HLe.noH H) (fun b hb=>absurd rfl hb)
theorem Rep.cAV {w:World} {M:Nat->Prop} {μ:Lay} {H:Heap} (x:Value):Rep w M μ H (cAV x) x:=by
 unfold AE.cAV
 split <;> first | exact .int _ _ _ | exact .bool _ _ | exact .str _ _ | exact .nils _ | exact .nilp _ | exact .nili _ | exact .u _ _
def BoxC (w:World) (M:Nat->Prop) (μ:Lay) (H:Heap) (cur:Array Value) (e:TypeId) (c:Nat):Box->Prop
 | .obj cs=>(c<=cur.size/\cs.length<=cur.size)/\∀ (i:Nat) (x:AV),cs[i]?=some x->∃ v:Value,cur[i]?=some v/\v.oneCell'=true/\Rep w M μ H x v
 | .row e' sz L _=>e'=e/\0 < sz/\(∀ x ∈ L,x.length=sz)/\cur.size=c * sz/\L.length<=c/\c<=maxLen /\
   ∀ (i j:Nat) (xs:List AV) (x:AV),L[i]?=some xs->xs[j]?=some x->∃ v:Value,cur[i * sz + j]?=some v/\v.oneCell'=true/\Rep w M μ noH x v
 | .dead=>False
def BoxAt (w:World) (M:Nat->Prop) (μ:Lay) (H:Heap) (b:Bid) (x:Box):Prop:=
 x=.dead\/(∃ (g c:Nat) (cur:Array Value) (e:TypeId),μ b=some (g,c)/\w.heap[g]?=some (.cells cur e (0,0))/\BoxC w M μ H cur e c x) \/
 (μ b=none/\∃ e sz z,x=.row e sz [] z/\0 < sz)
def Box.hot:Box->Bool
 | .obj _=>true
 | .row _ _ _ z=>!z
 | .dead=>false
def Box.live:Box->Bool
 | .dead=>false
 | _=>true
def forb (Mx:Nat->Prop) (μ:Lay) (H:Heap) (g:Nat):Prop:=Mx g\/∃ b x c,H b=some x/\x.hot=true/\μ b=some (g,c)
structure Ctx where
 P:Program
 w0:World
 Mx:Nat->Prop
 n:Nat
 pin:Nat->Option (Nat × Nat)
 df:List Deferred
 lp:Bool
def Ctx.io (Γ:Ctx) (g:Nat):Prop:=∃ i c,Γ.pin i=some (g,c)
def nofz (w:World) (k:Nat):Prop:=∀ (cur:Array Value) (e:TypeId) (z:Nat × Nat),w.heap[k]?=some (.cells cur e z)->z=(0,0)
def NF (w w':World):Prop:=∀ k,(k < w.heap.size->nofz w k)->nofz w' k
theorem NF.refl (w:World):NF w w:=fun k h=>by
 by_cases hk:k < w.heap.size
 · exact h hk
 ·
  intro cur e z hz
  rw [Array.getElem?_eq_none (by omega)] at hz
  cases hz
theorem NF.trans {a b c:World} (h:NF a b) (k:NF b c):NF a c:=fun i hi=>k i fun _=>h i hi
theorem NF.heap {w w':World} (h:w'.heap=w.heap):NF w w':=fun k hk=>by
 have:=NF.refl w k hk
 unfold nofz at this ⊢
 rw [h]
 exact this
theorem NF.push {w w':World} {o:Obj} (h:w'.heap=w.heap.push o) (ho:∀ cur e z,o=.cells cur e z->z=(0,0)):NF w w':=fun k hk cur e z hz=>by
 rw [h,Array.getElem?_push] at hz
 split at hz
 · cases hz; exact ho _ _ _ rfl
 · exact NF.refl w k hk cur e z hz
theorem NF.alloc (w:World) (cur:Array Value) (e:TypeId):NF w (w.alloc (.cells cur e)):=.push (o:=.cells cur e) rfl fun _ _ _ h=>by cases h; rfl
theorem NF.set {w w':World} {g:Nat} {cur:Array Value} {e:TypeId} (hg:w'.heap[g]?=some (.cells cur e (0,0))) (ho:∀ k,k ≠ g->w'.heap[k]?=w.heap[k]?):NF w w':=fun k hk cur' e' z hz=>by
 by_cases h:k=g
 · subst h; rw [hg] at hz; cases hz; rfl
 · rw [ho k h] at hz; exact NF.refl w k hk _ _ _ hz
structure BelowX (B:Nat) (io:Nat->Prop) (w w':World):Prop where
 os:w'.os=w.os
 tape:w'.tape=w.tape
 output:w'.output=w.output
 size:w.heap.size<=w'.heap.size
 block:∀ k,k < B->¬ io k->w'.heap[k]?=w.heap[k]?
 nf:NF w w'
theorem BelowX.refl (B:Nat) (io:Nat->Prop) (w:World):BelowX B io w w:=⟨rfl,rfl,rfl,Nat.le_refl _,fun _ _ _=>rfl,.refl w⟩
theorem BelowX.trans {B:Nat} {io:Nat->Prop} {a b c:World} (h:BelowX B io a b) (k:BelowX B io b c):BelowX B io a c:=
 ⟨k.os.trans h.os,k.tape.trans h.tape,k.output.trans h.output,Nat.le_trans h.size k.size,fun i hi hn=>(k.block i hi hn).trans (h.block i hi hn),h.nf.trans k.nf⟩
theorem BelowX.mono {B B':Nat} {io:Nat->Prop} {w w':World} (h:BelowX B io w w') (hB:B'<=B):BelowX B' io w w':=⟨h.os,h.tape,h.output,h.size,fun k hk hn=>h.block k (Nat.lt_of_lt_of_le hk hB) hn,h.nf⟩
theorem BelowX.of {B:Nat} {io:Nat->Prop} {w w':World} (h:Below B w w') (hn:NF w w'):BelowX B io w w':=⟨h.os,h.tape,h.output,h.size,fun k hk _=>h.block k hk,hn⟩
theorem BelowX.below {B:Nat} {io:Nat->Prop} {w w':World} (h:BelowX B io w w') (hn:∀ k,¬ io k):Below B w w':=⟨h.os,h.tape,h.output,h.size,fun k hk=>h.block k hk (hn k)⟩
def noCells:Obj->Bool
 | .cells _ _ _=>false
 | .map _ _=>false
 | _=>true
def Marks (Γ:Ctx) (ds:List Deferred) (w:World):Prop:=∃ ms:List Nat,ds=ms.map (fun D=>(⟨.collected D,#[]⟩:Deferred))++Γ.df/\ms.Nodup/\∀ D ∈ ms,Γ.w0.heap.size<=D/\w.heap[D]?=some (.deferred (some []))/\Γ.lp=true
theorem Marks.nil (Γ:Ctx) (w:World):Marks Γ Γ.df w:=⟨[],rfl,List.nodup_nil,by simp⟩
theorem Marks.mono {Γ:Ctx} {ds:List Deferred} {w w':World} (h:Marks Γ ds w) (hm:∀ D:Nat,Γ.w0.heap.size<=D->w.heap[D]?=some (.deferred (some []))->w'.heap[D]?=w.heap[D]?):Marks Γ ds w':=by
 obtain ⟨ms,h1,h2,h3⟩:=h
 exact ⟨ms,h1,h2,fun D hD=>⟨(h3 D hD).1,(hm D (h3 D hD).1 (h3 D hD).2.1).trans (h3 D hD).2.1,(h3 D hD).2.2⟩⟩
theorem Marks.none {Γ:Ctx} {ds:List Deferred} {w:World} (h:Marks Γ ds w) (hm:Γ.lp=false):ds=Γ.df:=by
 obtain ⟨ms,h1,_,h3⟩:=h
 cases ms with
 | nil=>exact h1
 | cons D ms=>have:=(h3 D (by simp)).2.2; rw [hm] at this; cases this
structure Rel (Γ:Ctx) (s:St) (μ:Lay) (a:Act) (w:World):Prop where
 hd:Marks Γ a.defers w
 hn:a.tmps.size=Γ.n
 hx:∀ g,Γ.Mx g->g < Γ.w0.heap.size/\¬ Γ.io g
 ht:∀ i,Rep w (forb Γ.Mx μ s.H) μ s.H (s.t i) (a.tmps.getD i undef)
 hb:∀ b x,s.H b=some x->BoxAt w (forb Γ.Mx μ s.H) μ s.H b x
 hi:∀ b b' x x' g c c',s.H b=some x->s.H b'=some x'->x.hot=true->x'.live=true->μ b=some (g,c)->μ b'=some (g,c')->b=b'
 hf:∀ b x g c,s.H b=some x->μ b=some (g,c)->x.live=true->Γ.w0.heap.size<=g\/Γ.io g
 hw:BelowX Γ.w0.heap.size Γ.io Γ.w0 w
 hp:∀ i x,s.H (1,i)=some x->x.live=true->μ (1,i)=Γ.pin i
theorem eva_rep {Γ:Ctx} {s:St} {μ:Lay} {a:Act} {w:World} (h:Rel Γ s μ a w) (x:Operand):Rep w (forb Γ.Mx μ s.H) μ s.H (eva s.t x) (a.eval x):=by
 cases x with
 | tmp i=>exact h.ht i
 | const v=>exact Rep.cAV v
 | global g=>exact .u _ _
 | func f=>exact .fn _ _ _ _ (fun _=>default) rfl (fun i hi=>absurd hi (by simp)) (fun i c hc=>by simp at hc)
theorem getD_put (a:Act) (d:Option Tmp) (v:Value) (i:Nat) (hd:∀ t,d=some t->t < a.tmps.size) :
  (a.put d v).tmps.getD i undef=if d=some i then v else a.tmps.getD i undef:=by
 cases d with
 | none=>simp [Act.put]
 | some t=>
  have:=hd t rfl
  simp only [Act.put,Array.getD_eq_getD_getElem?,Array.getElem?_setIfInBounds,Option.some.injEq]
  by_cases e:t=i
  · subst e; simp [this]
  · simp [e]
theorem tput_at (t:Nat->AV) (d:Option Tmp) (v:AV) (i:Nat):tput t d v i=if d=some i then v else t i:=by
 cases d with
 | none=>simp [tput]
 | some k=>simp only [tput,fput,Option.some.injEq]; by_cases e:i=k <;> simp [e,eq_comm]
theorem Rel.put {Γ:Ctx} {s:St} {μ:Lay} {a:Act} {w:World} (h:Rel Γ s μ a w) {d:Option Tmp} (hd:∀ t,d=some t->t < Γ.n) {v:AV} {x:Value}
  (hv:Rep w (forb Γ.Mx μ s.H) μ s.H v x):Rel Γ ⟨tput s.t d v,s.H⟩ μ (a.put d x) w:=by
 refine ⟨?_,?_,h.hx,fun i=>?_,h.hb,h.hi,h.hf,h.hw,h.hp⟩
 · cases d <;> exact h.hd
 · cases d <;> simp [Act.put,h.hn]
 ·
  show Rep w (forb Γ.Mx μ s.H) μ s.H (tput s.t d v i) _
  rw [getD_put a d x i (by rw [h.hn]; exact hd),tput_at]
  by_cases e:d=some i
  · rw [if_pos e,if_pos e]; exact hv
  · rw [if_neg e,if_neg e]; exact h.ht i
theorem BoxC.mono {w w':World} {M M':Nat->Prop} {μ μ':Lay} {H H':Heap} {cur:Array Value} {e:TypeId} {c:Nat} {x:Box} (h:BoxC w M μ H cur e c x)
  (hm:∀ g,g < w.heap.size->¬ M g->¬ M' g/\w'.heap[g]?=w.heap[g]?) (h1:HLe H H') (h2:∀ b,H b ≠ none->μ' b=μ b):BoxC w' M' μ' H' cur e c x:=by
 cases x with
 | obj cs=>
  refine ⟨h.1,fun i x hx=>?_⟩
  obtain ⟨v,q1,q2,q3⟩:=h.2 i x hx
  exact ⟨v,q1,q2,q3.mono hm h1 h2⟩
 | row e' sz L z=>
  obtain ⟨q1,q2,q3,q4,q5,q6,q7⟩:=h
  refine ⟨q1,q2,q3,q4,q5,q6,fun i j xs x hi hj=>?_⟩
  obtain ⟨v,r1,r2,r3⟩:=q7 i j xs x hi hj
  exact ⟨v,r1,r2,r3.mono hm (HLe.refl _) (fun b hb=>absurd rfl hb)⟩
 | dead=>exact h
theorem BoxAt.mono {w w':World} {M M':Nat->Prop} {μ μ':Lay} {H H':Heap} {b:Bid} {x:Box} (h:BoxAt w M μ H b x) (hx:H b=some x)
  (hm:∀ g,g < w.heap.size->¬ M g->¬ M' g/\w'.heap[g]?=w.heap[g]?) (h1:HLe H H') (h2:∀ b,H b ≠ none->μ' b=μ b)
  (hs:∀ g c,x.live=true->μ b=some (g,c)->w'.heap[g]?=w.heap[g]?):BoxAt w' M' μ' H' b x:=by
 have hμ:=h2 b (by rw [hx]; simp)
 rcases h with rfl | ⟨g,c,cur,e,q1,q2,q3⟩ | ⟨q1,q2⟩
 · exact .inl rfl
 ·
  refine .inr (.inl ⟨g,c,cur,e,by rw [hμ]; exact q1,?_,q3.mono hm h1 h2⟩)
  rw [hs g c (by cases x <;> first | rfl | exact q3.elim) q1]
  exact q2
 · exact .inr (.inr ⟨by rw [hμ]; exact q1,q2⟩)
theorem Rel.mark_free {Γ:Ctx} {s:St} {μ:Lay} {a:Act} {w:World} (h:Rel Γ s μ a w) {D:Nat} {o:Obj} (h1:Γ.w0.heap.size<=D) (h2:w.heap[D]?=some o) (ho:noCells o=true:=by rfl):¬ forb Γ.Mx μ s.H D:=by
 rintro (hx | ⟨b,x,c,q1,q2,q3⟩)
 ·
  have:=(h.hx D hx).1
  omega
 ·
  rcases h.hb b x q1 with rfl | ⟨g,c',cur,e,r1,r2,_⟩ | ⟨r1,_⟩
  · cases q2
  ·
   rw [q3] at r1
   cases r1
   rw [h2] at r2
   cases r2
   cases ho
  · rw [q3] at r1; cases r1
theorem Rel.next {Γ:Ctx} {s:St} {μ:Lay} {a:Act} {w:World} (h:Rel Γ s μ a w) {H':Heap} {μ':Lay} {w':World} (hle:HLe s.H H') (hμ:∀ b,s.H b ≠ none->μ' b=μ b)
  (hbel:BelowX Γ.w0.heap.size Γ.io w w') (hm:∀ g,g < w.heap.size->¬ forb Γ.Mx μ s.H g->¬ forb Γ.Mx μ' H' g/\w'.heap[g]?=w.heap[g]?)
  (hb:∀ b x,H' b=some x->BoxAt w' (forb Γ.Mx μ' H') μ' H' b x)
  (hi:∀ b b' x x' g c c',H' b=some x->H' b'=some x'->x.hot=true->x'.live=true->μ' b=some (g,c)->μ' b'=some (g,c')->b=b')
  (hf:∀ b x g c,H' b=some x->μ' b=some (g,c)->x.live=true->Γ.w0.heap.size<=g\/Γ.io g)
  (hp:∀ i x,H' (1,i)=some x->x.live=true->μ' (1,i)=Γ.pin i):Rel Γ ⟨s.t,H'⟩ μ' a w':=
 ⟨h.hd.mono fun D h1 h2=>(hm D (Array.getElem?_eq_some_iff.1 h2).1 (h.mark_free h1 h2)).2,h.hn,h.hx,fun i=>(h.ht i).mono hm hle hμ,hb,hi,hf,h.hw.trans hbel,hp⟩
theorem hot_live {x:Box} (h:x.hot=true):x.live=true:=by cases x <;> simp_all [Box.hot,Box.live]
theorem Rel.lt {Γ:Ctx} {s:St} {μ:Lay} {a:Act} {w:World} (h:Rel Γ s μ a w) {b:Bid} {x:Box} {g c:Nat} (hx:s.H b=some x) (hl:x.live=true) (hg:μ b=some (g,c)):g < w.heap.size:=by
 rcases h.hb b x hx with rfl | ⟨g',c',cur,e,q1,q2,_⟩ | ⟨q1,_⟩
 · simp [Box.live] at hl
 ·
  rw [hg] at q1
  obtain ⟨rfl,rfl⟩:g=g'/\c=c':=by simpa using q1
  exact (Array.getElem?_eq_some_iff.1 q2).1
 · rw [hg] at q1; cases q1
def lput (μ:Lay) (b:Bid) (p:Option (Nat × Nat)):Lay:=fun i=>if i=b then p else μ i
theorem lput_ne {μ:Lay} {b:Bid} {p} {H:Heap} (hb:H b=none):∀ i,H i ≠ none->lput μ b p i=μ i:=by
 intro i hi
 unfold lput
 rw [if_neg]
 rintro rfl
 exact hi hb
theorem HLe.hput {H:Heap} {b:Bid} {x:Box} (hb:H b=none):HLe H (hput H b x):=by
 intro i
 have hr:=HLe.refl H i
 by_cases e:i=b
 · subst e; rw [hb]; trivial
 ·
  have:AE.hput H b x i=H i:=by simp [AE.hput,e]
  rw [this]; exact hr
theorem Rel.newbox {Γ:Ctx} {s:St} {μ:Lay} {a:Act} {w:World} (h:Rel Γ s μ a w) {b:Bid} (hn:s.H b=none) (h0:b.1=0) {w':World} (hbel:Below w.heap.size w w') (hnf:NF w w') {x:Box} {g c:Nat} {cur:Array Value} {e:TypeId}
  (hg:w.heap.size<=g) (hc:w'.heap[g]?=some (.cells cur e (0,0))) (hx:∀ M μ' H',(∀ k,k < w'.heap.size->k ≠ g->¬ forb Γ.Mx μ s.H k->¬ M k)->HLe s.H H'->(∀ b,s.H b ≠ none->μ' b=μ b)->BoxC w' M μ' H' cur e c x) :
  Rel Γ ⟨s.t,hput s.H b x⟩ (lput μ b (some (g,c))) a w':=by
 have hsz:Γ.w0.heap.size<=w.heap.size:=h.hw.size
 have hne:=lput_ne (μ:=μ) (p:=some (g,c)) hn
 have hforb:∀ k,forb Γ.Mx (lput μ b (some (g,c))) (hput s.H b x) k->forb Γ.Mx μ s.H k\/k=g:=by
  rintro k (hk | ⟨b',x',c',q1,q2,q3⟩)
  · exact .inl (.inl hk)
  ·
   by_cases e:b'=b
   · subst e; simp only [lput,if_true,Option.some.injEq,Prod.mk.injEq] at q3; exact .inr q3.1.symm
   ·
    simp only [hput,e,if_false] at q1
    simp only [lput,e,if_false] at q3
    exact .inl (.inr ⟨b',x',c',q1,q2,q3⟩)
 have hm:∀ k,k < w.heap.size->¬ forb Γ.Mx μ s.H k->¬ forb Γ.Mx (lput μ b (some (g,c))) (hput s.H b x) k/\w'.heap[k]?=w.heap[k]?:=fun k hk hfk=>
  ⟨fun hh=>by rcases hforb k hh with h' | h'; exact hfk h'; omega,hbel.block k hk⟩
 refine h.next (HLe.hput hn) hne (.of (hbel.mono hsz) hnf) hm ?_ ?_ ?_ ?_
 ·
  intro b' x' hb'
  by_cases e':b'=b
  ·
   subst e'
   simp only [hput,if_true,Option.some.injEq] at hb'
   subst hb'
   refine .inr (.inl ⟨g,c,cur,e,by simp [lput],hc,hx _ _ _ ?_ (HLe.hput hn) hne⟩)
   intro k _ hkg hfk hh
   rcases hforb k hh with h' | h'
   · exact hfk h'
   · exact hkg h'
  ·
   simp only [hput,e',if_false] at hb'
   exact (h.hb b' x' hb').mono hb' hm (HLe.hput hn) hne fun g' c' hl hg'=>hbel.block g' (h.lt hb' hl hg')
 ·
  intro b1 b2 x1 x2 g' c1 c2 q1 q2 q3 q4 q5 q6
  by_cases e1:b1=b <;> by_cases e2:b2=b
  · rw [e1,e2]
  ·
   subst e1
   simp only [hput,e2,if_false] at q2
   simp only [lput,if_true,e2,if_false,Option.some.injEq,Prod.mk.injEq] at q5 q6
   have:=h.lt q2 q4 q6
   omega
  ·
   subst e2
   simp only [hput,e1,if_false] at q1
   simp only [lput,if_true,e1,if_false,Option.some.injEq,Prod.mk.injEq] at q5 q6
   have:=h.lt q1 (hot_live q3) q5
   omega
  ·
   simp only [hput,e1,e2,if_false] at q1 q2
   simp only [lput,e1,e2,if_false] at q5 q6
   exact h.hi b1 b2 x1 x2 g' c1 c2 q1 q2 q3 q4 q5 q6
 ·
  intro b' x' g' c' q1 q2 q3
  by_cases e':b'=b
  ·
   subst e'
   simp only [lput,if_true,Option.some.injEq,Prod.mk.injEq] at q2
   omega
  ·
   simp only [hput,e',if_false] at q1
   simp only [lput,e',if_false] at q2
   exact h.hf b' x' g' c' q1 q2 q3
 ·
  intro i x' q1 q2
  have e':(1,i) ≠ b:=by rintro rfl; cases h0
  simp only [hput,e',if_false] at q1
  simp only [lput,e',if_false]
  exact h.hp i x' q1 q2
theorem Rel.grow {Γ:Ctx} {s:St} {μ:Lay} {a:Act} {w w':World} (h:Rel Γ s μ a w) (hbel:Below w.heap.size w w') (hnf:NF w w'):Rel Γ s μ a w':=by
 have hm:∀ k,k < w.heap.size->¬ forb Γ.Mx μ s.H k->¬ forb Γ.Mx μ s.H k/\w'.heap[k]?=w.heap[k]?:=fun k hk hfk=>⟨hfk,hbel.block k hk⟩
 exact h.next (HLe.refl _) (fun _ _=>rfl) (.of (hbel.mono h.hw.size) hnf) hm (fun b x hx=>(h.hb b x hx).mono hx hm (HLe.refl _) (fun _ _=>rfl) fun g c hl hg=>hbel.block g (h.lt hx hl hg)) h.hi h.hf h.hp
theorem Rel.write {Γ:Ctx} {s:St} {μ:Lay} {a:Act} {w:World} (h:Rel Γ s μ a w) {b:Bid} {x x':Box} {g c:Nat} (hx:s.H b=some x) (hh:x.hot=true) (hh':x'.hot=true) (hg:μ b=some (g,c))
  (hle:HLe s.H (hput s.H b x')) {w':World} {cur:Array Value} {e:TypeId} (hcur:w'.heap[g]?=some (.cells cur e (0,0))) (hos:w'.os=w.os) (htape:w'.tape=w.tape) (hout:w'.output=w.output) (hsize:w'.heap.size=w.heap.size)
  (hother:∀ k,k ≠ g->w'.heap[k]?=w.heap[k]?) (hC:BoxC w (forb Γ.Mx μ s.H) μ s.H cur e c x'):Rel Γ ⟨s.t,hput s.H b x'⟩ μ a w':=by
 have hfg:forb Γ.Mx μ s.H g:=.inr ⟨b,x,c,hx,hh,hg⟩
 have hforb:∀ k,forb Γ.Mx μ (hput s.H b x') k->forb Γ.Mx μ s.H k:=by
  rintro k (hk | ⟨b',y,c',q1,q2,q3⟩)
  · exact .inl hk
  ·
   by_cases e:b'=b
   · subst e; exact .inr ⟨b',x,c',hx,hh,q3⟩
   · simp only [hput,e,if_false] at q1; exact .inr ⟨b',y,c',q1,q2,q3⟩
 have hm:∀ k,k < w.heap.size->¬ forb Γ.Mx μ s.H k->¬ forb Γ.Mx μ (hput s.H b x') k/\w'.heap[k]?=w.heap[k]?:=fun k hk hfk=>
  ⟨fun hh=>hfk (hforb k hh),hother k fun e=>hfk (e ▸ hfg)⟩
 have hge:=h.hf b x g c hx hg (hot_live hh)
 refine h.next hle (fun _ _=>rfl) ⟨hos,htape,hout,Nat.le_of_eq hsize.symm,fun k hk hn=>hother k fun e=>by subst e; exact hge.elim (fun h=>by omega) hn,.set hcur hother⟩ hm ?_ ?_ ?_ ?_
 ·
  intro b' y hy
  by_cases e':b'=b
  ·
   subst e'
   simp only [hput,if_true,Option.some.injEq] at hy
   subst hy
   exact .inr (.inl ⟨g,c,cur,e,hg,hcur,hC.mono hm hle (fun _ _=>rfl)⟩)
  ·
   simp only [hput,e',if_false] at hy
   exact (h.hb b' y hy).mono hy hm hle (fun _ _=>rfl) fun g' c' hl hg'=>hother g' fun e=>e' (h.hi b b' x y g c c' hx hy hh hl hg (e ▸ hg')).symm
 ·
  intro b1 b2 x1 x2 g' c1 c2 q1 q2 q3 q4 q5 q6
  have t1:∃ y,s.H b1=some y/\y.hot=true:=by
   by_cases e1:b1=b
   · subst e1; exact ⟨x,hx,hh⟩
   · simp only [hput,e1,if_false] at q1; exact ⟨x1,q1,q3⟩
  have t2:∃ y,s.H b2=some y/\y.live=true:=by
   by_cases e2:b2=b
   · subst e2; exact ⟨x,hx,hot_live hh⟩
   · simp only [hput,e2,if_false] at q2; exact ⟨x2,q2,q4⟩
  obtain ⟨y1,r1,r2⟩:=t1
  obtain ⟨y2,r3,r4⟩:=t2
  exact h.hi b1 b2 y1 y2 g' c1 c2 r1 r3 r2 r4 q5 q6
 ·
  intro b' y g' c' q1 q2 q3
  by_cases e':b'=b
  · subst e'; exact h.hf b' x g' c' hx q2 (hot_live hh)
  · simp only [hput,e',if_false] at q1; exact h.hf b' y g' c' q1 q2 q3
 ·
  intro i y q1 q2
  by_cases e':(1,i)=b
  · subst e'; exact h.hp i x hx (hot_live hh)
  · simp only [hput,e',if_false] at q1; exact h.hp i y q1 q2
theorem Rel.freeze {Γ:Ctx} {s:St} {μ:Lay} {a:Act} {w:World} (h:Rel Γ s μ a w) {b:Bid} {e:TypeId} {sz:Nat} {L:List (List AV)} {z:Bool} (hx:s.H b=some (.row e sz L z)):Rel Γ ⟨s.t,hput s.H b (.row e sz L true)⟩ μ a w:=by
 have hle:HLe s.H (hput s.H b (.row e sz L true)):=by
  intro i
  by_cases e':i=b
  · subst e'; rw [hx]; exact .inl ⟨L,true,by simp [hput],rfl⟩
  ·
   have:hput s.H b (.row e sz L true) i=s.H i:=by simp [hput,e']
   rw [this]; exact HLe.refl s.H i
 have hforb:∀ k,forb Γ.Mx μ (hput s.H b (.row e sz L true)) k->forb Γ.Mx μ s.H k:=by
  rintro k (hk | ⟨b',y,c',q1,q2,q3⟩)
  · exact .inl hk
  ·
   by_cases e:b'=b
   · subst e; simp only [hput,if_true,Option.some.injEq] at q1; subst q1; simp [Box.hot] at q2
   · simp only [hput,e,if_false] at q1; exact .inr ⟨b',y,c',q1,q2,q3⟩
 have hm:∀ k,k < w.heap.size->¬ forb Γ.Mx μ s.H k->¬ forb Γ.Mx μ (hput s.H b (.row e sz L true)) k/\w.heap[k]?=w.heap[k]?:=fun k hk hfk=>⟨fun hh=>hfk (hforb k hh),rfl⟩
 refine h.next hle (fun _ _=>rfl) (BelowX.refl _ _ _) hm ?_ ?_ ?_ ?_
 ·
  intro b' y hy
  by_cases e':b'=b
  ·
   subst e'
   simp only [hput,if_true,Option.some.injEq] at hy
   subst hy
   rcases h.hb b' _ hx with q | ⟨g,c,cur,e,q1,q2,q3⟩ | ⟨q1,e1,sz1,z1,q2,q3⟩
   · cases q
   · exact .inr (.inl ⟨g,c,cur,e,q1,q2,q3.mono hm hle (fun _ _=>rfl)⟩)
   · cases q2; exact .inr (.inr ⟨q1,_,_,true,rfl,q3⟩)
  ·
   simp only [hput,e',if_false] at hy
   exact (h.hb b' y hy).mono hy hm hle (fun _ _=>rfl) fun _ _ _ _=>rfl
 ·
  intro b1 b2 x1 x2 g' c1 c2 q1 q2 q3 q4 q5 q6
  by_cases e1:b1=b
  · subst e1; simp only [hput,if_true,Option.some.injEq] at q1; subst q1; simp [Box.hot] at q3
  ·
   simp only [hput,e1,if_false] at q1
   have t2:∃ y,s.H b2=some y/\y.live=true:=by
    by_cases e2:b2=b
    · subst e2; exact ⟨_,hx,rfl⟩
    · simp only [hput,e2,if_false] at q2; exact ⟨x2,q2,q4⟩
   obtain ⟨y2,r3,r4⟩:=t2
   exact h.hi b1 b2 x1 y2 g' c1 c2 q1 r3 q3 r4 q5 q6
 ·
  intro b' y g' c' q1 q2 q3
  by_cases e':b'=b
  · subst e'; exact h.hf b' _ g' c' hx q2 rfl
  · simp only [hput,e',if_false] at q1; exact h.hf b' y g' c' q1 q2 q3
 ·
  intro i y q1 q2
  by_cases e':(1,i)=b
  · subst e'; exact h.hp i _ hx rfl
  · simp only [hput,e',if_false] at q1; exact h.hp i y q1 q2
theorem TI.of_some {P:Program} {t:TypeId} {i:TI} (h:TI.of P t=some i):∃ (q:TypeInfo) (d:TypeDesc),P.info? t=some q/\P.underlying t=some d/\okD P d=true /\
  i.size=q.size/\i.agg=isAggD d/\i.zero=(match q.zero with | some z=>if z.cells.all (·.oneCell') then z.cells.toList.map AE.cAV else [] | none=>[])/\i.fields=fieldsD P d /\
  i.len=(match d with | .array n _=>n | _=>0)/\i.esize=(match elemD d with | some e=>P.cellsOf e | none=>0)/\i.etype=(elemD d).getD 0 /\
  i.ebytes=(match elemD d with | some e=>((P.info? e).map (·.bytes)).getD 0 | none=>0)/\i.kind=(match d with | .int k=>some k | _=>none) /\
  i.arr=(match d with | .array _ _=>true | _=>false)/\i.slc=(match d with | .slice _=>true | _=>false)/\i.ptr=(match d with | .pointer _=>true | _=>false) /\
  i.kinds=(if P.eqGuardType P.depth t then none else kindsAt P 6 t):=by
 unfold TI.of at h
 split at h
 ·
  rename_i q d h1 h2
  split at h
  ·
   rename_i hk
   cases h
   exact ⟨q,d,h1,h2,hk,rfl,rfl,rfl,rfl,rfl,rfl,rfl,rfl,rfl,rfl,rfl,rfl,rfl⟩
  · cases h
 · cases h
section
variable {P:Program} {w:World}
theorem run_sizeOf' {t:TypeId} {q:TypeInfo} (h:P.info? t=some q):(Go.sizeOf t).run P w=.ok q.size w:=by
 simp [Go.sizeOf,typeInfo,h]
theorem cellsOf_eq {t:TypeId} {q:TypeInfo} (h:P.info? t=some q):P.cellsOf t=q.size:=by simp [Program.cellsOf,h]
theorem run_isAgg' {t:TypeId} {d:TypeDesc} (h:P.underlying t=some d):(Go.isAgg t).run P w=.ok (isAggD d) w:=by
 simp only [Go.isAgg,Sem.run_bind,run_underlying h,Result.andThen_ok]
 cases d <;> rfl
theorem run_zero' {t:TypeId} {q:TypeInfo} {z:Value} (h:P.info? t=some q) (hz:q.zero=some z):(Go.zeroValue t).run P w=.ok z w:=by
 simp [Go.zeroValue,typeInfo,h,hz]
theorem wp_value {o:Oper} {a:Act} {K:Act->World->Prop} {Q:Exit->Act->World->Prop} {x:Value} {w':World} (h:(execOp a.eval o).run P w=.ok (.value x) w') (hK:K (a.put o.dst x) w'):o.wp P a w K Q:=by
 unfold Oper.wp; rw [h]; exact hK
theorem wp_skipped {o:Oper} {a:Act} {K:Act->World->Prop} {Q:Exit->Act->World->Prop} {w':World} (h:(execOp a.eval o).run P w=.ok .skip w') (hK:K (a.put o.dst undef) w'):o.wp P a w K Q:=by
 unfold Oper.wp; rw [h]; exact hK
end
def SimR (Γ:Ctx) (s:St) (μ:Lay) (a:Act) (w:World) (o:Oper) (r:R):Prop:=
 ∀ H1,hnews s.H r.nw=some H1->∀ (K:Act->World->Prop) (Q:Exit->Act->World->Prop),
  (r.pan=none->∀ μ' a' w',Rel Γ ⟨tput s.t o.dst r.v,hputs H1 r.up⟩ μ' a' w'->K a' w') ->
  (∀ v,r.pan=some v->∀ x μ' w',Rel Γ ⟨s.t,hputs H1 r.up⟩ μ' a w'->Rep w' (forb Γ.Mx μ' (hputs H1 r.up)) μ' (hputs H1 r.up) v x->Q (.panic [{ v:=x,recovered:=false }]) a w') ->
  o.wp Γ.P a w K Q
section
variable {Γ:Ctx} {s:St} {μ:Lay} {a:Act} {w:World} {o:Oper}
theorem simV (h:Rel Γ s μ a w) (hd:∀ t,o.dst=some t->t < Γ.n) {v:AV} {x:Value} {fp:List Bid} (hrun:(execOp a.eval o).run Γ.P w=.ok (.value x) w) (hv:Rep w (forb Γ.Mx μ s.H) μ s.H v x):SimR Γ s μ a w o ⟨v,[],[],fp,none⟩:=by
 intro H1 hH K Q hK _
 simp only [hnews,Option.some.injEq] at hH
 subst hH
 exact wp_value hrun (hK rfl μ _ _ (h.put hd hv))
theorem Rep.int_inv {M H k n x} (h:Rep w M μ H (.int k n) x):x=.int k n:=by cases h; rfl
theorem Rep.bool_inv {M H b x} (h:Rep w M μ H (.bool b) x):x=.bool b:=by cases h; rfl
theorem Rep.str_inv {M H b x} (h:Rep w M μ H (.str b) x):x=.string b:=by cases h; rfl
theorem Rep.nils_inv {M H x} (h:Rep w M μ H .nils x):x=.slice none 0 0:=by cases h; rfl
theorem Rep.nilp_inv {M H x} (h:Rep w M μ H .nilp x):x=.pointer none:=by cases h; rfl
theorem sim_move (h:Rel Γ s μ a w) (hd:∀ t,o.dst=some t->t < Γ.n) {x:Operand} (ho:o.op=.move x):SimR Γ s μ a w o ⟨eva s.t x,[],[],[],none⟩:=
 simV h hd (x:=a.eval x) (by simp [execOp,ho]) (eva_rep h x)
theorem sim_assign (h:Rel Γ s μ a w) (hd:∀ t,o.dst=some t->t < Γ.n) {x:Operand} (ho:o.op=.assign x):SimR Γ s μ a w o ⟨eva s.t x,[],[],[],none⟩:=
 simV h hd (x:=a.eval x) (by simp [execOp,ho]) (eva_rep h x)
theorem val_inj {v:AV} {r:R} (h:val v=some r):r=⟨v,[],[],[],none⟩:=by simpa [val,eq_comm] using h
theorem sim_pick (h:Rel Γ s μ a w) (hd:∀ t,o.dst=some t->t < Γ.n) {c x y:Operand} (ho:o.op=.pick c x y) {r:R} (hr:vPick (eva s.t c) (eva s.t x) (eva s.t y)=some r):SimR Γ s μ a w o r:=by
 have hc:=eva_rep h c
 cases hq:eva s.t c <;> rw [hq] at hr hc <;> simp only [vPick] at hr <;> try (cases hr; done)
 rename_i t
 cases val_inj hr
 have e:=hc.bool_inv
 cases t
 · exact simV h hd (x:=a.eval y) (by simp [execOp,ho,e,asBool]) (eva_rep h y)
 · exact simV h hd (x:=a.eval x) (by simp [execOp,ho,e,asBool]) (eva_rep h x)
theorem sim_not (h:Rel Γ s μ a w) (hd:∀ t,o.dst=some t->t < Γ.n) {x:Operand} {t:TypeId} (ho:o.op=.unOp .not t x) {r:R} (hr:vNot (eva s.t x)=some r):SimR Γ s μ a w o r:=by
 have hx:=eva_rep h x
 cases hq:eva s.t x <;> rw [hq] at hr hx <;> simp only [vNot] at hr <;> try (cases hr; done)
 cases val_inj hr
 exact simV h hd (by simp [execOp,ho,hx.bool_inv,Op.unary]) (.bool _ _)
theorem sim_neg (h:Rel Γ s μ a w) (hd:∀ t,o.dst=some t->t < Γ.n) {x:Operand} {t:TypeId} (ho:o.op=.unOp .neg t x) {r:R} (hr:vNeg (eva s.t x)=some r):SimR Γ s μ a w o r:=by
 have hx:=eva_rep h x
 cases hq:eva s.t x <;> rw [hq] at hr hx <;> simp only [vNeg] at hr <;> try (cases hr; done)
 cases val_inj hr
 exact simV h hd (by simp [execOp,ho,hx.int_inv,Op.unary,Op.intArith]) (.int _ _ _)
theorem sim_extract (h:Rel Γ s μ a w) (hd:∀ t,o.dst=some t->t < Γ.n) {x:Operand} {i:Nat} (ho:o.op=.extract x i) {r:R} (hr:vExtract i (eva s.t x)=some r):SimR Γ s μ a w o r:=by
 have hx:=eva_rep h x
 cases hq:eva s.t x <;> rw [hq] at hr hx <;> simp only [vExtract] at hr <;> try (cases hr; done)
 rename_i xs
 cases hi:xs[i]? with
 | none=>rw [hi] at hr; cases hr
 | some v=>
  rw [hi] at hr
  cases val_inj hr
  generalize hval:a.eval x=y at hx
  cases hx with
  | tup _ _ vs g hs hv hrr=>
   have hl:i < xs.length:=(List.getElem?_eq_some_iff.1 hi).1
   exact simV h hd (x:=g i) (by simp [execOp,ho,hval,Instr.extract,hv i hl]) (hrr i v hi)
theorem sim_nil (h:Rel Γ s μ a w) (hd:∀ t,o.dst=some t->t < Γ.n) {x:Operand} (ho:o.op=.nilCheck x) {r:R} (hr:vNil (eva s.t x)=some r):SimR Γ s μ a w o r:=by
 have hx:=eva_rep h x
 cases hq:eva s.t x <;> rw [hq] at hr hx <;> simp only [vNil] at hr <;> try (cases hr; done)
 ·
  cases val_inj hr
  generalize hval:a.eval x=y at hx
  cases hx with
  | ref _ _ _ cs g c hH hμ=>exact simV h hd (by simp [execOp,ho,hval]) (.ref _ _ _ cs g c hH hμ)
 ·
  cases val_inj hr
  generalize hval:a.eval x=y at hx
  have hx':=hx
  cases hx with
  | iref _ cs o g off f hv hrr=>exact simV h hd (by simp [execOp,ho,hval]) hx'
theorem sim_iface (h:Rel Γ s μ a w) (hd:∀ t,o.dst=some t->t < Γ.n) {x:Operand} {t:TypeId} (ho:o.op=.makeInterface t x) {r:R} (hr:vIface t (eva s.t x)=some r) {d:TypeDesc} (hu:Γ.P.underlying t=some d) (hni:∀ ms,d ≠ .interface ms):SimR Γ s μ a w o r:=by
 have hx:=eva_rep h x
 have hr':r=⟨.ifc t (eva s.t x),[],[],[],none⟩:=by
  cases hq:eva s.t x <;> rw [hq] at hr <;> simp only [vIface] at hr <;> first | exact val_inj hr | (cases hr; done)
 subst hr'
 refine simV h hd (x:=.iface t (a.eval x)) ?_ (.ifc _ _ _ _ hx)
 simp only [execOp,ho,Instr.makeInterface,Sem.run_bind,run_underlying hu,Result.andThen_ok]
 cases d <;> first | rfl | exact absurd rfl (hni _)
theorem sim_panic (h:Rel Γ s μ a w) {x:Operand} (ho:o.op=.panic x) {r:R} (hr:vPanic (eva s.t x)=some r):SimR Γ s μ a w o r:=by
 have hx:=eva_rep h x
 cases hq:eva s.t x <;> rw [hq] at hr hx <;> simp only [vPanic] at hr <;> try (cases hr; done)
 rename_i t v
 cases hr
 intro H1 hH K Q _ hQ
 simp only [hnews,Option.some.injEq] at hH
 subst hH
 have:=hQ _ rfl (a.eval x) μ w h hx
 generalize hval:a.eval x=y at hx this
 cases hx with
 | ifc _ _ _ x' hr=>
  unfold Oper.wp
  simp only [execOp,ho,hval,Instr.panic,Sem.run_bind,run_goPanic,Result.andThen]
  exact this
theorem sim_makeFunc (h:Rel Γ s μ a w) (hd:∀ t,o.dst=some t->t < Γ.n) {f:FuncId} {caps:Array Operand} (ho:o.op=.makeFunc (.func f) #[] caps):SimR Γ s μ a w o ⟨.fn f (caps.toList.map (eva s.t)),[],[],[],none⟩:=by
 refine simV h hd (x:=.func (.func f) #[] (caps.map a.eval)) (by simp [execOp,ho,Instr.makeFunc]) (.fn _ _ _ _ (fun i=>a.eval (caps.getD i (.tmp 0))) (by simp) ?_ ?_)
 ·
  intro i hi
  simp at hi
  simp [hi]
 ·
  intro i c hc
  simp only [List.getElem?_map,Option.map_eq_some_iff] at hc
  obtain ⟨x,hx,rfl⟩:=hc
  have:caps.getD i (.tmp 0)=x:=by
   have h':caps[i]?=some x:=by simpa using hx
   simp [h']
  rw [this]
  exact eva_rep h x
end
def toV:AV->Value
 | .int k n=>.int k n
 | .bool b=>.bool b
 | .str s=>.string s
 | _=>undef
def valK (P:Program) (t:TypeId) (l:List AV):Value:=
 match P.underlying t with
 | some (.array _ _) | some (.struct _)=>.agg (l.map toV).toArray
 | _=>toV (l.headD .u)
theorem catK_cons {o:Option (List Kd)} {r:List (Option (List Kd))} {ks:List Kd} (h:catK (o :: r)=some ks):∃ l m,o=some l/\catK r=some m/\ks=l++m:=by
 cases o with
 | none=>simp [catK] at h
 | some l=>
  simp only [catK] at h
  split at h
  · rename_i m hm; exact ⟨l,m,rfl,hm,by simpa [eq_comm] using h⟩
  · cases h
theorem kinds_len {P:Program}:∀ (d:Nat) (t:TypeId) (ks:List Kd),kindsAt P d t=some ks->ks.length=P.cellsOf t:=by
 intro d
 induction d with
 | zero=>intro t ks h; simp [kindsAt] at h
 | succ d ih=>
  intro t ks h
  unfold kindsAt at h
  split at h
  · cases h
  split at h
  ·
   split at h
   · cases h; simp [*]
   · cases h
  ·
   split at h
   · cases h; simp [*]
   · cases h
  ·
   split at h
   · cases h; simp [*]
   · cases h
  ·
   rename_i n e hu
   split at h
   ·
    rename_i hc
    rw [hc.1]
    clear hc hu
    induction n generalizing ks with
    | zero=>simp [catK] at h; simp [<-h]
    | succ n ihn=>
     rw [List.replicate_succ] at h
     obtain ⟨l,m,h1,h2,rfl⟩:=catK_cons h
     rw [List.length_append,ih e l h1,ihn m h2,Nat.succ_mul]
     omega
   · cases h
  ·
   rename_i fs hu
   split at h
   ·
    rename_i hc
    simp only [Bool.and_eq_true] at hc
    have key:∀ (fl:List Field) (off:Nat) (ks:List Kd),tilesK P off (P.cellsOf t) fl=true->catK (fl.map fun f=>kindsAt P d f.type)=some ks->off + ks.length=P.cellsOf t:=by
     intro fl
     induction fl with
     | nil=>intro off ks h1 h2; simp [catK] at h2; simp [tilesK] at h1; simp [<-h2,h1]
     | cons f fl ihf=>
      intro off ks h1 h2
      simp only [tilesK,Bool.and_eq_true] at h1
      obtain ⟨l,m,q1,q2,rfl⟩:=catK_cons h2
      have:=ihf _ m h1.2 q2
      rw [List.length_append,ih _ l q1]
      omega
    have:=key fs.toList 0 ks hc.2 h
    omega
   · cases h
  · cases h
theorem eqvs_append:∀ (l1 m1 l2 m2:List AV) (b:Bool),l1.length=m1.length->eqvs (l1++l2) (m1++m2)=some b->∃ b1 b2,eqvs l1 m1=some b1/\eqvs l2 m2=some b2/\b=(b1 && b2)
 | [],[],l2,m2,b,_,h=>⟨true,b,rfl,h,by simp⟩
 | x :: l1,y :: m1,l2,m2,b,hl,h=>by
  simp only [List.cons_append,eqvs] at h
  cases hx:eqv x y with
  | none=>rw [hx] at h; simp [both] at h
  | some b0=>
   cases hr:eqvs (l1++l2) (m1++m2) with
   | none=>rw [hx,hr] at h; simp [both] at h
   | some b'=>
    rw [hx,hr] at h
    simp only [both,Option.some.injEq] at h
    obtain ⟨b1,b2,q1,q2,rfl⟩:=eqvs_append l1 m1 l2 m2 b' (by simpa using hl) hr
    exact ⟨b0 && b1,b2,by simp [eqvs,hx,q1,both],q2,by rw [<-h,Bool.and_assoc]⟩
 | [],_ :: _,_,_,_,hl,_=>by simp at hl
 | _ :: _,[],_,_,_,hl,_=>by simp at hl
theorem eqvs_len:∀ (l m:List AV) (b:Bool),eqvs l m=some b->l.length=m.length
 | [],[],_,_=>rfl
 | x :: l,y :: m,b,h=>by
  simp only [eqvs] at h
  cases hr:eqvs l m with
  | none=>rw [hr] at h; cases hx:eqv x y <;> rw [hx] at h <;> simp [both] at h
  | some b'=>simp [eqvs_len l m b' hr]
 | [],_ :: _,_,h=>by simp [eqvs] at h
 | _ :: _,[],_,h=>by simp [eqvs] at h
section
variable {P:Program} (w:World)
theorem part_k {d:Nat} {t:TypeId} {ks:List Kd} (h:kindsAt P d t=some ks) (l:List AV) (off:Nat) (hl:off + P.cellsOf t<=l.length) :
  (part t (l.map toV).toArray off).run P w=.ok (valK P t ((l.drop off).take (P.cellsOf t))) w:=by
 cases d with
 | zero=>simp [kindsAt] at h
 | succ d=>
  unfold kindsAt at h
  split at h
  · cases h
  rename_i hi
  obtain ⟨q,hq⟩:∃ q,P.info? t=some q:=by
   cases hh:P.info? t with
   | none=>simp [hh] at hi
   | some q=>exact ⟨q,rfl⟩
  have hone:P.cellsOf t=1->(l.map toV)[off]?=some (toV (((l.drop off).take (P.cellsOf t)).headD .u)):=by
   intro h1
   rw [h1] at hl ⊢
   rw [List.getElem?_map,List.getElem?_eq_getElem (by omega),List.drop_eq_getElem_cons (by omega),List.take_succ_cons]
   rfl
  have hagg:((l.map toV).toArray.extract off (off + P.cellsOf t))=(((l.drop off).take (P.cellsOf t)).map toV).toArray:=by
   simp [List.extract_eq_take_drop,List.map_take,List.map_drop]
  split at h
  ·
   rename_i hu; split at h
   · rename_i h1; simp [part,isAgg,run_underlying hu,valK,hu,hone h1]
   · cases h
  ·
   rename_i hu; split at h
   · rename_i h1; simp [part,isAgg,run_underlying hu,valK,hu,hone h1]
   · cases h
  ·
   rename_i hu; split at h
   · rename_i h1; simp [part,isAgg,run_underlying hu,valK,hu,hone h1]
   · cases h
  ·
   rename_i n e hu
   simp only [part,Sem.run_bind,run_isAgg' hu,isAggD,Result.andThen_ok,if_true,run_sizeOf w hq,Sem.run_pure,valK,hu,hagg]
  ·
   rename_i fs hu
   simp only [part,Sem.run_bind,run_isAgg' hu,isAggD,Result.andThen_ok,if_true,run_sizeOf w hq,Sem.run_pure,valK,hu,hagg]
  · cases h
theorem equal_k (e:Nat):∀ (d:Nat) (t:TypeId) (ks:List Kd) (l m:List AV) (b:Bool),kindsAt P d t=some ks->l.map kd=ks.map some->eqvs l m=some b ->
  (Op.equalIn (e + d) t (valK P t l) (valK P t m)).run P w=.ok b w:=by
 intro d
 induction d with
 | zero=>intro t ks l m b h; simp [kindsAt] at h
 | succ d ih=>
  intro t ks l m b h hk heq
  have hlm:=eqvs_len l m b heq
  have hlk:l.length=P.cellsOf t:=by rw [<-kinds_len _ _ _ h]; have:=congrArg List.length hk; simpa using this
  rw [show e + (d + 1)=(e + d) + 1 from rfl]
  have one:∀ (x y:AV),l=[x]->m=[y]->eqv x y=some b:=by
   rintro x y rfl rfl
   simp only [eqvs] at heq
   cases hx:eqv x y with
   | none=>rw [hx] at heq; simp [both] at heq
   | some b0=>rw [hx] at heq; simpa [both] using heq
  unfold kindsAt at h
  split at h
  · cases h
  split at h
  ·
   rename_i k hu
   split at h
   ·
    rename_i h1
    cases h
    obtain ⟨x,rfl⟩:=List.length_eq_one_iff.1 (hlk.trans h1)
    obtain ⟨y,rfl⟩:=List.length_eq_one_iff.1 (hlm.symm.trans (hlk.trans h1))
    have hxy:=one x y rfl rfl
    cases x <;> simp only [List.map_cons,List.map_nil,kd,List.cons.injEq,Option.some.injEq,reduceCtorEq,and_true] at hk <;> try (cases hk; done)
    cases y <;> simp only [eqv] at hxy <;> try (cases hxy; done)
    rename_i k1 n1 k2 n2
    split at hxy
    ·
     rename_i hkk
     subst hkk
     cases hxy
     simp [valK,hu,toV]
     simp [Op.equalIn,run_underlying hu]
    · cases hxy
   · cases h
  ·
   rename_i hu
   split at h
   ·
    rename_i h1
    cases h
    obtain ⟨x,rfl⟩:=List.length_eq_one_iff.1 (hlk.trans h1)
    obtain ⟨y,rfl⟩:=List.length_eq_one_iff.1 (hlm.symm.trans (hlk.trans h1))
    have hxy:=one x y rfl rfl
    cases x <;> simp only [List.map_cons,List.map_nil,kd,List.cons.injEq,Option.some.injEq,reduceCtorEq,and_true] at hk <;> try (cases hk; done)
    cases y <;> simp only [eqv] at hxy <;> try (cases hxy; done)
    cases hxy
    simp [valK,hu,toV,Op.equalIn,run_underlying hu]
   · cases h
  ·
   rename_i hu
   split at h
   ·
    rename_i h1
    cases h
    obtain ⟨x,rfl⟩:=List.length_eq_one_iff.1 (hlk.trans h1)
    obtain ⟨y,rfl⟩:=List.length_eq_one_iff.1 (hlm.symm.trans (hlk.trans h1))
    have hxy:=one x y rfl rfl
    cases x <;> simp only [List.map_cons,List.map_nil,kd,List.cons.injEq,Option.some.injEq,reduceCtorEq,and_true] at hk <;> try (cases hk; done)
    cases y <;> simp only [eqv] at hxy <;> try (cases hxy; done)
    cases hxy
    simp [valK,hu,toV,Op.equalIn,run_underlying hu]
   · cases h
  ·
   rename_i n el hu
   split at h
   ·
    rename_i hc
    obtain ⟨hc,hn0⟩:=hc
    have hel:∃ lk,kindsAt P d el=some lk:=by
     obtain ⟨n',rfl⟩:∃ n',n=n' + 1:=⟨n - 1,by omega⟩
     rw [List.replicate_succ] at h
     obtain ⟨lk,_,h1,_⟩:=catK_cons h
     exact ⟨lk,h1⟩
    obtain ⟨lk,hlk1⟩:=hel
    have hinfo:∃ i,P.info? el=some i:=by
     cases d with
     | zero=>simp [kindsAt] at hlk1
     | succ d=>
      unfold kindsAt at hlk1
      split at hlk1
      · cases hlk1
      ·
       rename_i hi
       cases hh:P.info? el with
       | none=>simp [hh] at hi
       | some q=>exact ⟨q,rfl⟩
    obtain ⟨i,hinfo⟩:=hinfo
    have hrep:∀ (n:Nat) (ks:List Kd),catK (List.replicate n (kindsAt P d el))=some ks->ks=(List.replicate n lk).flatten:=by
     intro n
     induction n with
     | zero=>intro ks h; simp [catK] at h; simp [h]
     | succ n ihn=>
      intro ks h
      rw [List.replicate_succ] at h
      obtain ⟨l1,m1,h1,h2,rfl⟩:=catK_cons h
      rw [hlk1] at h1
      cases h1
      rw [List.replicate_succ,List.flatten_cons,<-ihn m1 h2]
    have hks:=hrep n ks h
    have hll:=kinds_len _ _ _ hlk1
    have key:∀ (r k:Nat) (l' m':List AV) (b:Bool),k * P.cellsOf el<=l.length->l.drop (k * P.cellsOf el)=l'->m.drop (k * P.cellsOf el)=m'->l'.map kd=((List.replicate r lk).flatten).map some->eqvs l' m'=some b ->
      (Op.eqItems (e + d) el (P.cellsOf el) (l.map toV).toArray (m.map toV).toArray (List.range' k r)).run P w=.ok b w:=by
     intro r
     induction r with
     | zero=>
      intro k l' m' b h0 h1 h2 h3 h4
      have:l'=[]:=by simpa using h3
      subst this
      cases m' with
      | nil=>simp only [eqvs,Option.some.injEq] at h4; subst h4; simp [Op.eqItems]
      | cons=>simp [eqvs] at h4
     | succ r ihr=>
      intro k l' m' b h0 h1 h2 h3 h4
      have hlen':l'.length=(r + 1) * P.cellsOf el:=by have:=congrArg List.length h3; simp [hll] at this; simpa using this
      have hlen2:=eqvs_len _ _ _ h4
      have hs1:P.cellsOf el<=l'.length:=by rw [hlen',Nat.succ_mul]; omega
      obtain ⟨b1,b2,q1,q2,rfl⟩:=eqvs_append (l'.take (P.cellsOf el)) (m'.take (P.cellsOf el)) (l'.drop (P.cellsOf el)) (m'.drop (P.cellsOf el)) b (by simp; omega) (by rw [List.take_append_drop,List.take_append_drop]; exact h4)
      have hkk:(l'.take (P.cellsOf el)).map kd=lk.map some/\(l'.drop (P.cellsOf el)).map kd=((List.replicate r lk).flatten).map some:=by
       rw [List.replicate_succ,List.flatten_cons,List.map_append] at h3
       rw [List.map_take,List.map_drop,h3]
       have:P.cellsOf el=(lk.map some).length:=by simp [hll]
       rw [this]
       simp
      have e1:(k + 1) * P.cellsOf el=k * P.cellsOf el + P.cellsOf el:=Nat.succ_mul _ _
      have hlk1':k * P.cellsOf el + P.cellsOf el<=l.length:=by have:=congrArg List.length h1; simp at this; omega
      have hmk1':k * P.cellsOf el + P.cellsOf el<=m.length:=by omega
      rw [List.range'_succ]
      simp only [Op.eqItems,Sem.run_bind,part_k w hlk1 l _ hlk1',part_k w hlk1 m _ hmk1',Result.andThen_ok]
      rw [h1,h2,ih el lk _ _ b1 hlk1 hkk.1 q1]
      have:=ihr (k + 1) (l'.drop (P.cellsOf el)) (m'.drop (P.cellsOf el)) b2 (by omega) (by rw [e1,<-List.drop_drop,h1]) (by rw [e1,<-List.drop_drop,h2]) hkk.2 q2
      cases b1
      · simp
      · simpa using this
    have hk':=key n 0 l m b (by simp) (by simp) (by simp) (by rw [hk,hks]) heq
    simp only [valK,hu]
    rw [run_equalIn_array w (e + d) (l.map toV).toArray (m.map toV).toArray hu hinfo,List.range_eq_range',hk']
   · cases h
  ·
   rename_i fs hu
   split at h
   ·
    rename_i hc
    simp only [Bool.and_eq_true,Bool.not_eq_true'] at hc
    have key:∀ (fl:List Field) (off:Nat) (ks:List Kd) (l' m':List AV) (b:Bool),tilesK P off (P.cellsOf t) fl=true->catK (fl.map fun f=>kindsAt P d f.type)=some ks->off<=l.length->l.drop off=l'->m.drop off=m' ->
      l'.map kd=ks.map some->eqvs l' m'=some b->(Op.eqFields (e + d) (l.map toV).toArray (m.map toV).toArray fl).run P w=.ok b w:=by
     intro fl
     induction fl with
     | nil=>
      intro off ks l' m' b h1 h2 h0 h3 h4 h5 h6
      simp only [List.map_nil,catK,Option.some.injEq] at h2
      subst h2
      have:l'=[]:=by simpa using h5
      subst this
      cases m' with
      | nil=>simp only [eqvs,Option.some.injEq] at h6; subst h6; simp [Op.eqFields]
      | cons=>simp [eqvs] at h6
     | cons f fl ihf=>
      intro off ks l' m' b h1 h2 h0 h3 h4 h5 h6
      simp only [tilesK,Bool.and_eq_true,beq_iff_eq,bne_iff_ne,ne_eq] at h1
      obtain ⟨⟨ho,hnm⟩,h1⟩:=h1
      obtain ⟨lk,mk,g1,g2,rfl⟩:=catK_cons h2
      have hll:=kinds_len _ _ _ g1
      have hlen':l'.length=P.cellsOf f.type + mk.length:=by have:=congrArg List.length h5; simp [hll] at this; omega
      have hlen2:=eqvs_len _ _ _ h6
      obtain ⟨b1,b2,q1,q2,rfl⟩:=eqvs_append (l'.take (P.cellsOf f.type)) (m'.take (P.cellsOf f.type)) (l'.drop (P.cellsOf f.type)) (m'.drop (P.cellsOf f.type)) b (by simp; omega) (by rw [List.take_append_drop,List.take_append_drop]; exact h6)
      have hkk:(l'.take (P.cellsOf f.type)).map kd=lk.map some/\(l'.drop (P.cellsOf f.type)).map kd=mk.map some:=by
       rw [List.map_append] at h5
       rw [List.map_take,List.map_drop,h5]
       have:P.cellsOf f.type=(lk.map some).length:=by simp [hll]
       rw [this]
       simp
      have hlk1':off + P.cellsOf f.type<=l.length:=by have:=congrArg List.length h3; simp at this; omega
      have hmk1':off + P.cellsOf f.type<=m.length:=by omega
      simp only [Op.eqFields,ne_eq,hnm,not_false_eq_true,if_true,ho,Sem.run_bind,part_k w g1 l _ hlk1',part_k w g1 m _ hmk1',Result.andThen_ok]
      rw [h3,h4,ih f.type lk _ _ b1 g1 hkk.1 q1]
      have:=ihf (off + P.cellsOf f.type) mk (l'.drop (P.cellsOf f.type)) (m'.drop (P.cellsOf f.type)) b2 h1 g2 (by omega) (by rw [<-List.drop_drop,h3]) (by rw [<-List.drop_drop,h4]) hkk.2 q2
      cases b1
      · simp
      · simpa using this
    have hfs:P.fieldsOf t=fs:=by simp [Program.fieldsOf,hu]
    have hk':=key fs.toList 0 ks l m b hc.2 h (by simp) (by simp) (by simp) hk heq
    simp only [valK,hu]
    rw [run_equalIn_struct w (e + d) t (l.map toV).toArray (m.map toV).toArray (by rw [hfs]; exact hu) (by simpa using hc.1),hfs,hk']
   · cases h
  · cases h
end
section
variable {Γ:Ctx} {s:St} {μ:Lay} {a:Act} {w:World} {o:Oper}
theorem eqvs_scal:∀ (l m:List AV) (b:Bool),eqvs l m=some b->(∀ x ∈ l,(kd x).isSome=true)/\(∀ x ∈ m,(kd x).isSome=true)
 | [],[],_,_=>by simp
 | x :: l,y :: m,b,h=>by
  simp only [eqvs] at h
  cases hr:eqvs l m with
  | none=>rw [hr] at h; cases hx:eqv x y <;> rw [hx] at h <;> simp [both] at h
  | some b'=>
   obtain ⟨i1,i2⟩:=eqvs_scal l m b' hr
   cases hx:eqv x y with
   | none=>rw [hx,hr] at h; simp [both] at h
   | some b0=>
    have:(kd x).isSome=true/\(kd y).isSome=true:=by
     cases x <;> first | (cases hx; done) | (cases y <;> first | (cases hx; done) | exact ⟨rfl,rfl⟩)
    exact ⟨by simpa using ⟨this.1,i1⟩,by simpa using ⟨this.2,i2⟩⟩
 | [],_ :: _,_,h=>by simp [eqvs] at h
 | _ :: _,[],_,h=>by simp [eqvs] at h
theorem Rep.scal {M H} {x:AV} {v:Value} (h:Rep w M μ H x v) (hk:(kd x).isSome=true):v=toV x:=by
 cases h <;> first | rfl | simp [kd] at hk
theorem Rep.aggK {M H} {l:List AV} {v:Value} (h:Rep w M μ H (.agg l) v) (hk:∀ x ∈ l,(kd x).isSome=true):v=.agg (l.map toV).toArray:=by
 cases h with
 | agg _ _ vs f hs hv hr=>
  congr 1
  apply Array.ext_getElem?
  intro i
  by_cases hi:i < l.length
  ·
   have h1:=hr i l[i] (List.getElem?_eq_getElem hi)
   have h2:=h1.scal (hk _ (List.getElem_mem hi))
   rw [(hv i hi).1,h2]
   simp [hi]
  · rw [Array.getElem?_eq_none (by omega),Array.getElem?_eq_none (by simp; omega)]
theorem kinds_agg {P:Program} {t:TypeId} {d:Nat} {ks:List Kd} (h:kindsAt P d t=some ks) {D:TypeDesc} (hu:P.underlying t=some D) (hD:isAggD D=true) (l:List AV):valK P t l=.agg (l.map toV).toArray:=by
 unfold valK
 rw [hu]
 cases D <;> simp [isAggD] at hD <;> rfl
theorem kinds_one {P:Program} {t:TypeId} {D:TypeDesc} (hu:P.underlying t=some D) (hD:isAggD D=false) (x:AV):valK P t [x]=toV x:=by
 unfold valK
 rw [hu]
 cases D <;> simp [isAggD] at hD <;> rfl
theorem eqGuard_agg {P:Program} {t:TypeId} (hg:P.eqGuardType P.depth t=false) (op:BinOp) (p q:Operand) (l m:Array Value):(eqGuard op t p q (.agg l) (.agg m)).run P w=.ok () w:=by
 have:∀ op:BinOp,(eqGuard op t p q (.agg l) (.agg m)).run P w=if (!(op matches .eql | .neq))=true then .ok () w else (if (!P.eqGuardType P.depth t)=true then .ok () w else (do if <-Op.eqGuardIn Op.maxDepth t (.agg l) (.agg m) then unsupported (.noEntry "binop/eql: two nil values of an interface type with methods, in a part of a struct or an array"):Sem Unit).run P w):=by
  intro op
  cases op <;> first | rfl | (simp only [eqGuard]; simp; done) | (simp only [eqGuard,Sem.run_bind,run_program,Result.andThen_ok,Sem.run_ite]; rfl)
 rw [this,hg]
 simp
theorem equal_slice {P:Program} {t e:TypeId} (h:P.underlying t=some (.slice e)) (d n c m k:Nat):(Op.equalIn (d + 1) t (.slice none n c) (.slice none m k)).run P w=.ok true w:=by
 simp [Op.equalIn,run_underlying h]
theorem equal_slice' {P:Program} {t e:TypeId} (h:P.underlying t=some (.slice e)) (d n c m k:Nat) (a:Addr):(Op.equalIn (d + 1) t (.slice (some a) n c) (.slice none m k)).run P w=.ok false w:=by
 simp [Op.equalIn,run_underlying h]
theorem equal_ptr {P:Program} {t e:TypeId} (h:P.underlying t=some (.pointer e)) (d:Nat):(Op.equalIn (d + 1) t (.pointer none) (.pointer none)).run P w=.ok true w:=by
 simp [Op.equalIn,run_underlying h]
theorem equal_ptr' {P:Program} {t e:TypeId} (h:P.underlying t=some (.pointer e)) (d:Nat) (a:Addr):(Op.equalIn (d + 1) t (.pointer (some a)) (.pointer none)).run P w=.ok false w:=by
 simp [Op.equalIn,run_underlying h]
theorem aEq_run {P:Program} {t:TypeId} {i:TI} (hT:TI.of P t=some i) {x y:AV} {vx vy:Value} {M H} (hx:Rep w M μ H x vx) (hy:Rep w M μ H y vy) {b:Bool} (h:aEq i x y=some b) (hns:∀ s,x ≠ .str s) :
  (Op.equal t vx vy).run P w=.ok b w/\∀ op p q,(eqGuard op t p q vx vy).run P w=.ok () w:=by
 obtain ⟨q,d,h1,h2,_,_,hagg,_,_,_,_,_,_,_,_,hslc,hptr,hkinds⟩:=TI.of_some hT
 unfold aEq at h
 split at h
 ·
  rename_i l m
  split at h
  ·
   rename_i ha
   rw [hagg] at ha
   cases hk:i.kinds with
   | none=>rw [hk] at h; simp [eqK] at h
   | some ks=>
    rw [hk] at h
    simp only [eqK] at h
    split at h
    ·
     rename_i hkd
     obtain ⟨s1,s2⟩:=eqvs_scal l m b h
     rw [hx.aggK s1,hy.aggK s2]
     rw [hk] at hkinds
     split at hkinds
     · cases hkinds
     ·
      rename_i hg
      have:=equal_k (P:=P) w (9994) 6 t ks l m b hkinds.symm hkd h
      rw [kinds_agg hkinds.symm h2 ha,kinds_agg hkinds.symm h2 ha] at this
      exact ⟨this,fun op p q=>eqGuard_agg (by simpa using hg) _ _ _ _ _⟩
    · cases h
  · cases h
 ·
  split at h
  ·
   rename_i hs
   cases h
   rw [hx.nils_inv,hy.nils_inv] at *
   rw [hslc] at hs
   cases d <;> simp at hs
   exact ⟨equal_slice h2 9999 _ _ _ _,fun op p q=>by cases op <;> rfl⟩
  · cases h
 ·
  split at h
  ·
   rename_i hs
   cases h
   rw [hx.nilp_inv,hy.nilp_inv] at *
   rw [hptr] at hs
   cases d <;> simp at hs
   exact ⟨equal_ptr h2 9999,fun op p q=>by cases op <;> rfl⟩
  · cases h
 ·
  split at h
  ·
   rename_i hs
   cases h
   rw [hy.nilp_inv] at *
   rw [hptr] at hs
   cases hx with
   | ref _ _ _ cs g c hH hμ=>
    cases d <;> simp at hs
    exact ⟨equal_ptr' h2 9999 _,fun op p q=>by cases op <;> rfl⟩
  · cases h
 ·
  split at h
  ·
   rename_i hs
   cases h
   rw [hy.nilp_inv] at *
   rw [hptr] at hs
   cases hx with
   | iref _ cs o g off f hv hr=>
    cases d <;> simp at hs
    exact ⟨equal_ptr' h2 9999 _,fun op p q=>by cases op <;> rfl⟩
  · cases h
 ·
  rename_i b1 b2
  split at h
  · cases h
  ·
   rename_i ha
   rw [hagg] at ha
   cases hk:i.kinds with
   | none=>rw [hk] at h; simp [eqK] at h
   | some ks=>
    rw [hk] at h
    simp only [eqK] at h
    split at h
    ·
     rename_i hkd
     rw [hk] at hkinds
     split at hkinds
     · cases hkinds
     ·
      rw [hx.bool_inv,hy.bool_inv] at *
      have:=equal_k (P:=P) w (9994) 6 t ks _ _ b hkinds.symm hkd h
      rw [kinds_one h2 (by simpa using ha),kinds_one h2 (by simpa using ha)] at this
      exact ⟨this,fun op p q=>by cases op <;> rfl⟩
    · cases h
 · exact absurd rfl (hns _)
 · cases h
theorem binOp_eql {t:TypeId} {vx vy:Value} (h1:∀ k n,vx ≠ .int k n) (h2:∀ n,vx ≠ .string n) (h3:∀ k n,vx ≠ .float k n) (h4:∀ k n m,vx ≠ .complex k n m) :
  binOp .eql t vx vy=(do pure (.bool (<-Op.equal t vx vy)))/\binOp .neq t vx vy=(do pure (.bool (!(<-Op.equal t vx vy)))):=by
 cases vx <;> first | exact ⟨rfl,rfl⟩ | exact absurd rfl (h1 _ _) | exact absurd rfl (h2 _) | exact absurd rfl (h3 _ _) | exact absurd rfl (h4 _ _ _)
theorem aEq_forms {i:TI} {x y:AV} {b:Bool} (h:aEq i x y=some b) {vx:Value} {M H} (hx:Rep w M μ H x vx) (hns:∀ s,x ≠ .str s):(∀ k n,vx ≠ .int k n)/\(∀ n,vx ≠ .string n)/\(∀ k n,vx ≠ .float k n)/\(∀ k n m,vx ≠ .complex k n m):=by
 unfold aEq at h
 split at h <;> first | (cases hx <;> simp; done) | (exact absurd rfl (hns _)) | (cases h; done)
theorem sim_binOp (h:Rel Γ s μ a w) (hd:∀ t,o.dst=some t->t < Γ.n) {op:BinOp} {t t':TypeId} {x y:Operand} (ho:o.op=.binOp op t x y t') {r:R} (hr:vBin (TI.of Γ.P t) op (eva s.t x) (eva s.t y)=some r):SimR Γ s μ a w o r:=by
  have hx:=eva_rep h x
  have hy:=eva_rep h y
  generalize hqx:eva s.t x=X at hr hx
  generalize hqy:eva s.t y=Y at hr hy
  unfold vBin at hr
  split at hr
  · rename_i k n k' m
    have ex:=hx.int_inv
    have ey:=hy.int_inv
    have hg:∀ op,(eqGuard op t x y (.int k n) (.int k' m)).run Γ.P w=.ok () w:=by
      intro op
      unfold eqGuard
      split <;> rfl
    split at hr
    · rename_i hk
      cases hv:aInt op k n m with
      | none=>rw [hv] at hr; cases hr
      | some v=>
        rw [hv] at hr
        cases val_inj hr
        have key:∃ uu,(binOp op t (.int k n) (.int k' m)).run Γ.P w=.ok uu w/\Rep w (forb Γ.Mx μ s.H) μ s.H v uu:=by
          cases op <;> simp only [aInt] at hv <;> try (cases hv; done)
          all_goals first
            | (cases hv
               have hkk:k=k':=by simpa using hk
               subst hkk
               exact ⟨_,by simp [binOp,Op.intArith,Op.intCmp]; rfl,by first | exact .int _ _ _ | exact .bool _ _⟩)
            | (cases hv
               have hkk:k=k':=by simpa using hk
               subst hkk
               exact ⟨_,by simp only [binOp,Op.intArith,Op.intCmp]; rfl,by first | exact .int _ _ _ | exact .bool _ _⟩)
            | (split at hv
               · cases hv
               · rename_i hz
                 cases hv
                 have hkk:k=k':=by simpa using hk
                 subst hkk
                 exact ⟨_,by first | (simp [binOp,Op.intDiv,hz]; done) | (simp [binOp,Op.intDiv,hz]; rfl),.int _ _ _⟩)
            | (split at hv
               · cases hv
               · rename_i hz
                 cases hv
                 exact ⟨_,by first | (simp [binOp,Op.shift,hz]; done) | (simp [binOp,Op.shift,hz]; rfl),.int _ _ _⟩)
        obtain ⟨uu,hu1,hu2⟩:=key
        exact simV h hd (x:=uu) (by simp only [execOp,ho,ex,ey,Sem.run_bind,hg,Result.andThen_ok,hu1]; rfl) hu2
    · cases hr
  · rename_i hni
    have main:∀ (i:TI) (b:Bool),TI.of Γ.P t=some i->aEq i X Y=some b->(∀ z,X ≠ .str z)->∀ neg:Bool,op=(if neg then .neq else .eql)->r=⟨.bool (b != neg),[],[],[],none⟩->SimR Γ s μ a w o r:=by
      intro i b hi hb hns neg hop hrr
      obtain ⟨e1,e2⟩:=aEq_run hi hx hy hb hns
      obtain ⟨f1,f2,f3,f4⟩:=aEq_forms hb hx hns
      obtain ⟨g1,g2⟩:=binOp_eql (t:=t) (vy:=a.eval y) f1 f2 f3 f4
      subst hrr
      subst hop
      cases neg
      · exact simV h hd (x:=.bool b) (by simp only [execOp,ho,Bool.false_eq_true,if_false,Sem.run_bind,e2,Result.andThen_ok,g1,e1,Sem.run_pure]) (by cases b <;> exact .bool _ _)
      · exact simV h hd (x:=.bool !b) (by simp only [execOp,ho,if_true,Sem.run_bind,e2,Result.andThen_ok,g2,e1,Sem.run_pure]) (by cases b <;> exact .bool _ _)
    have strs:∀ (i:TI) (b:Bool) (z:ByteArray),X=.str z->aEq i X Y=some b->∀ neg:Bool,op=(if neg then .neq else .eql)->r=⟨.bool (b != neg),[],[],[],none⟩->SimR Γ s μ a w o r:=by
      intro i b z hz hb neg hop hrr
      subst hz
      cases Y <;> simp only [aEq] at hb <;> try (cases hb; done)
      rename_i z'
      cases hb
      have ex:=hx.str_inv
      have ey:=hy.str_inv
      subst hrr
      subst hop
      cases neg
      · exact simV h hd (x:=.bool (z.toList == z'.toList)) (by simp [execOp,ho,ex,ey,eqGuard,binOp,Op.stringOp]) (by cases (z.toList == z'.toList) <;> exact .bool _ _)
      · exact simV h hd (x:=.bool !(z.toList == z'.toList)) (by simp [execOp,ho,ex,ey,eqGuard,binOp,Op.stringOp]) (by cases (z.toList == z'.toList) <;> exact .bool _ _)
    have both':∀ (neg:Bool),op=(if neg then .neq else .eql)->eqO neg X Y (TI.of Γ.P t)=some r->SimR Γ s μ a w o r:=by
      intro neg hop he
      cases hi:TI.of Γ.P t with
      | none=>rw [hi] at he; unfold eqO at he; split at he <;> first | (rename_i hh; cases hh; done) | cases he
      | some i=>
        rw [hi] at he
        by_cases hsl:∃ k L,X=.sl k L/\Y=.nils
        · obtain ⟨k,L,rfl,rfl⟩:=hsl
          simp only [eqO] at he
          split at he
          · rename_i hs
            have hrr:=val_inj he
            subst hrr
            obtain ⟨q,d,h1,h2,_,_,_,_,_,_,_,_,_,_,_,hslc,_,_⟩:=TI.of_some hi
            rw [hslc] at hs
            have hy':=hy.nils_inv
            generalize hvx:a.eval x=vx at hx
            cases hx with
            | sl _ _ _ a' c f hc hm hk hv hrr=>
              obtain ⟨hs,hk0⟩:=hs
              have key:∃ b,(Op.equal t (.slice a' L.length c) (.slice none 0 0)).run Γ.P w=.ok b w/\Rep w (forb Γ.Mx μ s.H) μ s.H (nilB neg L) (.bool (b != neg)):=by
                cases d <;> simp at hs
                cases ha:a' with
                | none=>
                  refine ⟨true,equal_slice h2 9999 _ _ _ _,?_⟩
                  cases L with
                  | nil=>exact .ub _ _
                  | cons z L=>obtain ⟨g,off,hbad,_⟩:=hv 0 0 (by simp) (by omega); rw [ha] at hbad; cases hbad
                | some ad=>
                  refine ⟨false,equal_slice' h2 9999 _ _ _ _ _,?_⟩
                  cases L with
                  | nil=>exact .ub _ _
                  | cons z L=>cases neg <;> exact .bool _ _
              obtain ⟨b,k1,k2⟩:=key
              obtain ⟨g1,g2⟩:=binOp_eql (t:=t) (vx:=.slice a' L.length c) (vy:=a.eval y) (by simp) (by simp) (by simp) (by simp)
              have e2:∀ op p q,(eqGuard op t p q (.slice a' L.length c) (a.eval y)).run Γ.P w=.ok () w:=fun op p q=>by cases op <;> rfl
              rw [<-hy'] at k1
              subst hop
              cases neg
              · exact simV h hd (x:=.bool (b != false)) (by cases b <;> simp only [execOp,ho,hvx,Bool.false_eq_true,if_false,Sem.run_bind,e2,Result.andThen_ok,g1,k1,Sem.run_pure] <;> rfl) k2
              · exact simV h hd (x:=.bool (b != true)) (by cases b <;> simp only [execOp,ho,hvx,if_true,Sem.run_bind,e2,Result.andThen_ok,g2,k1,Sem.run_pure] <;> rfl) k2
          · cases he
        have he:optB neg (aEq i X Y)=some r:=by
          revert he
          unfold eqO
          split
          · intro _; exact absurd ⟨_,_,rfl,rfl⟩ hsl
          · rename_i h1 h2; cases h2; exact fun h=>h
          · rename_i h2; cases h2
        cases hb:aEq i X Y with
        | none=>rw [hb] at he; cases he
        | some b=>
          rw [hb] at he
          have hrr:=val_inj he
          by_cases hz:∃ z,X=.str z
          · obtain ⟨z,hz⟩:=hz; exact strs i b z hz hb neg hop hrr
          · exact main i b hi hb (fun z hz'=>hz ⟨z,hz'⟩) neg hop hrr
    split at hr
    · exact both' false rfl hr
    · exact both' true rfl hr
    · cases hr
end
section
variable {Γ:Ctx} {s:St} {μ:Lay} {a:Act} {w:World} {o:Oper}
theorem simF (h:Rel Γ s μ a w) (hd:∀ t,o.dst=some t->t < Γ.n) {v:AV} {x:Value} {fp:List Bid} (hrun:(execOp a.eval o).run Γ.P w=.ok (.value x) w) (hv:Rep w (forb Γ.Mx μ s.H) μ s.H v x) {r:R} (hr:(some ⟨v,[],[],fp,none⟩:Option R)=some r):SimR Γ s μ a w o r:=by
 cases hr
 exact simV h hd hrun hv
theorem addO_rep (h:Rel Γ s μ a w) {x:AV} {v:Value} (hx:Rep w (forb Γ.Mx μ s.H) μ s.H x v) {n:Nat} {r:R} (hr:addO s.H n x=some r) :
  ∃ g p y fp,v=.pointer (some ⟨g,p,none⟩)/\r=⟨y,[],[],fp,none⟩/\Rep w (forb Γ.Mx μ s.H) μ s.H y (.pointer (some ⟨g,p + n,none⟩)):=by
 cases hx with
 | ref _ b o cs g c hH hμ=>
  cases val_inj hr
  exact ⟨_,_,_,_,rfl,rfl,.ref _ _ _ _ _ c hH hμ⟩
 | eref _ b i o e sz L z g c hH hμ hi=>
  simp only [addO] at hr
  split at hr
  ·
   cases hr
   refine ⟨_,_,_,_,rfl,rfl,?_⟩
   rw [Nat.add_assoc]
   exact .eref _ _ _ _ _ _ _ _ _ c hH hμ hi
  · cases hr
 | erefd _ b i o v hH _=>
  simp only [addO,hH,isRow] at hr
  simp at hr
 | iref _ cs o g off f hv hrr=>
  cases val_inj hr
  refine ⟨_,_,_,_,rfl,rfl,?_⟩
  rw [Nat.add_assoc]
  exact .iref _ _ _ _ _ f hv hrr
 | _=>simp only [addO] at hr; cases hr
theorem field_info {P:Program} {t:TypeId} {i:TI} (hT:TI.of P t=some i) {f:Nat} {fd:Nat × Nat × Bool} (hf:i.fields[f]?=some fd) :
  ∃ fs F q d,P.underlying t=some (.struct fs)/\fs[f]?=some F/\fd.1=F.offset/\P.info? F.type=some q/\fd.2.1=q.size/\P.underlying F.type=some d/\fd.2.2=isAggD d:=by
 obtain ⟨q,d,h1,h2,hok,_,_,_,hfl,_⟩:=TI.of_some hT
 rw [hfl] at hf
 obtain ⟨fs,rfl⟩:∃ fs,d=.struct fs:=by cases d <;> simp [fieldsD] at hf <;> exact ⟨_,rfl⟩
 simp only [fieldsD] at hf
 simp only [List.getElem?_map,Option.map_eq_some_iff] at hf
 obtain ⟨F,hF,rfl⟩:=hf
 have hF':fs[f]?=some F:=by simpa using hF
 have hmem:F ∈ fs.toList:=List.mem_of_getElem? hF
 simp only [okD,List.all_eq_true,Bool.and_eq_true] at hok
 obtain ⟨o1,o2⟩:=hok F hmem
 obtain ⟨q',hq'⟩:=Option.isSome_iff_exists.1 o1
 obtain ⟨d',hd'⟩:=Option.isSome_iff_exists.1 o2
 exact ⟨fs,F,q',d',h2,hF',rfl,hq',cellsOf_eq hq',hd',by simp [aggT,hd']⟩
theorem sim_fieldAddr (h:Rel Γ s μ a w) (hd:∀ t,o.dst=some t->t < Γ.n) {x:Operand} {t:TypeId} {f:Nat} (ho:o.op=.fieldAddr t x f) {r:R} (hr:vFieldAddr s.H (TI.of Γ.P t) (eva s.t x) f=some r):SimR Γ s μ a w o r:=by
 have hx:=eva_rep h x
 cases hT:TI.of Γ.P t with
 | none=>rw [hT] at hr; cases hr
 | some i=>
  rw [hT] at hr
  simp only [vFieldAddr] at hr
  cases hf:i.fields[f]? with
  | none=>rw [hf] at hr; cases hr
  | some fd=>
   rw [hf] at hr
   simp only [fieldO] at hr
   split at hr
   · cases hr
   ·
    rename_i hz
    obtain ⟨fs,F,q,d,e1,e2,e3,e4,e5,e6,e7⟩:=field_info hT hf
    obtain ⟨g,p,y,fp,q1,rfl,q3⟩:=addO_rep h hx hr
    refine simV h hd (x:=.pointer (some ⟨g,p + fd.1,none⟩)) ?_ q3
    have hsz:¬ q.size=0:=by rw [<-e5]; exact hz
    simp only [execOp,ho,q1,Instr.fieldAt,Sem.run_bind,run_underlying e1,Result.andThen_ok,e2,Instr.sureAddr,Sem.run_pure,fieldPlace,run_sizeOf' e4,hsz,if_false,Addr.add_lit,e3]
theorem elem_info {P:Program} {t:TypeId} {i:TI} (hT:TI.of P t=some i) (ha:i.arr=true\/i.slc=true) :
  ∃ e q d,((i.arr=true/\P.underlying t=some (.array i.len e))\/(i.slc=true/\P.underlying t=some (.slice e)))/\P.info? e=some q/\i.esize=q.size/\P.underlying e=some d/\i.etype=e/\i.ebytes=q.bytes:=by
 obtain ⟨q,d,h1,h2,hok,_,_,_,_,hlen,hes,het,heb,_,harr,hslc,_⟩:=TI.of_some hT
 cases d with
 | slice e=>
  simp only [okD,Bool.and_eq_true] at hok
  obtain ⟨q',hq'⟩:=Option.isSome_iff_exists.1 hok.1
  obtain ⟨d',hd'⟩:=Option.isSome_iff_exists.1 hok.2
  exact ⟨e,q',d',.inr ⟨hslc,h2⟩,hq',by rw [hes]; simp [elemD,cellsOf_eq hq'],hd',by rw [het]; rfl,by rw [heb]; simp [elemD,hq']⟩
 | array n e=>
  simp only [okD,Bool.and_eq_true] at hok
  obtain ⟨q',hq'⟩:=Option.isSome_iff_exists.1 hok.1
  obtain ⟨d',hd'⟩:=Option.isSome_iff_exists.1 hok.2
  simp only at hlen
  exact ⟨e,q',d',.inl ⟨harr,by rw [hlen]; exact h2⟩,hq',by rw [hes]; simp [elemD,cellsOf_eq hq'],hd',by rw [het]; rfl,by rw [heb]; simp [elemD,hq']⟩
 | _=>simp only at harr hslc; rw [harr,hslc] at ha; simp at ha
theorem slice_info {P:Program} {t:TypeId} {i:TI} (hT:TI.of P t=some i) (hs:i.slc=true) :
  ∃ e q d,P.underlying t=some (.slice e)/\P.info? e=some q/\i.esize=q.size/\P.underlying e=some d/\i.etype=e/\i.ebytes=q.bytes:=by
 obtain ⟨e,q,d,hu,hr⟩:=elem_info hT (.inr hs)
 rcases hu with ⟨ha,hu⟩ | ⟨_,hu⟩
 ·
  obtain ⟨q',d',_,h2,_,_,_,_,_,_,_,_,_,_,harr,hslc,_⟩:=TI.of_some hT
  rw [hu] at h2; cases h2; simp only at hslc; rw [hslc] at hs; cases hs
 · exact ⟨e,q,d,hu,hr⟩
theorem array_info {P:Program} {t:TypeId} {i:TI} (hT:TI.of P t=some i) (hs:i.arr=true) :
  ∃ e q d,P.underlying t=some (.array i.len e)/\P.info? e=some q/\i.esize=q.size/\P.underlying e=some d/\i.etype=e/\i.ebytes=q.bytes:=by
 obtain ⟨e,q,d,hu,hr⟩:=elem_info hT (.inl hs)
 rcases hu with ⟨ha,hu⟩ | ⟨_,hu⟩
 · exact ⟨e,q,d,hu,hr⟩
 ·
  obtain ⟨q',d',_,h2,_,_,_,_,_,_,_,_,_,_,harr,hslc,_⟩:=TI.of_some hT
  rw [hu] at h2; cases h2; simp only at harr; rw [harr] at hs; cases hs
theorem sim_indexAddr (h:Rel Γ s μ a w) (hd:∀ t,o.dst=some t->t < Γ.n) {x ix:Operand} {t:TypeId} (ho:o.op=.indexAddr t x ix) {r:R} (hr:vIndexAddr s.H (TI.of Γ.P t) (eva s.t x) (eva s.t ix)=some r):SimR Γ s μ a w o r:=by
 have hx:=eva_rep h x
 have hi:=eva_rep h ix
 generalize eva s.t x=X at hr hx
 generalize eva s.t ix=I at hr hi
 generalize hT:TI.of Γ.P t=T at hr
 unfold vIndexAddr at hr
 split at hr
 ·
  rename_i i k L kk n
  split at hr
  ·
   rename_i hc
   obtain ⟨hk,hk0,hs,hn⟩:=hc
   cases hL:L[n.toNat]? with
   | none=>rw [hL] at hr; cases hr
   | some cs=>
    rw [hL] at hr
    simp only [irefO] at hr
    cases val_inj hr
    have hlt:=(List.getElem?_eq_some_iff.1 hL).1
    obtain ⟨e,q,d,hu',hq,hes,_⟩:=slice_info hT hs
    generalize hval:a.eval x=y at hx
    have ei:=hi.int_inv
    cases hx with
    | sl _ _ _ a' c f hcc hm hkk hv hrr=>
     have hcs:cs.length=k:=hkk cs (List.mem_of_getElem? hL)
     obtain ⟨g,off,rfl,_⟩:=hv n.toNat 0 hlt (by omega)
     refine simV h hd (x:=.pointer (some ⟨g,off + n.toNat * k + 0,none⟩)) ?_ (.iref _ _ _ _ _ (f n.toNat) (fun j hj=>?_) (fun j x hj=>hrr _ _ _ _ hL hj))
     ·
      have hnl:n < (L.length:Int):=by omega
      have hk':k=q.size:=hk.trans hes
      simp only [execOp,ho,hval,ei,Instr.indexAt,asIntOf,Sem.run_bind,Sem.run_pure,Result.andThen_ok,run_underlying hu',Sem.run_ite,hn,hnl,and_self,if_true,run_sizeOf' hq,Addr.add_lit,Nat.add_zero,hk']
     ·
      obtain ⟨g',off',e1,e2,e3,e4⟩:=hv n.toNat j hlt (by omega)
      cases e1
      exact ⟨_,_,rfl,e2,by rw [Nat.add_assoc]; exact e3,e4⟩
  · cases hr
 ·
  rename_i i b m kk n
  split at hr
  ·
   rename_i hc
   obtain ⟨hs,hn,hnm,hrow⟩:=hc
   obtain ⟨e,q,d,hu',hq,hes,_⟩:=slice_info hT hs
   generalize hval:a.eval x=y at hx
   have ei:=hi.int_inv
   cases hx with
   | own _ _ _ e' sz L z hH hnn=>
    rw [hH] at hrow
    simp only [erow,beq_iff_eq] at hrow
    rcases h.hb b _ hH with hb | ⟨g,c,cur,e1,q1,q2,q3⟩ | ⟨q1,e1,sz1,z1,q2,q3⟩
    · cases hb
    ·
     refine simF h hd (x:=.pointer (some ⟨g,n.toNat * sz + 0,none⟩)) ?_ (.eref _ _ _ _ _ _ _ _ _ _ hH q1 (by omega)) hr
     rw [q1] at hval
     have hk':sz=q.size:=hrow.trans hes
     simp only [execOp,ho,hval,ei,sliceV,Instr.indexAt,asIntOf,Sem.run_bind,Sem.run_pure,Result.andThen_ok,run_underlying hu',Sem.run_ite,hn,hnm,and_self,if_true,run_sizeOf' hq,Addr.add_lit,Nat.add_zero,Nat.zero_add,hk']
    ·
     cases q2
     simp at hnn
     omega
   | ownd _ _ _ _ hH _=>
    rw [hH] at hrow
    simp [erow] at hrow
  · cases hr
 ·
  rename_i i b l m kk n
  split at hr
  ·
   rename_i hc
   obtain ⟨hs,hn,hnm,hrow⟩:=hc
   obtain ⟨e,q,d,hu',hq,hes,_⟩:=slice_info hT hs
   generalize hval:a.eval x=y at hx
   have ei:=hi.int_inv
   cases hx with
   | ows _ _ _ _ e' sz L z ad cp hH hnn hcp hv=>
    rw [hH] at hrow
    simp only [erow,beq_iff_eq] at hrow
    obtain ⟨g,c,q1,rfl⟩:=hv (by omega)
    refine simF h hd (x:=.pointer (some ⟨g,(l + n.toNat) * sz + 0,none⟩)) ?_ (.eref _ _ _ _ _ _ _ _ _ _ hH q1 (by omega)) hr
    have hk':sz=q.size:=hrow.trans hes
    simp only [execOp,ho,hval,ei,Instr.indexAt,asIntOf,Sem.run_bind,Sem.run_pure,Result.andThen_ok,run_underlying hu',Sem.run_ite,hn,hnm,and_self,if_true,run_sizeOf' hq,Addr.add_lit,Nat.add_zero,hk',Nat.add_mul]
   | owsd _ _ _ _ _ hH _=>
    rw [hH] at hrow
    simp [erow] at hrow
  · cases hr
 ·
  rename_i i kk n hn1 hn2 hn3
  split at hr
  ·
   rename_i hc
   obtain ⟨hs,hn,hnl⟩:=hc
   obtain ⟨e,q,d,hu',hq,hes,_⟩:=array_info hT hs
   have ei:=hi.int_inv
   obtain ⟨g,p,y,fp,q1,rfl,q3⟩:=addO_rep h hx hr
   refine simV h hd (x:=.pointer (some ⟨g,p + n.toNat * i.esize,none⟩)) ?_ q3
   simp only [execOp,ho,q1,ei,Instr.indexAt,asIntOf,Instr.sureAddr,Sem.run_bind,Sem.run_pure,Result.andThen_ok,run_underlying hu',Sem.run_ite,hn,hnl,and_self,if_true,run_sizeOf' hq,Addr.add_lit,hes]
  · cases hr
 · cases hr
theorem run_loadV {P:Program} {t:TypeId} {d:TypeDesc} {q:TypeInfo} (hu:P.underlying t=some d) (hq:P.info? t=some q) {g p:Nat} {f:Nat->Value} (hf:∀ j,j < (if isAggD d then q.size else 1)->w.cell? ⟨g,p + j,none⟩=some (f j)) :
  (loadVar t ⟨g,p,none⟩).run P w=.ok (if isAggD d then .agg ((List.range q.size).map f).toArray else f 0) w:=by
 simp only [loadVar,Sem.run_bind,run_isAgg' hu,Result.andThen_ok]
 cases hA:isAggD d
 ·
  have:=hf 0 (by simp [hA])
  simp only [Bool.false_eq_true,if_false,run_load]
  rw [Nat.add_zero] at this
  rw [this]
 ·
  simp only [if_true,Sem.run_bind,run_sizeOf' hq,Result.andThen_ok]
  have:=run_loadCells_list (P:=P) w ⟨g,p,none⟩ ((List.range q.size).map f) (fun j v hv=>by
   simp only [List.getElem?_map,Option.map_eq_some_iff] at hv
   obtain ⟨j',hj,rfl⟩:=hv
   have hlt:=(List.getElem?_eq_some_iff.1 hj).1
   simp at hlt
   have:j'=j:=by simpa [hlt] using hj.symm
   subst this
   rw [Addr.add_lit]
   exact hf _ (by simpa [hA] using hlt))
  simp only [List.length_map,List.length_range] at this
  rw [this]
  rfl
theorem ld_rep {P:Program} {t:TypeId} {i:TI} (hT:TI.of P t=some i) {M H} {cs:List AV} {o:Nat} {v:AV} (hv:ld i cs o=some v) {g off:Nat} {f:Nat->Value}
  (hc:∀ j,j < cs.length->w.cell? ⟨g,off + j,none⟩=some (f j)/\(f j).oneCell'=true) (hr:∀ j x,cs[j]?=some x->Rep w M μ H x (f j)) :
  ∃ x,(loadVar t ⟨g,off + o,none⟩).run P w=.ok x w/\Rep w M μ H v x:=by
 obtain ⟨q,d,h1,h2,_,hsz,hagg,_⟩:=TI.of_some hT
 unfold ld at hv
 rw [hagg,hsz] at hv
 cases hA:isAggD d
 ·
  rw [hA] at hv
  simp only [Bool.false_eq_true,if_false] at hv
  have hl:=(List.getElem?_eq_some_iff.1 hv).1
  refine ⟨f o,?_,hr o v hv⟩
  have:=run_loadV (P:=P) (w:=w) h2 h1 (g:=g) (p:=off + o) (f:=fun j=>f (o + j)) (fun j hj=>by
   simp [hA] at hj
   subst hj
   exact (hc o hl).1)
  rw [this,hA]
  simp
 ·
  rw [hA] at hv
  simp only [if_true] at hv
  split at hv
  ·
   rename_i hl
   cases hv
   refine ⟨.agg ((List.range q.size).map fun j=>f (o + j)).toArray,?_,?_⟩
   ·
    have:=run_loadV (P:=P) (w:=w) h2 h1 (g:=g) (p:=off + o) (f:=fun j=>f (o + j)) (fun j hj=>by
     simp [hA] at hj
     rw [Nat.add_assoc]
     exact (hc (o + j) (by omega)).1)
    rw [this,hA]
    simp
   ·
    refine .agg _ _ _ (fun j=>f (o + j)) (by simp; omega) ?_ ?_
    ·
     intro j hj
     have hjq:j < q.size:=by rw [List.length_take] at hj; exact Nat.lt_of_lt_of_le hj (Nat.min_le_left _ _)
     refine ⟨by simp [hjq],(hc (o + j) (by omega)).2⟩
    ·
     intro j c hj
     rw [List.getElem?_take] at hj
     split at hj
     ·
      rw [List.getElem?_drop] at hj
      exact hr _ _ hj
     · cases hj
  · cases hv
end
section
variable {Γ:Ctx} {s:St} {μ:Lay} {a:Act} {w:World} {o:Oper}
theorem box_obj (h:Rel Γ s μ a w) {b:Bid} {cs:List AV} (hb:s.H b=some (.obj cs)) {g c:Nat} (hg:μ b=some (g,c)) :
  ∃ (cur:Array Value) (e:TypeId),w.heap[g]?=some (.cells cur e (0,0))/\(c<=cur.size/\cs.length<=cur.size)/\∀ (i:Nat) (x:AV),cs[i]?=some x->∃ v:Value,cur[i]?=some v/\v.oneCell'=true/\Rep w (forb Γ.Mx μ s.H) μ s.H x v:=by
 rcases h.hb b _ hb with q | ⟨g',c',cur,e,q1,q2,q3⟩ | ⟨q1,e1,sz1,z1,q2,q3⟩
 · cases q
 · rw [hg] at q1; cases q1; exact ⟨cur,e,q2,q3.1,q3.2⟩
 · cases q2
theorem box_row (h:Rel Γ s μ a w) {b:Bid} {e:TypeId} {sz:Nat} {L:List (List AV)} {z:Bool} (hb:s.H b=some (.row e sz L z)) {g c:Nat} (hg:μ b=some (g,c)) :
  ∃ (cur:Array Value),w.heap[g]?=some (.cells cur e (0,0))/\0 < sz/\(∀ x ∈ L,x.length=sz)/\cur.size=c * sz/\L.length<=c/\c<=maxLen /\
   ∀ (i j:Nat) (xs:List AV) (x:AV),L[i]?=some xs->xs[j]?=some x->∃ v:Value,cur[i * sz + j]?=some v/\v.oneCell'=true/\Rep w (forb Γ.Mx μ s.H) μ noH x v:=by
 rcases h.hb b _ hb with q | ⟨g',c',cur,e,q1,q2,q3⟩ | ⟨q1,e1,sz1,z1,q2,q3⟩
 · cases q
 ·
  rw [hg] at q1; cases q1
  obtain ⟨rfl,r⟩:=q3
  exact ⟨cur,q2,r⟩
 · rw [hg] at q1; cases q1
theorem cell_heap {g o:Nat} {cur:Array Value} {e:TypeId} (h:w.heap[g]?=some (.cells cur e (0,0))):w.cell? ⟨g,o,none⟩=cur[o]?:=by
 simp [World.cell?,h]
theorem sim_load (h:Rel Γ s μ a w) (hd:∀ t,o.dst=some t->t < Γ.n) {x:Operand} {t:TypeId} (ho:o.op=.load t x) {r:R} (hr:vLoad s.H (TI.of Γ.P t) (eva s.t x)=some r):SimR Γ s μ a w o r:=by
 have hx:=eva_rep h x
 generalize eva s.t x=X at hr hx
 cases hT:TI.of Γ.P t with
 | none=>rw [hT] at hr; simp [vLoad] at hr
 | some i=>
  rw [hT] at hr
  generalize hval:a.eval x=y at hx
  have fin:∀ (g p:Nat) (v:AV) (uu:Value) (fp:List Bid),y=.pointer (some ⟨g,p,none⟩)->(loadVar t ⟨g,p,none⟩).run Γ.P w=.ok uu w->Rep w (forb Γ.Mx μ s.H) μ s.H v uu->(some ⟨v,[],[],fp,none⟩:Option R)=some r->SimR Γ s μ a w o r:=by
   intro g p v uu fp hy hl hv hrr
   refine simF h hd ?_ hv hrr
   subst hy
   simp only [execOp,ho,hval,Instr.loadAt,Instr.sureAddr,Sem.run_bind,Sem.run_pure,Result.andThen_ok,hl]
  cases hx with
  | ref _ b p cs g c hH hμ=>
   simp only [vLoad,loadB,hH,Option.map_eq_some_iff] at hr
   obtain ⟨v,hv,hr⟩:=hr
   obtain ⟨cur,e,q1,q2,q3⟩:=box_obj h hH hμ
   obtain ⟨uu,hu1,hu2⟩:=ld_rep (w:=w) (μ:=μ) (M:=forb Γ.Mx μ s.H) (H:=s.H) hT hv (g:=g) (off:=0) (f:=fun j=>(cur[j]?).getD undef) (fun j hj=>by
    obtain ⟨v',r1,r2,_⟩:=q3 j cs[j] (List.getElem?_eq_getElem hj)
    rw [Nat.zero_add,cell_heap q1,r1]
    exact ⟨rfl,r2⟩) (fun j x hx=>by
    obtain ⟨v',r1,_,r3⟩:=q3 j x hx
    rw [r1]
    exact r3)
   rw [Nat.zero_add] at hu1
   exact fin g p v uu _ rfl hu1 hu2 (by rw [hr])
  | iref _ cs p g off f hv hrr=>
   simp only [vLoad] at hr
   cases hld:ld i cs p with
   | none=>rw [hld] at hr; cases hr
   | some v=>
    rw [hld] at hr
    obtain ⟨uu,hu1,hu2⟩:=ld_rep (w:=w) (μ:=μ) (M:=forb Γ.Mx μ s.H) (H:=s.H) hT hld (g:=g) (off:=off) (f:=f) (fun j hj=>by
     obtain ⟨g',off',e1,e2,e3,e4⟩:=hv j hj
     cases e1
     exact ⟨e3,e4⟩) (fun j x hx=>(hrr j x hx).ofNo)
    exact fin g (off + p) v uu [] rfl hu1 hu2 hr
  | eref _ b k p e sz L z g c hH hμ hi=>
   simp only [vLoad,hH,nthRow] at hr
   cases hL:L[k]? with
   | none=>rw [hL] at hr; cases hr
   | some cs=>
    rw [hL] at hr
    simp only [loadE,Option.map_eq_some_iff] at hr
    obtain ⟨v,hv,hr⟩:=hr
    obtain ⟨cur,q1,q2,q3,q4,q5,q6,q7⟩:=box_row h hH hμ
    obtain ⟨uu,hu1,hu2⟩:=ld_rep (w:=w) (μ:=μ) (M:=forb Γ.Mx μ s.H) (H:=s.H) hT hv (g:=g) (off:=k * sz) (f:=fun j=>(cur[k * sz + j]?).getD undef) (fun j hj=>by
     obtain ⟨v',r1,r2,_⟩:=q7 k j cs cs[j] hL (List.getElem?_eq_getElem hj)
     rw [cell_heap q1,r1]
     exact ⟨rfl,r2⟩) (fun j x hx=>by
     obtain ⟨v',r1,_,r3⟩:=q7 k j cs x hL hx
     rw [r1]
     exact r3.ofNo)
    exact fin g _ v uu _ rfl hu1 hu2 (by rw [hr])
  | erefd _ b k p v hH _=>simp [vLoad,hH,nthRow,loadE] at hr
  | _=>simp only [vLoad] at hr; cases hr
theorem part_rep {P:Program} {t:TypeId} {q:TypeInfo} {d:TypeDesc} (hq:P.info? t=some q) (hu:P.underlying t=some d) {M H} {cs:List AV} {o:Nat} {v:AV} {vs:Array Value}
  (hx:Rep w M μ H (.agg cs) (.agg vs)) (hv:(if isAggD d then (if o + q.size<=cs.length then some (AV.agg ((cs.drop o).take q.size)) else none) else cs[o]?)=some v):∃ x,(part t vs o).run P w=.ok x w/\Rep w M μ H v x:=by
 cases hx with
 | agg _ _ _ f hs hvv hr=>
  simp only [part,Sem.run_bind,run_isAgg' hu,Result.andThen_ok]
  cases hA:isAggD d
  ·
   rw [hA] at hv
   simp only [Bool.false_eq_true,if_false] at hv ⊢
   have hl:=(List.getElem?_eq_some_iff.1 hv).1
   rw [(hvv o hl).1]
   exact ⟨f o,rfl,hr o v hv⟩
  ·
   rw [hA] at hv
   simp only [if_true] at hv ⊢
   split at hv
   ·
    rename_i hl
    cases hv
    refine ⟨.agg (vs.extract o (o + q.size)),by simp only [Sem.run_bind,run_sizeOf' hq,Result.andThen_ok,Sem.run_pure],.agg _ _ _ (fun j=>f (o + j)) (by simp; omega) ?_ ?_⟩
    ·
     intro j hj
     have hjq:j < q.size:=by rw [List.length_take] at hj; exact Nat.lt_of_lt_of_le hj (Nat.min_le_left _ _)
     refine ⟨?_,(hvv (o + j) (by omega)).2⟩
     rw [Array.getElem?_extract,if_pos (by omega)]
     exact (hvv (o + j) (by omega)).1
    ·
     intro j c hj
     rw [List.getElem?_take] at hj
     split at hj
     ·
      rw [List.getElem?_drop] at hj
      exact hr _ _ hj
     · cases hj
   · cases hv
theorem sim_field (h:Rel Γ s μ a w) (hd:∀ t,o.dst=some t->t < Γ.n) {x:Operand} {t:TypeId} {f:Nat} (ho:o.op=.field t x f) {r:R} (hr:vField (TI.of Γ.P t) (eva s.t x) f=some r):SimR Γ s μ a w o r:=by
 have hx:=eva_rep h x
 generalize eva s.t x=X at hr hx
 cases hT:TI.of Γ.P t with
 | none=>rw [hT] at hr; simp [vField] at hr
 | some i=>
  rw [hT] at hr
  cases X <;> simp only [vField] at hr <;> try (cases hr; done)
  rename_i cs
  cases hf:i.fields[f]? with
  | none=>rw [hf] at hr; cases hr
  | some fd=>
   rw [hf] at hr
   obtain ⟨fs,F,q,d,e1,e2,e3,e4,e5,e6,e7⟩:=field_info hT hf
   generalize hval:a.eval x=y at hx
   have hx':=hx
   cases hx with
   | agg _ _ vs f' hs hvv hrr=>
    have hv:∃ v,(if isAggD d then (if F.offset + q.size<=cs.length then some (AV.agg ((cs.drop F.offset).take q.size)) else none) else cs[F.offset]?)=some v/\(some ⟨v,[],[],[],none⟩:Option R)=some r:=by
     simp only [fieldV,e3,e5,e7] at hr
     cases hA:isAggD d <;> rw [hA] at hr
     ·
      simp only [Bool.false_eq_true,if_false] at hr ⊢
      cases hc:cs[F.offset]? with
      | none=>rw [hc] at hr; cases hr
      | some v=>rw [hc] at hr; exact ⟨v,rfl,hr⟩
     ·
      simp only [if_true] at hr ⊢
      split at hr
      · rename_i hl; rw [if_pos hl]; exact ⟨_,rfl,hr⟩
      · cases hr
    obtain ⟨v,hv,hr⟩:=hv
    obtain ⟨uu,hu1,hu2⟩:=part_rep (w:=w) e4 e6 hx' hv
    exact simF h hd (by simp only [execOp,ho,hval,Instr.field,Sem.run_bind,run_underlying e1,Result.andThen_ok,e2,asAgg,Sem.run_pure,hu1]) hu2 hr
theorem sim_index (h:Rel Γ s μ a w) (hd:∀ t,o.dst=some t->t < Γ.n) {x ix:Operand} {t:TypeId} (ho:o.op=.index t x ix) {r:R} (hr:vIndex (TI.of Γ.P t) ((TI.of Γ.P t).bind fun i=>TI.of Γ.P i.etype) (eva s.t x) (eva s.t ix)=some r):SimR Γ s μ a w o r:=by
 have hx:=eva_rep h x
 have hi:=eva_rep h ix
 generalize eva s.t x=X at hr hx
 generalize eva s.t ix=I at hr hi
 cases hT:TI.of Γ.P t with
 | none=>rw [hT] at hr; simp [vIndex] at hr
 | some i=>
  rw [hT] at hr
  simp only [Option.bind_some] at hr
  cases hE:TI.of Γ.P i.etype with
  | none=>rw [hE] at hr; simp [vIndex] at hr
  | some e'=>
   rw [hE] at hr
   cases X <;> try (cases hr; done)
   rename_i cs
   cases I <;> try (cases hr; done)
   rename_i kk n
   simp only [vIndex] at hr
   split at hr
   ·
    rename_i hc
    obtain ⟨ha,h0,hn,hg⟩:=hc
    obtain ⟨e,q,d,hu',hq,hes,hd',het,_⟩:=array_info hT ha
    obtain ⟨q2,d2,k1,k2,_,_,k3,_⟩:=TI.of_some hE
    rw [het] at k1 k2
    rw [hd'] at k2
    cases k2
    rw [hg] at k3
    generalize hval:a.eval x=y at hx
    have ei:=hi.int_inv
    have hx':=hx
    cases hx with
    | agg _ _ vs f' hs hvv hrr=>
     cases hcs:cs[n.toNat * i.esize]? with
     | none=>rw [hcs] at hr; cases hr
     | some v=>
      rw [hcs] at hr
      obtain ⟨uu,hu1,hu2⟩:=part_rep (w:=w) (o:=n.toNat * q.size) (v:=v) hq hd' hx' (by rw [<-k3]; simp only [Bool.false_eq_true,if_false]; rw [<-hes]; exact hcs)
      exact simF h hd (by simp only [execOp,ho,hval,ei,Instr.index,asIntOf,Sem.run_bind,Sem.run_pure,Result.andThen_ok,run_underlying hu',Sem.run_ite,h0,hn,and_self,if_true,run_sizeOf' hq,hu1]) hu2 hr
   · cases hr
end
section
variable {Γ:Ctx} {s:St} {μ:Lay} {a:Act} {w:World} {o:Oper}
theorem cells_rep {M H} {v:AV} {x:Value} (h:Rep w M μ H v x) {cs:List AV} (hc:cells v=some cs) :
  x.cells.size=cs.length/\∀ (i:Nat) (c:AV),cs[i]?=some c->∃ y,x.cells[i]?=some y/\y.oneCell'=true/\Rep w M μ H c y:=by
 have one:x.oneCell'=true->cs=[v]->x.cells.size=cs.length/\∀ (i:Nat) (c:AV),cs[i]?=some c->∃ y,x.cells[i]?=some y/\y.oneCell'=true/\Rep w M μ H c y:=by
  intro h1 hcs
  subst hcs
  have hxc:x.cells=#[x]:=by cases x <;> first | rfl | simp [Value.oneCell'] at h1
  rw [hxc]
  refine ⟨rfl,fun i c hi=>?_⟩
  match i,hi with
  | 0,hi=>cases hi; exact ⟨x,rfl,h1,h⟩
 have h':=h
 cases h with
 | u _ _=>cases hc
 | tup _ _ vs g hs hv hr=>cases hc
 | yl _ _=>cases hc
 | agg _ _ vs f hs hv hr=>
  cases hc
  refine ⟨hs,fun i c hi=>?_⟩
  have hl:=(List.getElem?_eq_some_iff.1 hi).1
  exact ⟨f i,(hv i hl).1,(hv i hl).2,hr i c hi⟩
 | own _ b n e sz L z hH hn=>cases hc; exact one (by cases hq:μ b <;> rfl) rfl
 | ownd _ b n v hH h1=>cases hc; exact one h1 rfl
 | owsd _ b l n v hH h1=>cases hc; exact one h1 rfl
 | erefd _ b i o v hH h1=>cases hc; exact one h1 rfl
 | _=>cases hc; exact one rfl rfl
theorem sim_box (h:Rel Γ s μ a w) (hd:∀ t,o.dst=some t->t < Γ.n) {x:Operand} {t:TypeId} (ho:o.op=.box t x) {r:R} (hr:vBox (nid o.dst) (cells (eva s.t x))=some r):SimR Γ s μ a w o r:=by
 have hx:=eva_rep h x
 cases hc:cells (eva s.t x) with
 | none=>rw [hc] at hr; cases hr
 | some cs=>
  rw [hc] at hr
  cases hr
  obtain ⟨c1,c2⟩:=cells_rep hx hc
  intro H1 hH K Q hK _
  simp only [hnews] at hH
  split at hH
  ·
   rename_i hn
   cases hH
   have hn':s.H (nid o.dst)=none:=by simpa using hn
   refine wp_value (x:=.pointer (some ⟨w.heap.size,0,none⟩)) (w':=w.alloc (.cells (a.eval x).cells t)) (by simp [execOp,ho,Instr.box,newVar,newRow]) (hK rfl _ _ _ ((h.newbox hn' rfl ((Below.refl _ _).alloc (Nat.le_refl _) _) (NF.alloc _ _ _) (Nat.le_refl _) (heap_alloc_new w _) (c:=0) (x:=.obj cs) ?_).put hd (.ref _ _ _ cs _ 0 (by simp [hput]) (by simp [lput]))))
   intro M μ' H' hM hle hμ'
   refine ⟨⟨Nat.zero_le _,Nat.le_of_eq c1.symm⟩,fun i c hi=>?_⟩
   obtain ⟨y,y1,y2,y3⟩:=c2 i c hi
   exact ⟨y,y1,y2,y3.mono (fun g hg hf=>⟨hM g (by simp; omega) (by omega) hf,heap_alloc_old w _ hg⟩) hle hμ'⟩
  · cases hH
def ArrRep (w:World) (M:Nat->Prop) (μ:Lay) (H:Heap) (A:Array Value) (cs:List AV):Prop:=
 A.size=cs.length/\∀ (i:Nat) (c:AV),cs[i]?=some c->∃ y,A[i]?=some y/\y.oneCell'=true/\Rep w M μ H c y
theorem Rel.newobj (h:Rel Γ s μ a w) (hd:∀ t,o.dst=some t->t < Γ.n) (hn:s.H (nid o.dst)=none) {A:Array Value} {cs:List AV} (hA:ArrRep w (forb Γ.Mx μ s.H) μ s.H A cs) (t:TypeId) :
  Rel Γ ⟨tput s.t o.dst (.ref (nid o.dst) 0),hput s.H (nid o.dst) (.obj cs)⟩ (lput μ (nid o.dst) (some (w.heap.size,0))) (a.put o.dst (.pointer (some ⟨w.heap.size,0,none⟩))) (w.alloc (.cells A t)):=by
 refine (h.newbox hn rfl ((Below.refl _ _).alloc (Nat.le_refl _) _) (NF.alloc _ _ _) (Nat.le_refl _) (heap_alloc_new w _) (c:=0) (x:=.obj cs) ?_).put hd (.ref _ _ _ cs _ 0 (by simp [hput]) (by simp [lput]))
 intro M μ' H' hM hle hμ'
 refine ⟨⟨Nat.zero_le _,Nat.le_of_eq hA.1.symm⟩,fun i c hi=>?_⟩
 obtain ⟨y,y1,y2,y3⟩:=hA.2 i c hi
 exact ⟨y,y1,y2,y3.mono (fun g hg hf=>⟨hM g (by simp; omega) (by omega) hf,heap_alloc_old w _ hg⟩) hle hμ'⟩
theorem zero_rep {P:Program} {t:TypeId} {i:TI} (hT:TI.of P t=some i) (hz:¬ i.zero.isEmpty=true) {M H}:∃ q z,P.info? t=some q/\q.zero=some z/\i.size=q.size/\z.cells.size=i.zero.length/\ArrRep w M μ H z.cells i.zero:=by
 obtain ⟨q,d,h1,h2,_,hsz,_,hzero,_⟩:=TI.of_some hT
 cases hq:q.zero with
 | none=>rw [hq] at hzero; rw [hzero] at hz; simp at hz
 | some z=>
  rw [hq] at hzero
  simp only at hzero
  split at hzero
  ·
   rename_i hall
   refine ⟨q,z,h1,hq,hsz,by rw [hzero]; simp,by rw [hzero]; simp,fun k c hk=>?_⟩
   rw [hzero,List.getElem?_map,Option.map_eq_some_iff] at hk
   obtain ⟨y,hy,rfl⟩:=hk
   have hy':z.cells[k]?=some y:=by simpa using hy
   have:y ∈ z.cells:=Array.mem_of_getElem? hy'
   exact ⟨y,hy',Array.all_eq_true_iff_forall_mem.1 hall y this,Rep.cAV y⟩
  · rw [hzero] at hz; simp at hz
theorem sim_alloc (h:Rel Γ s μ a w) (hd:∀ t,o.dst=some t->t < Γ.n) {t:TypeId} (ho:o.op=.alloc t) {r:R} (hr:vAlloc (nid o.dst) (TI.of Γ.P t)=some r):SimR Γ s μ a w o r:=by
 cases hT:TI.of Γ.P t with
 | none=>rw [hT] at hr; cases hr
 | some i=>
  rw [hT] at hr
  simp only [vAlloc] at hr
  split at hr
  · cases hr
  ·
   rename_i hz
   cases hr
   obtain ⟨q,z,q1,q2,q3,q4,q5⟩:=zero_rep (w:=w) (μ:=μ) (M:=forb Γ.Mx μ s.H) (H:=s.H) hT hz
   intro H1 hH K Q hK _
   simp only [hnews] at hH
   split at hH
   ·
    rename_i hn
    cases hH
    have hn':s.H (nid o.dst)=none:=by simpa using hn
    exact wp_value (x:=.pointer (some ⟨w.heap.size,0,none⟩)) (w':=w.alloc (.cells z.cells t)) (by simp [execOp,ho,Instr.alloc,newVar,newRow,run_zero' q1 q2]) (hK rfl _ _ _ (h.newobj hd hn' q5 t))
   · cases hH
theorem get_fold (off:Nat) (l:List Value):∀ (j:Nat) (A:Array Value),off + j + l.length<=A.size ->
  ((l.zipIdx j).foldl (fun cs (x:Value × Nat)=>cs.setIfInBounds (off + x.2) x.1) A).size=A.size /\
  ∀ k,((l.zipIdx j).foldl (fun cs (x:Value × Nat)=>cs.setIfInBounds (off + x.2) x.1) A)[k]?=if off + j<=k/\k < off + j + l.length then l[k - (off + j)]? else A[k]?:=by
 induction l with
 | nil=>intro j A h; refine ⟨rfl,fun k=>?_⟩; rw [if_neg (by simp)]; rfl
 | cons v l ih=>
  intro j A h
  simp only [List.length_cons] at h
  simp only [List.zipIdx_cons,List.foldl_cons]
  obtain ⟨i1,i2⟩:=ih (j + 1) (A.setIfInBounds (off + j) v) (by simp; omega)
  refine ⟨by rw [i1]; simp,fun k=>?_⟩
  rw [i2 k]
  by_cases h1:off + j=k
  ·
   subst h1
   rw [if_neg (by omega),if_pos (by simp),Array.getElem?_setIfInBounds_self_of_lt (by omega)]
   simp
  ·
   by_cases h2:off + (j + 1)<=k/\k < off + (j + 1) + l.length
   ·
    rw [if_pos h2,if_pos (by simp; omega)]
    have:k - (off + j)=(k - (off + (j + 1))) + 1:=by omega
    rw [this]; simp
   · rw [if_neg h2,if_neg (by simp; omega),Array.getElem?_setIfInBounds_ne h1]
theorem over_get (cs d:List AV) (o i:Nat) (h:o + d.length<=cs.length):(over cs o d)[i]?=if o<=i/\i < o + d.length then d[i - o]? else cs[i]?:=by
 unfold over
 by_cases h1:i < o
 · rw [if_neg (by omega),List.append_assoc,List.getElem?_append_left (by simp; omega),List.getElem?_take,if_pos h1]
 ·
  by_cases h2:i < o + d.length
  ·
   rw [if_pos (by omega),List.append_assoc,List.getElem?_append_right (by simp; omega),List.getElem?_append_left (by simp; omega)]
   congr 1
   simp
   omega
  ·
   rw [if_neg (by omega),List.getElem?_append_right (by simp; omega),List.getElem?_drop]
   congr 1
   simp
   omega
theorem over_len (cs d:List AV) (o:Nat) (h:o + d.length<=cs.length):(over cs o d).length=cs.length:=by
 simp [over]; omega
theorem piece_rep {M H} {A:Array Value} {cs:List AV} (hA:ArrRep w M μ H A cs) {off n:Nat} {v:AV} {x:Value} (hx:Rep w M μ H v x) {cs':List AV} (hp:piece off n cs (cells v)=some cs') :
  x.cells.size=n/\off + x.cells.size<=A.size/\ArrRep w M μ H (x.cells.zipIdx.foldl (fun cs (y:Value × Nat)=>cs.setIfInBounds (off + y.2) y.1) A) cs':=by
 cases hc:cells v with
 | none=>rw [hc] at hp; cases hp
 | some d=>
  rw [hc] at hp
  simp only [piece] at hp
  split at hp
  ·
   rename_i hl
   cases hp
   obtain ⟨c1,c2⟩:=cells_rep hx hc
   obtain ⟨g1,g2⟩:=get_fold off x.cells.toList 0 A (by have h9:=hA.1; simp [c1]; omega)
   have hfold:x.cells.zipIdx.foldl (fun cs (y:Value × Nat)=>cs.setIfInBounds (off + y.2) y.1) A=(x.cells.toList.zipIdx 0).foldl (fun cs (y:Value × Nat)=>cs.setIfInBounds (off + y.2) y.1) A:=by
    rw [<-Array.foldl_toList,Array.toList_zipIdx]
   refine ⟨by omega,by rw [hA.1]; omega,?_,fun k c hk=>?_⟩
   · rw [hfold,g1,hA.1,over_len _ _ _ (by omega)]
   ·
    rw [over_get _ _ _ _ (by omega)] at hk
    rw [hfold,g2 k]
    simp only [Array.length_toList,Nat.add_zero]
    by_cases hin:off<=k/\k < off + d.length
    ·
     rw [if_pos hin] at hk
     rw [if_pos (by omega)]
     obtain ⟨y,y1,y2,y3⟩:=c2 _ _ hk
     exact ⟨y,by simpa using y1,y2,y3⟩
    ·
     rw [if_neg hin] at hk
     rw [if_neg (by omega)]
     exact hA.2 k c hk
  · cases hp
end
end Go.Proofs.YtjoaigccapegpaaGreat.AE
