/-
  An abstract machine for the program's code: plain values in the place of memory (structs as lists of cells, slices as lists, a call's own variables as boxes), and what one operation, one region, one piece of code does to them. Conditions: none; it is shown sound in the texts behind this one.
-/
import Derived.WalkKit
import Derived.Maps.AppendAt
import Derived.Orders
set_option linter.unusedVariables false
namespace Go.Proofs.Ytebflegkdfhoaaa.AE
open Go

/-- A box: how deep its maker lies, and its number there. -/
abbrev Bid := Nat × Nat

/-- Plain values. 'own': a slice of one's own (the first n of a row); 'ref', 'eref': an address in a box; 'iref': an address in memory that stays as it is; 'frs': a new slice, 'pnc': a panic, both as results alone. -/
inductive AV where
  | u
  | int (k : IntKind) (n : Int)
  | bool (b : Bool)
  | str (s : ByteArray)
  | agg (cs : List AV)
  | nils
  | sl (k : Nat) (L : List (List AV))
  | own (b : Bid) (n : Nat)
  | ref (b : Bid) (o : Nat)
  | eref (b : Bid) (i o : Nat)
  | iref (cs : List AV) (o : Nat)
  | nilp
  | fn (f : FuncId) (caps : List AV)
  | tup (vs : List AV)
  | ifc (t : TypeId) (v : AV)
  | nili
  | ub
  | frs (e : TypeId) (sz : Nat) (L : List (List AV))
  | pnc (v : AV)

inductive Box where
  | obj (cs : List AV)
  | row (e : TypeId) (sz : Nat) (L : List (List AV)) (frz : Bool)
  | dead

abbrev Heap := Bid → Option Box

structure St where
  t : Nat → AV
  H : Heap

/-- A cell of a plain type. -/
inductive Kd where
  | int (k : IntKind) | bool | str
  deriving DecidableEq
/-- What is to be known of a type. -/
structure TI where
  size : Nat
  agg : Bool
  zero : List AV
  fields : List (Nat × Nat × Bool)
  len : Nat
  esize : Nat
  etype : TypeId
  ebytes : Nat
  kind : Option IntKind
  arr : Bool
  slc : Bool
  ptr : Bool
  kinds : Option (List Kd)

def cAV : Value → AV
  | .int k n => .int k n
  | .bool b => .bool b
  | .string s => .str s
  | .slice none 0 0 => .nils
  | .pointer none => .nilp
  | .nilIface => .nili
  | _ => .u
@[go_sem] theorem cAV_int (k n) : cAV (.int k n) = .int k n := rfl
@[go_sem] theorem cAV_bool (b) : cAV (.bool b) = .bool b := rfl
@[go_sem] theorem cAV_str (b) : cAV (.string b) = .str b := rfl
@[go_sem] theorem cAV_nils : cAV (.slice none 0 0) = .nils := rfl
@[go_sem] theorem cAV_nilp : cAV (.pointer none) = .nilp := rfl
@[go_sem] theorem cAV_nili : cAV .nilIface = .nili := rfl

/-- What an operation yields: a value, new boxes, boxes changed, boxes looked at; or a panic. -/
structure R where
  v : AV
  nw : List (Bid × Box)
  up : List (Bid × Box)
  fp : List Bid
  pan : Option AV

def val (v : AV) : Option R := some ⟨v, [], [], [], none⟩

def fput (f : Nat → AV) (d : Nat) (v : AV) : Nat → AV := fun i => if i = d then v else f i
def hput (H : Heap) (b : Bid) (x : Box) : Heap := fun i => if i = b then some x else H i
def hputs (H : Heap) : List (Bid × Box) → Heap
  | [] => H
  | (b, x) :: r => hputs (hput H b x) r
/-- New boxes, each at a number that was not in use. -/
def hnews (H : Heap) : List (Bid × Box) → Option Heap
  | [] => some H
  | (b, x) :: r => if (H b).isNone then hnews (hput H b x) r else none
def noH : Heap := fun _ => none
def ofL : List (Nat × AV) → Nat → AV
  | [] => fun _ => .u
  | (d, v) :: l => fput (ofL l) d v
def hOf : List (Bid × Box) → Heap
  | [] => noH
  | (b, x) :: l => hput (hOf l) b x
@[go_sem] theorem fput_at (f d v i) : fput f d v i = if i = d then v else f i := rfl
@[go_sem] theorem hput_at (H b x) (i : Bid) : hput H b x i = if i = b then some x else H i := rfl
@[go_sem] theorem hputs_nil (H) : hputs H [] = H := rfl
@[go_sem] theorem hputs_cons (H b x r) : hputs H ((b, x) :: r) = hputs (hput H b x) r := rfl
@[go_sem] theorem hnews_nil (H) : hnews H [] = some H := rfl
@[go_sem] theorem hnews_cons (H b x r) : hnews H ((b, x) :: r) = if (H b).isNone then hnews (hput H b x) r else none := rfl
@[go_sem] theorem ofL_nil (i) : ofL [] i = .u := rfl
@[go_sem] theorem ofL_cons (d v l) : ofL ((d, v) :: l) = fput (ofL l) d v := rfl
@[go_sem] theorem hOf_nil : hOf [] = noH := rfl
@[go_sem] theorem hOf_cons (d v l) : hOf ((d, v) :: l) = hput (hOf l) d v := rfl
@[go_sem] theorem noH_at (i) : noH i = none := rfl
@[go_sem] theorem bid_eq (a b c d : Nat) : (((a, b) : Bid) = (c, d)) = (a = c ∧ b = d) := by simp

/-- The cells of a value. -/
def cells : AV → Option (List AV)
  | .agg cs => some cs
  | .u => none
  | .tup _ => none
  | .frs _ _ _ => none
  | .pnc _ => none
  | v => some [v]
@[go_sem] theorem cells_agg (cs) : cells (.agg cs) = some cs := rfl
@[go_sem] theorem cells_int (k n) : cells (.int k n) = some [.int k n] := rfl
@[go_sem] theorem cells_bool (b) : cells (.bool b) = some [.bool b] := rfl
@[go_sem] theorem cells_str (b) : cells (.str b) = some [.str b] := rfl
@[go_sem] theorem cells_nils : cells .nils = some [.nils] := rfl
@[go_sem] theorem cells_sl (k L) : cells (.sl k L) = some [.sl k L] := rfl
@[go_sem] theorem cells_own (b n) : cells (.own b n) = some [.own b n] := rfl
@[go_sem] theorem cells_ref (b n) : cells (.ref b n) = some [.ref b n] := rfl
@[go_sem] theorem cells_iref (b n) : cells (.iref b n) = some [.iref b n] := rfl
@[go_sem] theorem cells_nilp : cells .nilp = some [.nilp] := rfl
@[go_sem] theorem cells_nili : cells .nili = some [.nili] := rfl
@[go_sem] theorem cells_ifc (t v) : cells (.ifc t v) = some [.ifc t v] := rfl
@[go_sem] theorem cells_fn (f c) : cells (.fn f c) = some [.fn f c] := rfl
def over (cs : List AV) (o : Nat) (d : List AV) : List AV := cs.take o ++ d ++ cs.drop (o + d.length)
def ld (i : TI) (cs : List AV) (o : Nat) : Option AV :=
  if i.agg then (if o + i.size ≤ cs.length then some (.agg ((cs.drop o).take i.size)) else none) else cs[o]?

def aInt (op : BinOp) (k : IntKind) (a b : Int) : Option AV :=
  match op with
  | .add => some (.int k (k.wrap (a + b)))
  | .sub => some (.int k (k.wrap (a - b)))
  | .mul => some (.int k (k.wrap (a * b)))
  | .quo => if b = 0 then none else some (.int k (k.wrap (a.tdiv b)))
  | .rem => if b = 0 then none else some (.int k (a.tmod b))
  | .eql => some (.bool (a == b))
  | .neq => some (.bool (a != b))
  | .lss => some (.bool (decide (a < b)))
  | .leq => some (.bool (decide (a ≤ b)))
  | .gtr => some (.bool (decide (b < a)))
  | .geq => some (.bool (decide (b ≤ a)))
  | .shl => if b < 0 then none else some (.int k (k.wrap (a * 2 ^ (min b.toNat k.bits))))
  | .shr => if b < 0 then none else some (.int k (a.fdiv (2 ^ (min b.toNat k.bits))))
  | _ => none
section
variable (k : IntKind) (a b : Int)
@[go_sem] theorem aInt_add : aInt .add k a b = some (.int k (k.wrap (a + b))) := rfl
@[go_sem] theorem aInt_sub : aInt .sub k a b = some (.int k (k.wrap (a - b))) := rfl
@[go_sem] theorem aInt_mul : aInt .mul k a b = some (.int k (k.wrap (a * b))) := rfl
@[go_sem] theorem aInt_eql : aInt .eql k a b = some (.bool (a == b)) := rfl
@[go_sem] theorem aInt_neq : aInt .neq k a b = some (.bool (a != b)) := rfl
@[go_sem] theorem aInt_lss : aInt .lss k a b = some (.bool (decide (a < b))) := rfl
@[go_sem] theorem aInt_leq : aInt .leq k a b = some (.bool (decide (a ≤ b))) := rfl
@[go_sem] theorem aInt_gtr : aInt .gtr k a b = some (.bool (decide (b < a))) := rfl
@[go_sem] theorem aInt_geq : aInt .geq k a b = some (.bool (decide (b ≤ a))) := rfl
@[go_sem] theorem aInt_shl : aInt .shl k a b = if b < 0 then none else some (.int k (k.wrap (a * 2 ^ (min b.toNat k.bits)))) := rfl
@[go_sem] theorem aInt_shr : aInt .shr k a b = if b < 0 then none else some (.int k (a.fdiv (2 ^ (min b.toNat k.bits)))) := rfl
end

/-- Are two plain values alike? -/
def eqv : AV → AV → Option Bool
  | .int k a, .int k' b => if k = k' then some (a == b) else none
  | .bool a, .bool b => some (a == b)
  | .str a, .str b => some (a == b)
  | _, _ => none
@[go_sem] theorem eqv_int (k a b) : eqv (.int k a) (.int k b) = some (a == b) := by simp [eqv]
@[go_sem] theorem eqv_bool (a b) : eqv (.bool a) (.bool b) = some (a == b) := rfl
@[go_sem] theorem eqv_str (a b) : eqv (.str a) (.str b) = some (a == b) := rfl
def both : Option Bool → Option Bool → Option Bool
  | some x, some y => some (x && y)
  | _, _ => none
@[go_sem] theorem both_some (x y) : both (some x) (some y) = some (x && y) := rfl
def eqvs : List AV → List AV → Option Bool
  | [], [] => some true
  | a :: l, b :: m => both (eqv a b) (eqvs l m)
  | _, _ => none
@[go_sem] theorem eqvs_nil : eqvs [] [] = some true := rfl
@[go_sem] theorem eqvs_cons (a l b m) : eqvs (a :: l) (b :: m) = both (eqv a b) (eqvs l m) := rfl
def kd : AV → Option Kd
  | .int k _ => some (.int k)
  | .bool _ => some .bool
  | .str _ => some .str
  | _ => none
@[go_sem] theorem kd_int (k n) : kd (.int k n) = some (.int k) := rfl
@[go_sem] theorem kd_bool (n) : kd (.bool n) = some .bool := rfl
@[go_sem] theorem kd_str (n) : kd (.str n) = some .str := rfl
def eqK (l m : List AV) : Option (List Kd) → Option Bool
  | some ks => if l.map kd = ks.map some then eqvs l m else none
  | none => none
@[go_sem] theorem eqK_some (l m ks) : eqK l m (some ks) = if l.map kd = ks.map some then eqvs l m else none := rfl
/-- '==' on values that are no numbers. -/
def aEq (i : TI) : AV → AV → Option Bool
  | .agg l, .agg m => if i.agg then eqK l m i.kinds else none
  | .nils, .nils => if i.slc then some true else none
  | .nilp, .nilp => if i.ptr then some true else none
  | .ref _ _, .nilp => if i.ptr then some false else none
  | .iref _ _, .nilp => if i.ptr then some false else none
  | .bool a, .bool b => if i.agg then none else eqK [.bool a] [.bool b] i.kinds
  | .str a, .str b => some (a.toList == b.toList)
  | _, _ => none
section
variable (i : TI)
@[go_sem] theorem aEq_agg (l m) : aEq i (.agg l) (.agg m) = if i.agg then eqK l m i.kinds else none := rfl
@[go_sem] theorem aEq_nils : aEq i .nils .nils = if i.slc then some true else none := rfl
@[go_sem] theorem aEq_nilp : aEq i .nilp .nilp = if i.ptr then some true else none := rfl
@[go_sem] theorem aEq_ref (b o) : aEq i (.ref b o) .nilp = if i.ptr then some false else none := rfl
@[go_sem] theorem aEq_iref (b o) : aEq i (.iref b o) .nilp = if i.ptr then some false else none := rfl
@[go_sem] theorem aEq_bool (a b) : aEq i (.bool a) (.bool b) = if i.agg then none else eqK [.bool a] [.bool b] i.kinds := rfl
@[go_sem] theorem aEq_str (a b) : aEq i (.str a) (.str b) = some (a.toList == b.toList) := rfl
end
def optV : Option AV → Option R
  | some v => val v
  | none => none
@[go_sem] theorem optV_some (v) : optV (some v) = val v := rfl
def optB (neg : Bool) : Option Bool → Option R
  | some b => val (.bool (b != neg))
  | none => none
@[go_sem] theorem optB_false (b) : optB false (some b) = val (.bool b) := by cases b <;> rfl
@[go_sem] theorem optB_true (b) : optB true (some b) = val (.bool !b) := by cases b <;> rfl
/-- A slice against nil: of an empty one nothing is known. -/
def nilB (neg : Bool) : List (List AV) → AV
  | [] => .ub
  | _ :: _ => .bool neg
def eqO (neg : Bool) : AV → AV → Option TI → Option R
  | .sl k L, .nils, some i => if i.slc ∧ k ≠ 0 then val (nilB neg L) else none
  | x, y, some i => optB neg (aEq i x y)
  | _, _, none => none
@[go_sem] theorem eqO_sl (neg k L i) : eqO neg (.sl k L) .nils (some i) = if i.slc ∧ k ≠ 0 then val (nilB neg L) else none := rfl
@[go_sem] theorem eqO_agg (neg l y i) : eqO neg (.agg l) y (some i) = optB neg (aEq i (.agg l) y) := by cases y <;> rfl
@[go_sem] theorem eqO_bool (neg l y i) : eqO neg (.bool l) y (some i) = optB neg (aEq i (.bool l) y) := by cases y <;> rfl
@[go_sem] theorem eqO_str (neg l y i) : eqO neg (.str l) y (some i) = optB neg (aEq i (.str l) y) := by cases y <;> rfl
@[go_sem] theorem eqO_nils (neg y i) : eqO neg .nils y (some i) = optB neg (aEq i .nils y) := by cases y <;> rfl
@[go_sem] theorem eqO_nilp (neg y i) : eqO neg .nilp y (some i) = optB neg (aEq i .nilp y) := by cases y <;> rfl
@[go_sem] theorem eqO_ref (neg b o y i) : eqO neg (.ref b o) y (some i) = optB neg (aEq i (.ref b o) y) := by cases y <;> rfl
@[go_sem] theorem eqO_iref (neg b o y i) : eqO neg (.iref b o) y (some i) = optB neg (aEq i (.iref b o) y) := by cases y <;> rfl
def vBin (i : Option TI) (op : BinOp) : AV → AV → Option R
  | .int k a, .int k' b => if k = k' ∨ op = .shl ∨ op = .shr then optV (aInt op k a b) else none
  | x, y => match op with
    | .eql => eqO false x y i
    | .neq => eqO true x y i
    | _ => none
section
variable (i : Option TI) (op : BinOp) (x y : AV)
@[go_sem] theorem vBin_int (k a b) : vBin i op (.int k a) (.int k b) = optV (aInt op k a b) := by simp [vBin]
@[go_sem] theorem vBin_shl (k k' a b) : vBin i .shl (.int k a) (.int k' b) = optV (aInt .shl k a b) := by simp [vBin]
@[go_sem] theorem vBin_shr (k k' a b) : vBin i .shr (.int k a) (.int k' b) = optV (aInt .shr k a b) := by simp [vBin]
@[go_sem] theorem vBin_eql_agg (l) : vBin i .eql (.agg l) y = eqO false (.agg l) y i := rfl
@[go_sem] theorem vBin_eql_bool (l) : vBin i .eql (.bool l) y = eqO false (.bool l) y i := rfl
@[go_sem] theorem vBin_eql_str (l) : vBin i .eql (.str l) y = eqO false (.str l) y i := rfl
@[go_sem] theorem vBin_eql_nils : vBin i .eql .nils y = eqO false .nils y i := rfl
@[go_sem] theorem vBin_eql_sl (k L) : vBin i .eql (.sl k L) y = eqO false (.sl k L) y i := rfl
@[go_sem] theorem vBin_eql_nilp : vBin i .eql .nilp y = eqO false .nilp y i := rfl
@[go_sem] theorem vBin_eql_ref (b n) : vBin i .eql (.ref b n) y = eqO false (.ref b n) y i := rfl
@[go_sem] theorem vBin_eql_iref (b n) : vBin i .eql (.iref b n) y = eqO false (.iref b n) y i := rfl
@[go_sem] theorem vBin_neq_agg (l) : vBin i .neq (.agg l) y = eqO true (.agg l) y i := rfl
@[go_sem] theorem vBin_neq_bool (l) : vBin i .neq (.bool l) y = eqO true (.bool l) y i := rfl
@[go_sem] theorem vBin_neq_str (l) : vBin i .neq (.str l) y = eqO true (.str l) y i := rfl
@[go_sem] theorem vBin_neq_nils : vBin i .neq .nils y = eqO true .nils y i := rfl
@[go_sem] theorem vBin_neq_sl (k L) : vBin i .neq (.sl k L) y = eqO true (.sl k L) y i := rfl
@[go_sem] theorem vBin_neq_nilp : vBin i .neq .nilp y = eqO true .nilp y i := rfl
@[go_sem] theorem vBin_neq_ref (b n) : vBin i .neq (.ref b n) y = eqO true (.ref b n) y i := rfl
@[go_sem] theorem vBin_neq_iref (b n) : vBin i .neq (.iref b n) y = eqO true (.iref b n) y i := rfl
end

def rowOf (n : Nat) : Option Box → Option (Nat × List (List AV))
  | some (.row _ sz L _) => some (sz, L.take n)
  | _ => none
@[go_sem] theorem rowOf_row (n e sz L f) : rowOf n (some (.row e sz L f)) = some (sz, L.take n) := rfl
/-- What a slice holds, and how long its elements are (none: there are none). -/
def content (H : Heap) : AV → Option (Nat × List (List AV))
  | .nils => some (0, [])
  | .sl k L => some (k, L)
  | .own b n => rowOf n (H b)
  | _ => none
@[go_sem] theorem content_nils (H) : content H .nils = some (0, []) := rfl
@[go_sem] theorem content_sl (H k L) : content H (.sl k L) = some (k, L) := rfl
@[go_sem] theorem content_own (H b n) : content H (.own b n) = rowOf n (H b) := rfl

def piece (o n : Nat) (cs : List AV) : Option (List AV) → Option (List AV)
  | some d => if d.length = n ∧ o + n ≤ cs.length then some (over cs o d) else none
  | none => none
@[go_sem] theorem piece_some (o n cs d) : piece o n cs (some d) = if d.length = n ∧ o + n ≤ cs.length then some (over cs o d) else none := rfl
def pieceO (v : AV) : Option (Nat × Nat × Bool) → Option (List AV) → Option (List AV)
  | some f, some cs => piece f.1 f.2.1 cs (cells v)
  | _, _ => none
@[go_sem] theorem pieceO_some (v f cs) : pieceO v (some f) (some cs) = piece f.1 f.2.1 cs (cells v) := rfl
def structP (fs : List (Nat × Nat × Bool)) : List (Nat × AV) → Option (List AV) → Option (List AV)
  | [], r => r
  | (j, v) :: r, cs => structP fs r (pieceO v fs[j]? cs)
@[go_sem] theorem structP_nil (fs cs) : structP fs [] cs = cs := rfl
@[go_sem] theorem structP_cons (fs j v r cs) : structP fs ((j, v) :: r) cs = structP fs r (pieceO v fs[j]? cs) := rfl
def arrP (sz : Nat) : List (Nat × AV) → Option (List AV) → Option (List AV)
  | [], r => r
  | (j, v) :: r, cs => arrP sz r (pieceO v (some (j * sz, sz, false)) cs)
@[go_sem] theorem arrP_nil (fs cs) : arrP fs [] cs = cs := rfl
@[go_sem] theorem arrP_cons (sz j v r cs) : arrP sz ((j, v) :: r) cs = arrP sz r (pieceO v (some (j * sz, sz, false)) cs) := rfl
def optA : Option (List AV) → Option R
  | some cs => val (.agg cs)
  | none => none
def chunk (k : Nat) : Nat → List AV → List (List AV)
  | 0, _ => []
  | n + 1, l => l.take k :: chunk k n (l.drop k)

/-- A value without numbers of boxes, as it is told to a callee that leaves all memory as it is; rows of one's own as lists, boxes as memory that stays. -/
def leafV : AV → AV
  | .int k n => .int k n
  | .bool b => .bool b
  | .str s => .str s
  | .nils => .nils
  | .sl k L => .sl k L
  | .nilp => .nilp
  | .nili => .nili
  | _ => .u
def slV : Option (Nat × List (List AV)) → AV
  | some (k, L) => .sl k L
  | none => .u
def objV (o : Nat) (f : AV → AV) : Option Box → AV
  | some (.obj cs) => .iref (cs.map f) o
  | _ => .u
def view (H : Heap) : Nat → AV → AV
  | 0, v => leafV v
  | d + 1, v => match v with
    | .own b n => slV (rowOf n (H b))
    | .ref b o => objV o (view H d) (H b)
    | .agg cs => .agg (cs.map (view H d))
    | .fn f caps => .fn f (caps.map (view H d))
    | .iref cs o => .iref cs o
    | v => leafV v
section
variable (H : Heap) (d : Nat)
@[go_sem] theorem slV_some (k L) : slV (some (k, L)) = .sl k L := rfl
@[go_sem] theorem objV_obj (o f cs) : objV o f (some (.obj cs)) = .iref (cs.map f) o := rfl
@[go_sem] theorem view_own (b n) : view H (d + 1) (.own b n) = slV (rowOf n (H b)) := rfl
@[go_sem] theorem view_ref (b n) : view H (d + 1) (.ref b n) = objV n (view H d) (H b) := rfl
@[go_sem] theorem view_agg (cs) : view H (d + 1) (.agg cs) = .agg (cs.map (view H d)) := rfl
@[go_sem] theorem view_fn (f cs) : view H (d + 1) (.fn f cs) = .fn f (cs.map (view H d)) := rfl
@[go_sem] theorem view_iref (cs o) : view H (d + 1) (.iref cs o) = .iref cs o := rfl
@[go_sem] theorem view_int (k n) : view H d (.int k n) = .int k n := by cases d <;> rfl
@[go_sem] theorem view_bool (b) : view H d (.bool b) = .bool b := by cases d <;> rfl
@[go_sem] theorem view_str (b) : view H d (.str b) = .str b := by cases d <;> rfl
@[go_sem] theorem view_sl (k L) : view H d (.sl k L) = .sl k L := by cases d <;> rfl
@[go_sem] theorem view_nils : view H d .nils = .nils := by cases d <;> rfl
@[go_sem] theorem view_nilp : view H d .nilp = .nilp := by cases d <;> rfl
@[go_sem] theorem view_nili : view H d .nili = .nili := by cases d <;> rfl
@[go_sem] theorem view_u : view H d .u = .u := by cases d <;> rfl
end
/-- Does a value need no memory that may change later? -/
def light : AV → Bool
  | .int _ _ | .bool _ | .str _ | .nils | .nilp | .nili | .sl _ [] => true
  | _ => false
def lightA : AV → Bool
  | .agg cs => cs.all light
  | v => light v
def lightR : AV → Bool
  | .tup vs => vs.all lightA
  | .pnc (.ifc _ v) => lightA v
  | .frs _ _ L => L.all fun xs => xs.all light
  | v => lightA v
/-- The rows of one's own among arguments. -/
def rowsIn : List AV → List Bid
  | [] => []
  | .own b _ :: l => b :: rowsIn l
  | _ :: l => rowsIn l
/-- No other numbers of boxes among arguments. -/
def plainA : AV → Bool
  | .int _ _ | .bool _ | .str _ | .nils | .nilp | .nili | .sl _ _ | .own _ _ => true
  | .agg cs => cs.all fun | .int _ _ | .bool _ | .str _ | .nils | .nilp | .nili | .sl _ _ => true | _ => false
  | .fn _ [] => true
  | _ => false
def frzs (H : Heap) : List Bid → List (Bid × Box)
  | [] => []
  | b :: l => match H b with
    | some (.row e sz L false) => (b, .row e sz L true) :: frzs H l
    | _ => frzs H l
/-- What a call leaves: a new slice becomes a row of one's own. -/
def took (b : Bid) (up : List (Bid × Box)) : AV → R
  | .frs e sz L => ⟨.own b L.length, [(b, .row e sz L false)], up, [], none⟩
  | .pnc v => ⟨.u, [], up, [], some v⟩
  | v => ⟨v, [], up, [], none⟩

abbrev Spec := List AV → Option AV
/-- What a call that may write leaves: the result, the boxes passed, new boxes. -/
structure HR where
  v : AV
  up : List Box
  nw : List Box
/-- Boxes passed are named (1, i), new ones (2, j). -/
abbrev HSpec := List AV → List Box → Option HR
inductive Con where
  | p (S : Spec)
  | h (S : HSpec)
  | v (S : HSpec)
abbrev Env := List (FuncId × Con)
def place (b : Bid) : Nat → List Bid → Option Nat
  | _, [] => none
  | i, c :: l => if b = c then some i else place b (i + 1) l
@[go_sem] theorem place_nil (b i) : place b i [] = none := rfl
@[go_sem] theorem place_cons (b i c l) : place b i (c :: l) = if b = c then some i else place b (i + 1) l := rfl
/-- Other numbers for boxes. -/
def renV (fo fr : Bid → Nat → AV) : Nat → AV → AV
  | 0, v => leafV v
  | d + 1, v => match v with
    | .own b n => fo b n
    | .ref b o => fr b o
    | .agg cs => .agg (cs.map (renV fo fr d))
    | .fn f cs => .fn f (cs.map (renV fo fr d))
    | .tup cs => .tup (cs.map (renV fo fr d))
    | .ifc t x => .ifc t (renV fo fr d x)
    | .iref cs o => .iref cs o
    | v => leafV v
section
variable (fo fr : Bid → Nat → AV) (d : Nat)
@[go_sem] theorem renV_own (b n) : renV fo fr (d + 1) (.own b n) = fo b n := rfl
@[go_sem] theorem renV_ref (b n) : renV fo fr (d + 1) (.ref b n) = fr b n := rfl
@[go_sem] theorem renV_agg (cs) : renV fo fr (d + 1) (.agg cs) = .agg (cs.map (renV fo fr d)) := rfl
@[go_sem] theorem renV_fn (f cs) : renV fo fr (d + 1) (.fn f cs) = .fn f (cs.map (renV fo fr d)) := rfl
@[go_sem] theorem renV_tup (cs) : renV fo fr (d + 1) (.tup cs) = .tup (cs.map (renV fo fr d)) := rfl
@[go_sem] theorem renV_ifc (t x) : renV fo fr (d + 1) (.ifc t x) = .ifc t (renV fo fr d x) := rfl
@[go_sem] theorem renV_iref (cs o) : renV fo fr (d + 1) (.iref cs o) = .iref cs o := rfl
@[go_sem] theorem renV_int (k n) : renV fo fr d (.int k n) = .int k n := by cases d <;> rfl
@[go_sem] theorem renV_bool (b) : renV fo fr d (.bool b) = .bool b := by cases d <;> rfl
@[go_sem] theorem renV_str (b) : renV fo fr d (.str b) = .str b := by cases d <;> rfl
@[go_sem] theorem renV_sl (k L) : renV fo fr d (.sl k L) = .sl k L := by cases d <;> rfl
@[go_sem] theorem renV_nils : renV fo fr d .nils = .nils := by cases d <;> rfl
@[go_sem] theorem renV_nilp : renV fo fr d .nilp = .nilp := by cases d <;> rfl
@[go_sem] theorem renV_nili : renV fo fr d .nili = .nili := by cases d <;> rfl
@[go_sem] theorem renV_u : renV fo fr d .u = .u := by cases d <;> rfl
end
def renB (f : AV → AV) : Box → Box
  | .obj cs => .obj (cs.map f)
  | x => x
@[go_sem] theorem renB_obj (f cs) : renB f (.obj cs) = .obj (cs.map f) := rfl
@[go_sem] theorem renB_row (f e sz L z) : renB f (.row e sz L z) = .row e sz L z := rfl
@[go_sem] theorem renB_dead (f) : renB f .dead = .dead := rfl
/-- A row that stays, as a list. -/
def frzV (n : Nat) : Option Box → AV
  | some (.row _ sz L true) => .sl sz (L.take n)
  | _ => .u
@[go_sem] theorem frzV_row (n e sz L) : frzV n (some (.row e sz L true)) = .sl sz (L.take n) := rfl
def optOwn (n : Nat) (v : AV) : Option Nat → AV
  | some i => .own (1, i) n
  | none => v
@[go_sem] theorem optOwn_some (n v i) : optOwn n v (some i) = .own (1, i) n := rfl
@[go_sem] theorem optOwn_none (n v) : optOwn n v none = v := rfl
def optRef (n : Nat) : Option Nat → AV
  | some i => .ref (1, i) n
  | none => .u
@[go_sem] theorem optRef_some (n i) : optRef n (some i) = .ref (1, i) n := rfl
/-- A value as it is told to a callee that may write. -/
def told (H : Heap) (bs : List Bid) : Nat → AV → AV := renV (fun b n => optOwn n (frzV n (H b)) (place b 0 bs)) (fun b o => optRef o (place b 0 bs))
def hotO : Option Box → Bool
  | some (.obj _) => true
  | some (.row _ _ _ z) => !z
  | _ => false
@[go_sem] theorem hotO_obj (cs) : hotO (some (.obj cs)) = true := rfl
@[go_sem] theorem hotO_row (e sz L z) : hotO (some (.row e sz L z)) = !z := rfl
@[go_sem] theorem hotO_dead : hotO (some .dead) = false := rfl
def addB (H : Heap) (acc : List Bid) (b : Bid) : List Bid := if (place b 0 acc).isSome then acc else if hotO (H b) then acc ++ [b] else acc
@[go_sem] theorem addB_at (H acc b) : addB H acc b = if (place b 0 acc).isSome then acc else if hotO (H b) then acc ++ [b] else acc := rfl
def cellsO : Option Box → List AV
  | some (.obj cs) => cs
  | _ => []
@[go_sem] theorem cellsO_obj (cs) : cellsO (some (.obj cs)) = cs := rfl
/-- The boxes that a value leads to. -/
def coll (H : Heap) : Nat → List Bid → AV → List Bid
  | 0, acc, _ => acc
  | d + 1, acc, v => match v with
    | .own b _ => addB H acc b
    | .ref b _ => if (place b 0 acc).isSome then acc else (cellsO (H b)).foldl (coll H d) (addB H acc b)
    | .agg cs => cs.foldl (coll H d) acc
    | .fn _ cs => cs.foldl (coll H d) acc
    | .ifc _ x => coll H d acc x
    | _ => acc
section
variable (H : Heap) (d : Nat) (acc : List Bid)
@[go_sem] theorem coll_own (b n) : coll H (d + 1) acc (.own b n) = addB H acc b := rfl
@[go_sem] theorem coll_ref (b n) : coll H (d + 1) acc (.ref b n) = if (place b 0 acc).isSome then acc else (cellsO (H b)).foldl (coll H d) (addB H acc b) := rfl
@[go_sem] theorem coll_agg (cs) : coll H (d + 1) acc (.agg cs) = cs.foldl (coll H d) acc := rfl
@[go_sem] theorem coll_fn (f cs) : coll H (d + 1) acc (.fn f cs) = cs.foldl (coll H d) acc := rfl
@[go_sem] theorem coll_ifc (t x) : coll H (d + 1) acc (.ifc t x) = coll H d acc x := rfl
@[go_sem] theorem coll_int (k n) : coll H d acc (.int k n) = acc := by cases d <;> rfl
@[go_sem] theorem coll_bool (b) : coll H d acc (.bool b) = acc := by cases d <;> rfl
@[go_sem] theorem coll_str (b) : coll H d acc (.str b) = acc := by cases d <;> rfl
@[go_sem] theorem coll_sl (k L) : coll H d acc (.sl k L) = acc := by cases d <;> rfl
@[go_sem] theorem coll_iref (k L) : coll H d acc (.iref k L) = acc := by cases d <;> rfl
@[go_sem] theorem coll_nils : coll H d acc .nils = acc := by cases d <;> rfl
@[go_sem] theorem coll_nilp : coll H d acc .nilp = acc := by cases d <;> rfl
@[go_sem] theorem coll_nili : coll H d acc .nili = acc := by cases d <;> rfl
@[go_sem] theorem coll_u : coll H d acc .u = acc := by cases d <;> rfl
end
/-- The caller's numbers again. -/
def backB (bs : List Bid) (b0 b : Bid) : Option Bid := if b.1 = 1 then bs[b.2]? else if b.1 = 2 then some (b0.1, b0.2 + b.2) else none
@[go_sem] theorem backB_one (bs b0 i) : backB bs b0 (1, i) = bs[i]? := rfl
@[go_sem] theorem backB_two (bs b0 i) : backB bs b0 (2, i) = some (b0.1, b0.2 + i) := rfl
def ownO (n : Nat) : Option Bid → AV
  | some c => .own c n
  | none => .u
@[go_sem] theorem ownO_some (n c) : ownO n (some c) = .own c n := rfl
def refO (n : Nat) : Option Bid → AV
  | some c => .ref c n
  | none => .u
@[go_sem] theorem refO_some (n c) : refO n (some c) = .ref c n := rfl
def back (bs : List Bid) (b0 : Bid) : Nat → AV → AV := renV (fun b n => ownO n (backB bs b0 b)) (fun b n => refO n (backB bs b0 b))
def labB (b0 : Bid) : Nat → List Box → List (Bid × Box)
  | _, [] => []
  | j, x :: l => ((b0.1, b0.2 + j), x) :: labB b0 (j + 1) l
@[go_sem] theorem labB_nil (b0 j) : labB b0 j [] = [] := rfl
@[go_sem] theorem labB_cons (b0 j x l) : labB b0 j (x :: l) = ((b0.1, b0.2 + j), x) :: labB b0 (j + 1) l := rfl
def callH (b0 : Bid) (bs : List Bid) : Option HR → Option R
  | some ⟨.pnc p, up, nw⟩ => some ⟨.u, labB b0 0 (nw.map (renB (back bs b0 5))), bs.zip (up.map (renB (back bs b0 5))), bs, some (back bs b0 5 p)⟩
  | some ⟨v, up, nw⟩ => some ⟨back bs b0 5 v, labB b0 0 (nw.map (renB (back bs b0 5))), bs.zip (up.map (renB (back bs b0 5))), bs, none⟩
  | none => none
def runH (b0 : Bid) (H : Heap) (S : HSpec) (l : List AV) (bs : List Bid) : Option R := callH b0 bs (S (l.map (told H bs 5)) (bs.map fun b => renB (told H bs 5) ((H b).getD .dead)))

def loadB (i : TI) (b : Bid) (o : Nat) : Option Box → Option R
  | some (.obj cs) => (ld i cs o).map fun v => ⟨v, [], [], [b], none⟩
  | _ => none
def loadE (i : TI) (b : Bid) (o : Nat) : Option (List AV) → Option R
  | some cs => (ld i cs o).map fun v => ⟨v, [], [], [b], none⟩
  | _ => none
def nthRow (j : Nat) : Option Box → Option (List AV)
  | some (.row _ _ L _) => L[j]?
  | _ => none
def vLoad (H : Heap) : Option TI → AV → Option R
  | some i, .ref b o => loadB i b o (H b)
  | some i, .iref cs o => optV (ld i cs o)
  | some i, .eref b j o => loadE i b o (nthRow j (H b))
  | _, _ => none
def storeB (b : Bid) (o : Nat) (n : Nat) : Option (List AV) → Option Box → Option R
  | some d, some (.obj cs) => if d.length = n ∧ o + n ≤ cs.length then some ⟨.u, [], [(b, .obj (over cs o d))], [b], none⟩ else none
  | _, _ => none
/-- Plain cells: they may lie in a row. -/
def flatC : AV → Bool
  | .int _ _ | .bool _ | .str _ | .nils | .nilp | .nili | .sl _ _ => true
  | _ => false
def storeR (b : Bid) (j o : Nat) (n : Nat) (d : List AV) (e : TypeId) (sz : Nat) (L : List (List AV)) : Option (List AV) → Option R
  | some cs => if d.length = n ∧ o + n ≤ cs.length ∧ d.all flatC = true then some ⟨.u, [], [(b, .row e sz (L.set j (over cs o d)) false)], [b], none⟩ else none
  | _ => none
def storeE (b : Bid) (j o : Nat) (n : Nat) : Option (List AV) → Option Box → Option R
  | some d, some (.row e sz L false) => storeR b j o n d e sz L L[j]?
  | _, _ => none
def vStore (H : Heap) : Option TI → AV → AV → Option R
  | some i, .ref b o, x => storeB b o i.size (cells x) (H b)
  | some i, .eref b j o, x => storeE b j o i.size (cells x) (H b)
  | _, _, _ => none
def isRow : Option Box → Bool
  | some (.row _ _ _ _) => true
  | _ => false
@[go_sem] theorem isRow_row (e sz L z) : isRow (some (.row e sz L z)) = true := rfl
def addO (H : Heap) (o : Nat) : AV → Option R
  | .ref b p => val (.ref b (p + o))
  | .iref cs p => val (.iref cs (p + o))
  | .eref b j p => if isRow (H b) = true then some ⟨.eref b j (p + o), [], [], [b], none⟩ else none
  | _ => none
def fieldO (H : Heap) (x : AV) : Option (Nat × Nat × Bool) → Option R
  | some f => if f.2.1 = 0 then none else addO H f.1 x
  | none => none
def vFieldAddr (H : Heap) : Option TI → AV → Nat → Option R
  | some i, x, f => fieldO H x i.fields[f]?
  | none, _, _ => none
def fieldV (cs : List AV) : Option (Nat × Nat × Bool) → Option R
  | some f => if f.2.2 then (if f.1 + f.2.1 ≤ cs.length then val (.agg ((cs.drop f.1).take f.2.1)) else none) else optV cs[f.1]?
  | none => none
def vField : Option TI → AV → Nat → Option R
  | some i, .agg cs, f => fieldV cs i.fields[f]?
  | _, _, _ => none
def irefO : Option (List AV) → Option R
  | some cs => val (.iref cs 0)
  | none => none
def erow (sz : Nat) : Option Box → Bool
  | some (.row _ z _ _) => z == sz
  | _ => false
@[go_sem] theorem erow_row (n e sz L z) : erow n (some (.row e sz L z)) = (sz == n) := rfl
def vIndexAddr (H : Heap) : Option TI → AV → AV → Option R
  | some i, .sl k L, .int _ n => if k = i.esize ∧ k ≠ 0 ∧ i.slc = true ∧ 0 ≤ n then irefO L[n.toNat]? else none
  | some i, .own b m, .int _ n => if i.slc = true ∧ 0 ≤ n ∧ n < m ∧ erow i.esize (H b) = true then some ⟨.eref b n.toNat 0, [], [], [b], none⟩ else none
  | some i, x, .int _ n => if i.arr = true ∧ 0 ≤ n ∧ n < i.len then addO H (n.toNat * i.esize) x else none
  | _, _, _ => none
def bnd (d : Option Nat) : Option AV → Option Nat
  | some (.int _ n) => if 0 ≤ n then some n.toNat else none
  | none => d
  | _ => none
def frzB (b : Bid) (v : AV) : Option Box → Option R
  | some (.row e sz M _) => some ⟨v, [], [(b, .row e sz M true)], [b], none⟩
  | _ => none
def cutS (H : Heap) (x : AV) (k : Nat) (L : List (List AV)) (l h : Nat) : Option R :=
  if l ≤ h ∧ h ≤ L.length then match x with
    | .own b _ => if l = 0 then some ⟨.own b h, [], [], [b], none⟩ else frzB b (.sl k ((L.take h).drop l)) (H b)
    | .nils => val .nils
    | _ => val (.sl k ((L.take h).drop l))
  else none
def vSlice (H : Heap) (x : AV) : Option TI → Option (Nat × List (List AV)) → Option Nat → Option Nat → Option R
  | some i, some (k, L), some l, some h => if i.slc = true ∧ (k = i.esize ∨ L = []) then cutS H x k L l h else none
  | _, _, _, _ => none
def appO (b b' : Bid) (n : Nat) (i : TI) (M : List (List AV)) : Option Box → Option R
  | some (.row e sz L false) => if e = i.etype ∧ sz = i.esize then some ⟨.own b (n + M.length), [(b, .row e sz (L.take n ++ M) false)], [(b', .dead)], [b'], none⟩ else none
  | _ => none
def vAppend (H : Heap) (b : Bid) : AV → Option TI → Option TI → Option (Nat × List (List AV)) → Option R
  | s, some i, some ie, some (k, M) => if i.slc = true ∧ ie.zero.length = i.esize ∧ 0 < i.esize ∧ (k = i.esize ∨ M = []) then (match s with
    | .nils => if M.length * i.ebytes ≤ 140737488355328 ∧ M.length ≤ maxLen then some ⟨.own b M.length, [(b, .row i.etype i.esize M false)], [], [], none⟩ else none
    | .own b' n => if (n + M.length) * i.ebytes ≤ 140737488355328 ∧ n + M.length ≤ maxLen then appO b b' n i M (H b') else none
    | _ => none) else none
  | _, _, _, _ => none
def lenO : Option (Nat × List (List AV)) → Option R
  | some (_, L) => val (.int .i64 L.length)
  | none => none
def vLen (H : Heap) : Option TI → AV → Option R
  | some i, .str s => if i.agg = false ∧ i.kinds = some [.str] then val (.int .i64 s.size) else none
  | some i, v => if i.slc = true then lenO (content H v) else none
  | none, _ => none
/-- A callee that leaves all memory as it is. -/
def callR (b : Bid) (H : Heap) (args : List AV) : Option AV → Option R
  | some r => if lightR r = true then some (took b [] r) else if args.all plainA = true then some (took b (frzs H (rowsIn args)) r) else none
  | none => none
/-- Does a value need no memory that was there? -/
def lightN : Nat → AV → Bool
  | 0, v => light v
  | d + 1, v => match v with
    | .own b _ => b.1 == 2
    | .ref b _ => b.1 == 2
    | .agg cs => cs.all (lightN d)
    | .fn _ cs => cs.all (lightN d)
    | .tup cs => cs.all (lightN d)
    | .ifc _ x => lightN d x
    | .pnc x => lightN d x
    | v => light v
section
variable (d : Nat)
@[go_sem] theorem lightN_own (b n) : lightN (d + 1) (.own b n) = (b.1 == 2) := rfl
@[go_sem] theorem lightN_ref (b n) : lightN (d + 1) (.ref b n) = (b.1 == 2) := rfl
@[go_sem] theorem lightN_agg (cs) : lightN (d + 1) (.agg cs) = cs.all (lightN d) := rfl
@[go_sem] theorem lightN_fn (f cs) : lightN (d + 1) (.fn f cs) = cs.all (lightN d) := rfl
@[go_sem] theorem lightN_tup (cs) : lightN (d + 1) (.tup cs) = cs.all (lightN d) := rfl
@[go_sem] theorem lightN_ifc (t x) : lightN (d + 1) (.ifc t x) = lightN d x := rfl
@[go_sem] theorem lightN_pnc (x) : lightN (d + 1) (.pnc x) = lightN d x := rfl
@[go_sem] theorem lightN_int (k n) : lightN d (.int k n) = true := by cases d <;> rfl
@[go_sem] theorem lightN_bool (n) : lightN d (.bool n) = true := by cases d <;> rfl
@[go_sem] theorem lightN_str (n) : lightN d (.str n) = true := by cases d <;> rfl
@[go_sem] theorem lightN_nils : lightN d .nils = true := by cases d <;> rfl
@[go_sem] theorem lightN_nilp : lightN d .nilp = true := by cases d <;> rfl
@[go_sem] theorem lightN_nili : lightN d .nili = true := by cases d <;> rfl
@[go_sem] theorem lightN_sl (k L) : lightN d (.sl k L) = L.isEmpty := by cases d <;> cases L <;> rfl
end
def lightB : Box → Bool
  | .obj cs => cs.all (lightN 4)
  | .row _ _ L _ => L.all fun xs => xs.all light
  | .dead => true
@[go_sem] theorem lightB_obj (cs) : lightB (.obj cs) = cs.all (lightN 4) := rfl
@[go_sem] theorem lightB_row (e sz L z) : lightB (.row e sz L z) = L.all fun xs => xs.all light := rfl
@[go_sem] theorem lightB_dead : lightB .dead = true := rfl
def lightH (hr : HR) : Bool := lightN 5 hr.v && hr.nw.all lightB
@[go_sem] theorem lightH_at (v up nw) : lightH ⟨v, up, nw⟩ = (lightN 5 v && nw.all lightB) := rfl
def withUp (up : List (Bid × Box)) : Option R → Option R
  | some r => some ⟨r.v, r.nw, up, r.fp, r.pan⟩
  | none => none
@[go_sem] theorem withUp_some (up r) : withUp up (some r) = some ⟨r.v, r.nw, up, r.fp, r.pan⟩ := rfl
/-- A callee that is told views, and leaves all memory as it is; what it makes is new. -/
def callV (b0 : Bid) (H : Heap) (args : List AV) : Option HR → Option R
  | some hr => if lightH hr = true then callH b0 [] (some hr) else if args.all plainA = true then withUp (frzs H (rowsIn args)) (callH b0 [] (some hr)) else none
  | none => none
def callS (b : Bid) (H : Heap) : Option Con → List AV → Option R
  | some (.p S), l => callR b H l (S (l.map (view H 3)))
  | some (.h S), l => runH b H S l (l.foldl (coll H 6) [])
  | some (.v S), l => callV b H l (S (l.map (view H 3)) [])
  | none, _ => none
def vCall (b : Bid) (H : Heap) (env : Env) : AV → List AV → Option R
  | .fn g caps, l => callS b H (env.lookup g) (l ++ caps)
  | _, _ => none
def vPick : AV → AV → AV → Option R
  | .bool t, a, b => val (bif t then a else b)
  | _, _, _ => none
def vBox (b : Bid) : Option (List AV) → Option R
  | some cs => some ⟨.ref b 0, [(b, .obj cs)], [], [], none⟩
  | none => none
def vAlloc (b : Bid) : Option TI → Option R
  | some i => if i.zero.isEmpty = true then none else some ⟨.ref b 0, [(b, .obj i.zero)], [], [], none⟩
  | none => none
def vBuild : Option TI → List (Nat × AV) → Option R
  | some i, l => if i.zero.isEmpty = true ∨ i.agg = false then none else optA (if i.arr then arrP i.esize l (some i.zero) else structP i.fields l (some i.zero))
  | none, _ => none
/-- Parts of a row: rows of one's own are told as lists, and stay as they are from then on. -/
def rowP (b : Bid) (i : TI) (n : Nat) (up : List (Bid × Box)) : Option (List AV) → Option R
  | some cs => if cs.all flatC = true ∧ cs.length = n * i.esize then some ⟨.own b n, [(b, .row i.etype i.esize (chunk i.esize n cs) false)], up, up.map (·.1), none⟩ else none
  | none => none
def vBuildSlice (b : Bid) (n : Nat) (H : Heap) : Option TI → Option TI → List (Nat × AV) → Option R
  | some i, some e, l => if i.slc = true ∧ e.zero.length = i.esize ∧ 0 < i.esize ∧ n * i.esize ≤ 16777216 ∧ (l.map (·.2)).all plainA = true then rowP b i n (frzs H (rowsIn (l.map (·.2)))) (arrP i.esize (l.map fun p => (p.1, view H 2 p.2)) (some (List.replicate n e.zero).flatten)) else none
  | _, _, _ => none
def vNil : AV → Option R
  | .ref b o => val (.ref b o)
  | .iref b o => val (.iref b o)
  | _ => none
def vNot : AV → Option R
  | .bool b => val (.bool !b)
  | _ => none
def vNeg : AV → Option R
  | .int k n => val (.int k (k.wrap (0 - n)))
  | _ => none
def convK (n : Int) : Option IntKind → Option R
  | some k => val (.int k (k.wrap n))
  | none => none
def vConv : Option TI → AV → Option R
  | some i, .int _ n => convK n i.kind
  | _, _ => none
def vExtract (i : Nat) : AV → Option R
  | .tup vs => optV vs[i]?
  | _ => none
/-- The greater of two. -/
def mx (a b : Int) : Int := if b > a then b else a
def mn (a b : Int) : Int := if b < a then b else a
def vMax : AV → AV → Option R
  | .int k a, .int _ b => val (.int k (mx a b))
  | _, _ => none
def vMax4 : AV → AV → AV → AV → Option R
  | .int k a, .int _ b, .int _ c, .int _ d => val (.int k (mx (mx (mx a b) c) d))
  | _, _, _, _ => none
def vMin : AV → AV → Option R
  | .int k a, .int _ b => val (.int k (mn a b))
  | _, _ => none
def vPanic : AV → Option R
  | .ifc t v => some ⟨.u, [], [], [], some (.ifc t v)⟩
  | _ => none
def vIface (t : TypeId) : AV → Option R
  | .u => none
  | v => val (.ifc t v)

def nid (d : Option Tmp) : Bid := (0, 16 * (d.getD 0))
@[go_sem] theorem nid_some (d) : nid (some d) = (0, 16 * d) := rfl

def vFunc (caps : List AV) : Fn → List Operand → Option R
  | .func f, [] => val (.fn f caps)
  | _, _ => none
def vUn : UnOp → AV → Option R
  | .not, x => vNot x
  | .neg, x => vNeg x
  | _, _ => none
def vSliceM (H : Heap) (x : AV) (i : Option TI) (lo hi : Option AV) : Option Operand → Option R
  | none => vSlice H x i (content H x) (bnd (some 0) lo) (bnd ((content H x).map (·.2.length)) hi)
  | some _ => none
/-- append of so many zeros to nothing. -/
def vZeros (b : Bid) : AV → AV → Option TI → Option TI → Option TI → Option R
  | .nils, .int _ n, some i, some ie, some i' => if i.slc = true ∧ ie.zero.length = i.esize ∧ 0 < i.esize ∧ i'.kind.isSome = true ∧ 0 < n ∧ n.toNat * i.ebytes ≤ 140737488355328 ∧ n ≤ 4611686018427387904 then some ⟨.own b n.toNat, [(b, .row i.etype i.esize (List.replicate n.toNat ie.zero) false)], [], [], none⟩ else none
  | _, _, _, _, _ => none
def vCap : AV → Option TI → Option R
  | .nils, some i => if i.slc = true then val (.int .i64 0) else none
  | _, _ => none
def vBuiltin (T : TypeId → Option TI) (dst : Option Tmp) (ρ : Operand → AV) (H : Heap) : Builtin → List Operand → List TypeId → Option R
  | .len, [x], [t] => vLen H (T t) (ρ x)
  | .max, [x, y], _ => vMax (ρ x) (ρ y)
  | .max, [x, y, z, uu], _ => vMax4 (ρ x) (ρ y) (ρ z) (ρ uu)
  | .min, [x, y], _ => vMin (ρ x) (ρ y)
  | .append, [s, x], [t, t'] => if t' = t then vAppend H (nid dst) (ρ s) (T t) ((T t).bind fun i => T i.etype) (content H (ρ x)) else vZeros (nid dst) (ρ s) (ρ x) (T t) ((T t).bind fun i => T i.etype) (T t')
  | .cap, [x], [t] => vCap (ρ x) (T t)
  | _, _, _ => none
def vCallC (T : TypeId → Option TI) (env : Env) (dst : Option Tmp) (ρ : Operand → AV) (H : Heap) (args : List Operand) (ts : List TypeId) : Callee → Option R
  | .builtin b => vBuiltin T dst ρ H b args ts
  | .value f => vCall (nid dst) H env (ρ f) (args.map ρ)
  | _ => none
def aVal (T : TypeId → Option TI) (env : Env) (dst : Option Tmp) (op : Op) (ρ : Operand → AV) (H : Heap) : Option R :=
  match op with
  | .move x => val (ρ x)
  | .assign x => val (ρ x)
  | .pick c a b => vPick (ρ c) (ρ a) (ρ b)
  | .alloc t => vAlloc (nid dst) (T t)
  | .box _ x => vBox (nid dst) (cells (ρ x))
  | .build t parts => vBuild (T t) (parts.toList.map fun p => (p.1, ρ p.2))
  | .buildSlice t n parts => vBuildSlice (nid dst) n H (T t) ((T t).bind fun i => T i.etype) (parts.toList.map fun p => (p.1, ρ p.2))
  | .load t a => vLoad H (T t) (ρ a)
  | .store t a x => vStore H (T t) (ρ a) (ρ x)
  | .nilCheck x => vNil (ρ x)
  | .binOp op t x y _ => vBin (T t) op (ρ x) (ρ y)
  | .unOp op _ x => vUn op (ρ x)
  | .convert _ d x => vConv (T d) (ρ x)
  | .makeInterface t x => vIface t (ρ x)
  | .panic x => vPanic (ρ x)
  | .makeFunc fn first caps => vFunc (caps.toList.map ρ) fn first.toList
  | .slice t x lo hi mx => vSliceM H (ρ x) (T t) (lo.map ρ) (hi.map ρ) mx
  | .fieldAddr t x f => vFieldAddr H (T t) (ρ x) f
  | .field t x f => vField (T t) (ρ x) f
  | .indexAddr t x ix => vIndexAddr H (T t) (ρ x) (ρ ix)
  | .extract x i => vExtract i (ρ x)
  | .call c => vCallC T env dst ρ H c.args.toList c.argTypes.toList c.callee
  | _ => none

def eva (t : Nat → AV) : Operand → AV
  | .tmp i => t i
  | .const v => cAV v
  | .func f => .fn f []
  | .global _ => .u
@[go_sem] theorem eva_tmp (t i) : eva t (.tmp i) = t i := rfl
@[go_sem] theorem eva_const (t v) : eva t (.const v) = cAV v := rfl
@[go_sem] theorem eva_func (t f) : eva t (.func f) = .fn f [] := rfl

def tput (t : Nat → AV) : Option Tmp → AV → Nat → AV
  | some d, v => fput t d v
  | none, _ => t
@[go_sem] theorem tput_some (t d v) : tput t (some d) v = fput t d v := rfl
@[go_sem] theorem tput_none (t v) : tput t none v = t := rfl

/-- What one operation leaves: the state, the boxes changed, the boxes looked at; or a panic. -/
structure Out where
  s : St
  ch : List Bid
  fp : List Bid
  pan : Option AV
def finH (d : Option Tmp) (s : St) (r : R) : Option Heap → Option Out
  | some H => some ⟨⟨match r.pan with | none => tput s.t d r.v | some _ => s.t, hputs H r.up⟩, r.up.map (·.1), r.fp, r.pan⟩
  | none => none
def fin (d : Option Tmp) (s : St) : Option R → Option Out
  | some r => finH d s r (hnews s.H r.nw)
  | none => none
def guarded (want : Bool) (d : Option Tmp) (s : St) (go : Option Out) : AV → Option Out
  | .bool b => if b = want then go else some ⟨⟨tput s.t d (.tup []), s.H⟩, [], [], none⟩
  | .tup [] => some ⟨⟨tput s.t d (.tup []), s.H⟩, [], [], none⟩
  | _ => none
/-- What the guard of an operation holds. -/
def guardV (ops : Array Oper) (j : Nat) (t : Nat → AV) : AV := match (ops[j]?).bind (·.dst) with | some d => t d | none => .u
/-- One operation; with its guard. -/
def aStep (T : TypeId → Option TI) (env : Env) (ops : Array Oper) (o : Oper) (s : St) : Option Out :=
  match o.guard with
  | none => fin o.dst s (aVal T env o.dst o.op (eva s.t) s.H)
  | some (j, want) => guarded want o.dst s (fin o.dst s (aVal T env o.dst o.op (eva s.t) s.H)) (guardV ops j s.t)

/-- What was changed, and looked at, by each operation of a region. -/
abbrev Trace := List (List Bid × List Bid)
inductive Run where
  | done (s : St) (tr : Trace)
  | pan (s : St) (v : AV)
  | bad
def Run.cons (c f : List Bid) : Run → Run
  | .done s tr => .done s ((c, f) :: tr)
  | r => r
def aRun (T : TypeId → Option TI) (env : Env) (ops : Array Oper) : List Oper → St → Run
  | [], s => .done s []
  | o :: l, s => match aStep T env ops o s with
    | some ⟨s', c, f, none⟩ => (aRun T env ops l s').cons c f
    | some ⟨s', _, _, some v⟩ => .pan s' v
    | none => .bad

inductive X where
  | normal | exit (id : Nat) | ret | pan (v : AV)

/-- Each two operations that the edges leave open: neither changes what the other looks at. -/
def okTr (ops : Array Oper) (tr : Trace) : Bool :=
  tr.all (fun x => x.1.isEmpty) ||
  (let b := Region.before ops
   (List.range ops.size).all fun j => (List.range j).all fun i =>
     (b.getD j 0).testBit i ||
     (let x := tr.getD i ([], []); let y := tr.getD j ([], []);
      x.1.all (fun p => !y.2.contains p && !y.1.contains p) && y.1.all (fun p => !x.2.contains p)))

def thenX (K : St → Prop) (Q : X → St → Prop) : X → St → Prop
  | .normal, s => K s
  | x, s => Q x s
def blockX (id : Nat) (Q : X → St → Prop) : X → St → Prop
  | .exit i, s => if i = id then Q .normal s else Q (.exit i) s
  | x, s => Q x s
def runK (K : St → Trace → Prop) (Q : X → St → Prop) : Run → Prop
  | .done s tr => K s tr
  | .pan s v => Q (.pan v) s
  | .bad => False
def condK (v : AV) (a b : Prop) : Prop := match v with
  | .bool t => (t = true → a) ∧ (t = false → b)
  | _ => False
def NoPan (Q : X → St → Prop) : X → St → Prop
  | .pan _, _ => False
  | x, s => Q x s
end Go.Proofs.Ytebflegkdfhoaaa.AE
