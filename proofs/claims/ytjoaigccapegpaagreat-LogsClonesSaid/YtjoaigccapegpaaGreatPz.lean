/-
 Worlds that a call has only added blocks to ('more'), and rows of cells as whole arrays ('row'): what a walk over structs of many cells wants. Conditions: none; every lemma names its own.
-/
import Derived.WalkKit
import Derived.WalkLawsBesides
import Derived.WalkSpells
import Derived.Deep.Draws
import Derived.ChangeKeysEq
import Derived.Lib.Hide
import Derived.ProofKit
import Derived.OpenShut
import Derived.ChangeOld
import Derived.Deep.Slices
import Derived.Deep.Fields
set_option linter.constructorNameAsVariable false
namespace Go.Proofs.YtjoaigccapegpaaGreat
open Go.RowKit
def more (w:World) (n:Nat) (os:List Obj):World:={ w with heap:=w.heap++os.toArray,drawn:=w.drawn + n }
def Adds (w w':World):Prop:=∃ n os,w'=more w n os
def row (w:World) (g:Nat):Array Value:=match w.heap[g]? with | some (.cells c _ _)=>c | _=>#[]
def thawed (w:World) (g:Nat):Bool:=match w.heap[g]? with | some (.cells _ _ f)=>f == (0,0) | _=>false
theorem thawed_cells {w:World} {g:Nat} (h:thawed w g=true):∃ c e,w.heap[g]?=some (.cells c e (0,0)):=by
 unfold thawed at h
 split at h
 ·
  rename_i c e f hb
  exact ⟨c,e,by rw [hb]; simp at h; rw [h]⟩
 · simp at h
theorem more_zero (w:World):more w 0 []=w:=by simp [more]
theorem more_more (w:World) (n m:Nat) (os ps:List Obj):more (more w n os) m ps=more w (n + m) (os++ps):=by
 simp [more,Nat.add_assoc]
theorem alloc_more (w:World) (o:Obj):w.alloc o=more w 0 [o]:=by
 show ({ w with heap:=w.heap.push o }:World)={ w with heap:=w.heap++#[o],drawn:=w.drawn }
 rw [Array.push_eq_append]
theorem drew_more (w:World):w.drew=more w 1 []:=by
 show ({ w with drawn:=w.drawn + 1 }:World)={ w with heap:=w.heap++#[],drawn:=w.drawn + 1 }
 rw [Array.append_empty]
theorem Adds.refl (w:World):Adds w w:=⟨0,[],(more_zero w).symm⟩
theorem Adds.trans {a b c:World} (h:Adds a b) (k:Adds b c):Adds a c:=by
 obtain ⟨n,os,rfl⟩:=h
 obtain ⟨m,ps,rfl⟩:=k
 exact ⟨_,_,more_more _ _ _ _ _⟩
theorem Adds.more {a b:World} (h:Adds a b) (n:Nat) (os:List Obj):Adds a (more b n os):=h.trans ⟨n,os,rfl⟩
theorem Adds.alloc {a b:World} (h:Adds a b) (o:Obj):Adds a (b.alloc o):=h.trans ⟨0,[o],alloc_more _ _⟩
theorem Adds.drew {a b:World} (h:Adds a b):Adds a b.drew:=h.trans ⟨1,[],drew_more _⟩
theorem Adds.below {w w':World} (h:Adds w w'):Below w.heap.size w w':=by
 obtain ⟨n,os,rfl⟩:=h
 exact ⟨rfl,rfl,rfl,by simp [YtjoaigccapegpaaGreat.more],fun k hk=>by simp [YtjoaigccapegpaaGreat.more,Array.getElem?_append,hk]⟩
@[go_sem] theorem size_more (w:World) (n:Nat) (os:List Obj):(more w n os).heap.size=w.heap.size + os.length:=by simp [more]
theorem heap_more (w:World) (n:Nat) (os:List Obj) (k:Nat) (h:k < w.heap.size):(more w n os).heap[k]?=w.heap[k]?:=by
 simp [more,Array.getElem?_append,h]
@[go_sem] theorem cell?_more (w:World) (n:Nat) (os:List Obj) (b o:Nat) (h:b < w.heap.size):(more w n os).cell? ⟨b,o,none⟩=w.cell? ⟨b,o,none⟩:=by
 simp only [World.cell?,heap_more w n os b h]
@[go_sem] theorem frozen?_more (w:World) (n:Nat) (os:List Obj) (b o:Nat) (h:b < w.heap.size):(more w n os).frozen? ⟨b,o,none⟩=w.frozen? ⟨b,o,none⟩:=by
 simp only [World.frozen?,heap_more w n os b h]
@[go_sem] theorem row_more (w:World) (n:Nat) (os:List Obj) (b:Nat) (h:b < w.heap.size):row (more w n os) b=row w b:=by
 simp only [row,heap_more w n os b h]
@[go_sem] theorem thawed_more (w:World) (n:Nat) (os:List Obj) (b:Nat) (h:b < w.heap.size):thawed (more w n os) b=thawed w b:=by
 simp only [thawed,heap_more w n os b h]
@[go_sem] theorem setCell_more (w:World) (n:Nat) (os:List Obj) (b o:Nat) (v:Value) (h:b < w.heap.size):(more w n os).setCell ⟨b,o,none⟩ v=more (w.setCell ⟨b,o,none⟩ v) n os:=by
 simp only [World.setCell,more]
 congr 1
 apply Array.ext_getElem?
 intro k
 simp only [Array.getElem?_modify,Array.getElem?_append,Array.size_modify]
 by_cases hk:k < w.heap.size
 · simp [hk]
 ·
  have:b ≠ k:=by omega
  simp [hk,this]
@[go_sem] theorem row_alloc_at (w:World) (c:Array Value) (t:TypeId) (g:Nat) (h:g=w.heap.size):row (w.alloc (.cells c t)) g=c:=by
 subst h
 show (match (w.heap.push (Obj.cells c t))[w.heap.size]? with | some (.cells c _ _)=>c | _=>#[])=c
 rw [Array.getElem?_push_size]
@[go_sem] theorem row_alloc_past (w:World) (o:Obj) (g:Nat) (h:g < w.heap.size):row (w.alloc o) g=row w g:=by
 simp only [row,Below.heap_alloc w o g h]
@[go_sem] theorem thawed_alloc_at (w:World) (c:Array Value) (t:TypeId) (g:Nat) (h:g=w.heap.size):thawed (w.alloc (.cells c t)) g=true:=by
 subst h
 show (match (w.heap.push (Obj.cells c t))[w.heap.size]? with | some (.cells _ _ f)=>f == (0,0) | _=>false)=true
 rw [Array.getElem?_push_size]
 rfl
@[go_sem] theorem thawed_alloc_past (w:World) (o:Obj) (g:Nat) (h:g < w.heap.size):thawed (w.alloc o) g=thawed w g:=by
 simp only [thawed,Below.heap_alloc w o g h]
@[go_sem] theorem row_drew (w:World) (g:Nat):row w.drew g=row w g:=rfl
@[go_sem] theorem thawed_drew (w:World) (g:Nat):thawed w.drew g=thawed w g:=rfl
theorem cell?_row (w:World) (b o:Nat):w.cell? ⟨b,o,none⟩=(row w b)[o]?:=by
 simp only [World.cell?,row]
 cases w.heap[b]? with
 | none=>rfl
 | some x=>cases x <;> rfl
def splice (c:Array Value) (o:Nat) (d:List Value):Array Value:=match d with
 | []=>c
 | v :: r=>splice (c.setIfInBounds o v) (o + 1) r
theorem size_splice (d:List Value):∀ (c:Array Value) (o:Nat),(splice c o d).size=c.size:=by
 induction d with
 | nil=>intro c o; rfl
 | cons v r ih=>intro c o; simp [splice,ih]
theorem get_splice (d:List Value):∀ (c:Array Value) (o i:Nat),o + d.length<=c.size->(splice c o d)[i]?=if o<=i/\i < o + d.length then d[i - o]? else c[i]?:=by
 induction d with
 | nil=>intro c o i h; simp [splice]; intro h1 h2; omega
 | cons v r ih=>
  intro c o i h
  simp only [List.length_cons] at h
  rw [splice,ih _ _ _ (by simp; omega)]
  by_cases h1:o=i
  ·
   subst h1
   rw [if_neg (by omega),if_pos (by simp),Array.getElem?_setIfInBounds_self_of_lt (by omega)]
   simp
  ·
   by_cases h2:o + 1<=i/\i < o + 1 + r.length
   ·
    rw [if_pos h2,if_pos (by simp; omega)]
    have:i - o=(i - (o + 1)) + 1:=by omega
    rw [this]; simp
   ·
    rw [if_neg h2,if_neg (by simp; omega)]
    rw [Array.getElem?_setIfInBounds_ne h1]
theorem splice_whole (c d:Array Value) (h:c.size=d.size):splice c 0 d.toList=d:=by
 apply Array.ext_getElem?
 intro i
 rw [get_splice _ _ _ _ (by simp [h])]
 by_cases hi:i < d.size
 · simp [hi]
 · simp [hi,h]
section
variable (a x1 x2 x3 x4 x5 x6 x7 x8:Nat)
@[go_sem] theorem le_sum2:a<=a + x1 + x2:=by omega
@[go_sem] theorem le_sum3:a<=a + x1 + x2 + x3:=by omega
@[go_sem] theorem le_sum4:a<=a + x1 + x2 + x3 + x4:=by omega
@[go_sem] theorem le_sum5:a<=a + x1 + x2 + x3 + x4 + x5:=by omega
@[go_sem] theorem le_sum6:a<=a + x1 + x2 + x3 + x4 + x5 + x6:=by omega
@[go_sem] theorem le_sum7:a<=a + x1 + x2 + x3 + x4 + x5 + x6 + x7:=by omega
@[go_sem] theorem le_sum8:a<=a + x1 + x2 + x3 + x4 + x5 + x6 + x7 + x8:=by omega
@[go_sem] theorem lt_sum2_1_1:a < a + 1 + x2:=by omega
@[go_sem] theorem lt_sum2_1_2:a < a + 2 + x2:=by omega
@[go_sem] theorem lt_sum2_1_3:a < a + 3 + x2:=by omega
@[go_sem] theorem lt_sum3_1_1:a < a + 1 + x2 + x3:=by omega
@[go_sem] theorem lt_sum3_1_2:a < a + 2 + x2 + x3:=by omega
@[go_sem] theorem lt_sum3_1_3:a < a + 3 + x2 + x3:=by omega
@[go_sem] theorem lt_sum3_2_1:a < a + x1 + 1 + x3:=by omega
@[go_sem] theorem lt_sum3_2_2:a < a + x1 + 2 + x3:=by omega
@[go_sem] theorem lt_sum3_2_3:a < a + x1 + 3 + x3:=by omega
@[go_sem] theorem lt_sum4_1_1:a < a + 1 + x2 + x3 + x4:=by omega
@[go_sem] theorem lt_sum4_1_2:a < a + 2 + x2 + x3 + x4:=by omega
@[go_sem] theorem lt_sum4_1_3:a < a + 3 + x2 + x3 + x4:=by omega
@[go_sem] theorem lt_sum4_2_1:a < a + x1 + 1 + x3 + x4:=by omega
@[go_sem] theorem lt_sum4_2_2:a < a + x1 + 2 + x3 + x4:=by omega
@[go_sem] theorem lt_sum4_2_3:a < a + x1 + 3 + x3 + x4:=by omega
@[go_sem] theorem lt_sum4_3_1:a < a + x1 + x2 + 1 + x4:=by omega
@[go_sem] theorem lt_sum4_3_2:a < a + x1 + x2 + 2 + x4:=by omega
@[go_sem] theorem lt_sum4_3_3:a < a + x1 + x2 + 3 + x4:=by omega
@[go_sem] theorem lt_sum5_1_1:a < a + 1 + x2 + x3 + x4 + x5:=by omega
@[go_sem] theorem lt_sum5_1_2:a < a + 2 + x2 + x3 + x4 + x5:=by omega
@[go_sem] theorem lt_sum5_1_3:a < a + 3 + x2 + x3 + x4 + x5:=by omega
@[go_sem] theorem lt_sum5_2_1:a < a + x1 + 1 + x3 + x4 + x5:=by omega
@[go_sem] theorem lt_sum5_2_2:a < a + x1 + 2 + x3 + x4 + x5:=by omega
@[go_sem] theorem lt_sum5_2_3:a < a + x1 + 3 + x3 + x4 + x5:=by omega
@[go_sem] theorem lt_sum5_3_1:a < a + x1 + x2 + 1 + x4 + x5:=by omega
@[go_sem] theorem lt_sum5_3_2:a < a + x1 + x2 + 2 + x4 + x5:=by omega
@[go_sem] theorem lt_sum5_3_3:a < a + x1 + x2 + 3 + x4 + x5:=by omega
@[go_sem] theorem lt_sum5_4_1:a < a + x1 + x2 + x3 + 1 + x5:=by omega
@[go_sem] theorem lt_sum5_4_2:a < a + x1 + x2 + x3 + 2 + x5:=by omega
@[go_sem] theorem lt_sum5_4_3:a < a + x1 + x2 + x3 + 3 + x5:=by omega
@[go_sem] theorem lt_sum6_1_1:a < a + 1 + x2 + x3 + x4 + x5 + x6:=by omega
@[go_sem] theorem lt_sum6_1_2:a < a + 2 + x2 + x3 + x4 + x5 + x6:=by omega
@[go_sem] theorem lt_sum6_1_3:a < a + 3 + x2 + x3 + x4 + x5 + x6:=by omega
@[go_sem] theorem lt_sum6_2_1:a < a + x1 + 1 + x3 + x4 + x5 + x6:=by omega
@[go_sem] theorem lt_sum6_2_2:a < a + x1 + 2 + x3 + x4 + x5 + x6:=by omega
@[go_sem] theorem lt_sum6_2_3:a < a + x1 + 3 + x3 + x4 + x5 + x6:=by omega
@[go_sem] theorem lt_sum6_3_1:a < a + x1 + x2 + 1 + x4 + x5 + x6:=by omega
@[go_sem] theorem lt_sum6_3_2:a < a + x1 + x2 + 2 + x4 + x5 + x6:=by omega
@[go_sem] theorem lt_sum6_3_3:a < a + x1 + x2 + 3 + x4 + x5 + x6:=by omega
@[go_sem] theorem lt_sum6_4_1:a < a + x1 + x2 + x3 + 1 + x5 + x6:=by omega
@[go_sem] theorem lt_sum6_4_2:a < a + x1 + x2 + x3 + 2 + x5 + x6:=by omega
@[go_sem] theorem lt_sum6_4_3:a < a + x1 + x2 + x3 + 3 + x5 + x6:=by omega
@[go_sem] theorem lt_sum6_5_1:a < a + x1 + x2 + x3 + x4 + 1 + x6:=by omega
@[go_sem] theorem lt_sum6_5_2:a < a + x1 + x2 + x3 + x4 + 2 + x6:=by omega
@[go_sem] theorem lt_sum6_5_3:a < a + x1 + x2 + x3 + x4 + 3 + x6:=by omega
@[go_sem] theorem lt_sum7_1_1:a < a + 1 + x2 + x3 + x4 + x5 + x6 + x7:=by omega
@[go_sem] theorem lt_sum7_2_1:a < a + x1 + 1 + x3 + x4 + x5 + x6 + x7:=by omega
@[go_sem] theorem lt_sum7_3_1:a < a + x1 + x2 + 1 + x4 + x5 + x6 + x7:=by omega
@[go_sem] theorem lt_sum7_4_1:a < a + x1 + x2 + x3 + 1 + x5 + x6 + x7:=by omega
@[go_sem] theorem lt_sum7_5_1:a < a + x1 + x2 + x3 + x4 + 1 + x6 + x7:=by omega
@[go_sem] theorem lt_sum7_6_1:a < a + x1 + x2 + x3 + x4 + x5 + 1 + x7:=by omega
@[go_sem] theorem lt_sum8_1_1:a < a + 1 + x2 + x3 + x4 + x5 + x6 + x7 + x8:=by omega
@[go_sem] theorem lt_sum8_2_1:a < a + x1 + 1 + x3 + x4 + x5 + x6 + x7 + x8:=by omega
@[go_sem] theorem lt_sum8_3_1:a < a + x1 + x2 + 1 + x4 + x5 + x6 + x7 + x8:=by omega
@[go_sem] theorem lt_sum8_4_1:a < a + x1 + x2 + x3 + 1 + x5 + x6 + x7 + x8:=by omega
@[go_sem] theorem lt_sum8_5_1:a < a + x1 + x2 + x3 + x4 + 1 + x6 + x7 + x8:=by omega
@[go_sem] theorem lt_sum8_6_1:a < a + x1 + x2 + x3 + x4 + x5 + 1 + x7 + x8:=by omega
@[go_sem] theorem lt_sum8_7_1:a < a + x1 + x2 + x3 + x4 + x5 + x6 + 1 + x8:=by omega
end
@[go_sem] theorem lt_sum {b n k:Nat} (h:b < n):b < n + k:=Nat.lt_of_lt_of_le h (Nat.le_add_right _ _)
@[go_sem] theorem le_row {b:Nat} {w:World} (h:b < w.heap.size):b<=w.heap.size:=Nat.le_of_lt h
def setRow (w:World) (g:Nat) (d:Array Value):World:={ w with heap:=w.heap.modify g fun | .cells _ e f=>.cells d e f | o=>o }
theorem heap_setRow (w:World) (g:Nat) (d:Array Value) (k:Nat) (h:k ≠ g):(setRow w g d).heap[k]?=w.heap[k]?:=by
 simp only [setRow,Array.getElem?_modify]; rw [if_neg (by omega)]
@[go_sem] theorem size_setRow (w:World) (g:Nat) (d:Array Value):(setRow w g d).heap.size=w.heap.size:=by simp [setRow]
@[go_sem] theorem setRow_alloc_at (w:World) (c d:Array Value) (t:TypeId) (g:Nat) (h:g=w.heap.size):setRow (w.alloc (.cells c t)) g d=w.alloc (.cells d t):=by
 subst h
 simp only [setRow,World.alloc]
 congr 1
 apply Array.ext_getElem?
 intro k
 simp only [Array.getElem?_modify,Array.getElem?_push]
 by_cases hk:k=w.heap.size
 · simp [hk]
 · simp [hk]; omega
@[go_sem] theorem setRow_alloc_past (w:World) (o:Obj) (d:Array Value) (g:Nat) (h:g < w.heap.size):setRow (w.alloc o) g d=(setRow w g d).alloc o:=by
 simp only [setRow,World.alloc]
 congr 1
 apply Array.ext_getElem?
 intro k
 simp only [Array.getElem?_modify,Array.getElem?_push,Array.size_modify]
 by_cases hk:k=w.heap.size
 ·
  have:g ≠ k:=by omega
  simp [hk]
  omega
 · simp [hk]
@[go_sem] theorem setRow_drew (w:World) (g:Nat) (d:Array Value):setRow w.drew g d=(setRow w g d).drew:=rfl
@[go_sem] theorem setRow_more (w:World) (n:Nat) (os:List Obj) (g:Nat) (d:Array Value) (h:g < w.heap.size):setRow (more w n os) g d=more (setRow w g d) n os:=by
 simp only [setRow,more]
 congr 1
 apply Array.ext_getElem?
 intro k
 simp only [Array.getElem?_modify,Array.getElem?_append,Array.size_modify]
 by_cases hk:k < w.heap.size
 · simp [hk]
 ·
  have:g ≠ k:=by omega
  simp [hk,this]
@[go_sem] theorem row_setRow_other (w:World) (g k:Nat) (d:Array Value) (h:k ≠ g):row (setRow w g d) k=row w k:=by
 simp only [row,heap_setRow w g d k h]
@[go_sem] theorem row_setRow_same (w:World) (g:Nat) (d:Array Value) (h:thawed w g=true):row (setRow w g d) g=d:=by
 obtain ⟨c,e,hb⟩:=thawed_cells h
 simp only [row,setRow,Array.getElem?_modify,if_true,hb,Option.map_some]
@[go_sem] theorem thawed_setRow (w:World) (g k:Nat) (d:Array Value):thawed (setRow w g d) k=thawed w k:=by
 by_cases h:k=g
 ·
  subst h
  simp only [thawed,setRow,Array.getElem?_modify,if_true]
  generalize w.heap[k]?=x
  cases x with
  | none=>rfl
  | some o=>cases o <;> rfl
 · simp only [thawed,heap_setRow w g d k h]
section
variable {P:Program} (w:World)
def loadRow (t:TypeId) (a:Value):Sem Value:=Instr.loadAt t a
def storeRow (t:TypeId) (a v:Value):Sem Unit:=Instr.storeAt t a v
@[simp ↓ high] theorem loadAt_row (t:TypeId) (a:Value):Instr.loadAt t a=loadRow t a:=rfl
@[simp ↓ high] theorem storeAt_row (t:TypeId) (a v:Value):Instr.storeAt t a v=storeRow t a v:=rfl
theorem loadRow_at (t:TypeId) (g o:Nat):loadRow t (.pointer (some ⟨g,o,none⟩))=loadVar t ⟨g,o,none⟩:=rfl
theorem storeRow_at (t:TypeId) (g o:Nat) (v:Value):storeRow t (.pointer (some ⟨g,o,none⟩)) v=storeVar t ⟨g,o,none⟩ v:=rfl
@[go_sem] theorem run_loadRow_one (t:TypeId) (g o:Nat) (ha:(isAgg t).run P w=.ok false w):(loadRow t (.pointer (some ⟨g,o,none⟩))).run P w=(load ⟨g,o,none⟩).run P w:=by
 simp only [loadRow_at,loadVar,Sem.run_bind,ha,Result.andThen_ok,Bool.false_eq_true,if_false]
def Plain (d:Array Value):Prop:=∀ v ∈ d,v.oneCell'=true
def over (c:Array Value) (o:Nat) (d:Array Value):Array Value:=splice c o d.toList
theorem run_storeRow_one (t:TypeId) (g o:Nat) (v:Value) (hv:v.oneCell'=true) (hs:(sizeOf t).run P w=.ok 1 w) :
  (storeRow t (.pointer (some ⟨g,o,none⟩)) v).run P w=(store ⟨g,o,none⟩ v).run P w:=by
 have hc:v.cells=#[v]:=by cases v <;> first | rfl | (simp [Value.oneCell'] at hv)
 have ha:(⟨g,o,none⟩:Addr).add 0=⟨g,o,none⟩:=rfl
 simp only [storeRow_at,storeVar,hc,Sem.run_bind,hs,Result.andThen_ok,List.size_toArray,List.length_cons,List.length_nil,Nat.zero_add,ne_eq,not_true_eq_false,if_false,storeCells,ha]
 generalize (store ⟨g,o,none⟩ v).run P w=r
 cases r <;> rfl
theorem Plain.set (d:Array Value) (i:Nat) (v:Value) (h:Plain d) (hv:v.oneCell'=true):Plain (d.setIfInBounds i v):=by
 intro u hu
 rcases Array.mem_or_eq_of_mem_setIfInBounds hu with h' | h'
 · exact h u h'
 · rw [h']; exact hv
@[go_sem] theorem run_storeRow_int (t:TypeId) (g o:Nat) (k:IntKind) (n:Int) (hs:(sizeOf t).run P w=.ok 1 w):(storeRow t (.pointer (some ⟨g,o,none⟩)) (.int k n)).run P w=(store ⟨g,o,none⟩ (.int k n)).run P w:=run_storeRow_one w t g o _ rfl hs
@[go_sem] theorem Plain_set_int (d:Array Value) (i:Nat) (k:IntKind) (n:Int) (h:Plain d):Plain (d.setIfInBounds i (.int k n)):=Plain.set d i _ h rfl
@[go_sem] theorem run_storeRow_bool (t:TypeId) (g o:Nat) (b:Bool) (hs:(sizeOf t).run P w=.ok 1 w):(storeRow t (.pointer (some ⟨g,o,none⟩)) (.bool b)).run P w=(store ⟨g,o,none⟩ (.bool b)).run P w:=run_storeRow_one w t g o _ rfl hs
@[go_sem] theorem Plain_set_bool (d:Array Value) (i:Nat) (b:Bool) (h:Plain d):Plain (d.setIfInBounds i (.bool b)):=Plain.set d i _ h rfl
@[go_sem] theorem run_storeRow_string (t:TypeId) (g o:Nat) (s:ByteArray) (hs:(sizeOf t).run P w=.ok 1 w):(storeRow t (.pointer (some ⟨g,o,none⟩)) (.string s)).run P w=(store ⟨g,o,none⟩ (.string s)).run P w:=run_storeRow_one w t g o _ rfl hs
@[go_sem] theorem Plain_set_string (d:Array Value) (i:Nat) (s:ByteArray) (h:Plain d):Plain (d.setIfInBounds i (.string s)):=Plain.set d i _ h rfl
@[go_sem] theorem run_storeRow_pointer (t:TypeId) (g o:Nat) (a:Option Addr) (hs:(sizeOf t).run P w=.ok 1 w):(storeRow t (.pointer (some ⟨g,o,none⟩)) (.pointer a)).run P w=(store ⟨g,o,none⟩ (.pointer a)).run P w:=run_storeRow_one w t g o _ rfl hs
@[go_sem] theorem Plain_set_pointer (d:Array Value) (i:Nat) (a:Option Addr) (h:Plain d):Plain (d.setIfInBounds i (.pointer a)):=Plain.set d i _ h rfl
@[go_sem] theorem run_storeRow_slice (t:TypeId) (g o:Nat) (a:Option Addr) (n c:Nat) (hs:(sizeOf t).run P w=.ok 1 w):(storeRow t (.pointer (some ⟨g,o,none⟩)) (.slice a n c)).run P w=(store ⟨g,o,none⟩ (.slice a n c)).run P w:=run_storeRow_one w t g o _ rfl hs
@[go_sem] theorem Plain_set_slice (d:Array Value) (i:Nat) (a:Option Addr) (n c:Nat) (h:Plain d):Plain (d.setIfInBounds i (.slice a n c)):=Plain.set d i _ h rfl
@[go_sem] theorem run_storeRow_iface (t:TypeId) (g o:Nat) (u:TypeId) (v:Value) (hs:(sizeOf t).run P w=.ok 1 w):(storeRow t (.pointer (some ⟨g,o,none⟩)) (.iface u v)).run P w=(store ⟨g,o,none⟩ (.iface u v)).run P w:=run_storeRow_one w t g o _ rfl hs
@[go_sem] theorem Plain_set_iface (d:Array Value) (i:Nat) (u:TypeId) (v:Value) (h:Plain d):Plain (d.setIfInBounds i (.iface u v)):=Plain.set d i _ h rfl
@[go_sem] theorem run_storeRow_nilIface (t:TypeId) (g o:Nat)  (hs:(sizeOf t).run P w=.ok 1 w):(storeRow t (.pointer (some ⟨g,o,none⟩)) (.nilIface)).run P w=(store ⟨g,o,none⟩ (.nilIface)).run P w:=run_storeRow_one w t g o _ rfl hs
@[go_sem] theorem Plain_set_nilIface (d:Array Value) (i:Nat)  (h:Plain d):Plain (d.setIfInBounds i (.nilIface)):=Plain.set d i _ h rfl
@[go_sem] theorem run_storeRow_func (t:TypeId) (g o:Nat) (f:Fn) (a c:Array Value) (hs:(sizeOf t).run P w=.ok 1 w):(storeRow t (.pointer (some ⟨g,o,none⟩)) (.func f a c)).run P w=(store ⟨g,o,none⟩ (.func f a c)).run P w:=run_storeRow_one w t g o _ rfl hs
@[go_sem] theorem Plain_set_func (d:Array Value) (i:Nat) (f:Fn) (a c:Array Value) (h:Plain d):Plain (d.setIfInBounds i (.func f a c)):=Plain.set d i _ h rfl
@[go_sem] theorem run_storeRow_map (t:TypeId) (g o:Nat) (r:Option Nat) (hs:(sizeOf t).run P w=.ok 1 w):(storeRow t (.pointer (some ⟨g,o,none⟩)) (.map r)).run P w=(store ⟨g,o,none⟩ (.map r)).run P w:=run_storeRow_one w t g o _ rfl hs
@[go_sem] theorem Plain_set_map (d:Array Value) (i:Nat) (r:Option Nat) (h:Plain d):Plain (d.setIfInBounds i (.map r)):=Plain.set d i _ h rfl
end
@[go_sem] theorem over_all (c d:Array Value) (h:c.size=d.size):over c 0 d=d:=splice_whole c d h
@[go_sem] theorem size_over (c d:Array Value) (o:Nat):(over c o d).size=c.size:=size_splice _ _ _
@[go_sem] theorem extract_all (c:Array Value) (n:Nat) (h:c.size<=n):c.extract 0 n=c:=by
 rw [Array.extract_eq_self_of_le h]
section
variable {P:Program} {fn:Func} {R:Ending->World->Prop} {a:Act} {w:World} {p u u':Tmp} {ty n g:Nat} {D:Array Value}
end
def A (l:List Int):Array Value:=(l.map (Value.int .i64)).toArray
@[go_sem] theorem size_A (l:List Int):(A l).size=l.length:=by simp [A]
theorem get_A (l:List Int) (i:Nat):(A l)[i]?=(l[i]?).map (Value.int .i64):=by simp [A]
@[go_sem] theorem plain_A (l:List Int):Plain (A l):=by
 intro v hv
 simp only [A,List.mem_toArray,List.mem_map] at hv
 obtain ⟨x,_,rfl⟩:=hv
 rfl
@[go_sem] theorem set_A (l:List Int) (i:Nat) (x:Int):(A l).setIfInBounds i (.int .i64 x)=A (l.set i x):=by
 simp [A,List.map_set]
theorem extract_A (l:List Int) (i j:Nat):(A l).extract i j=A ((l.take j).drop i):=by
 apply Array.ext_getElem?
 intro k
 simp only [Array.getElem?_extract,get_A,size_A,List.getElem?_drop,List.getElem?_take]
 by_cases h:k < min j l.length - i
 · rw [if_pos h,if_pos (by omega)]
 ·
  rw [if_neg h]
  by_cases h2:i + k < j
  · rw [if_pos h2,List.getElem?_eq_none (by omega)]; rfl
  · rw [if_neg h2]; rfl
def tiles (P:Program) (off total:Nat):List Field->Bool
 | []=>off == total
 | f :: fs=>f.offset == off && f.name != "_" && tiles P (off + P.cellsOf f.type) total fs
def flatAt (P:Program):Nat->TypeId->Bool
 | 0,_=>false
 | d + 1,t=>(P.info? t).isSome && match P.underlying t with
  | some (.int .i64)=>P.cellsOf t == 1
  | some (.array n e)=>P.cellsOf t == n * P.cellsOf e && flatAt P d e
  | some (.struct fs)=>!P.stoodInHeld t && tiles P 0 (P.cellsOf t) fs.toList && fs.toList.all (fun f=>flatAt P d f.type)
  | _=>false
section
variable {P:Program}
theorem run_sizeOf (w:World) {t:TypeId} (h:(P.info? t).isSome=true):(Go.sizeOf t).run P w=.ok (P.cellsOf t) w:=by
 obtain ⟨i,hi⟩:=Option.isSome_iff_exists.1 h
 simp [Go.sizeOf,typeInfo,Program.cellsOf,hi]
theorem flat_info {d:Nat} {t:TypeId} (h:flatAt P d t=true):(P.info? t).isSome=true:=by
 cases d with
 | zero=>simp [flatAt] at h
 | succ d=>unfold flatAt at h; simp only [Bool.and_eq_true] at h; exact h.1
end
@[go_sem] theorem lit_A1 (a:Int):Value.agg #[.int .i64 a]=.agg (A [a]):=rfl
@[go_sem] theorem lit_A2 (a b:Int):Value.agg #[.int .i64 a,.int .i64 b]=.agg (A [a,b]):=rfl
@[go_sem] theorem lit_A4 (a b c d:Int):Value.agg #[.int .i64 a,.int .i64 b,.int .i64 c,.int .i64 d]=.agg (A [a,b,c,d]):=rfl
@[go_sem] theorem lit_A5 (a b c d e:Int):Value.agg #[.int .i64 a,.int .i64 b,.int .i64 c,.int .i64 d,.int .i64 e]=.agg (A [a,b,c,d,e]):=rfl
@[go_sem] theorem lit_A7 (a b c d e f g:Int):Value.agg #[.int .i64 a,.int .i64 b,.int .i64 c,.int .i64 d,.int .i64 e,.int .i64 f,.int .i64 g]=.agg (A [a,b,c,d,e,f,g]):=rfl
@[go_sem] theorem lit_A8 (a b c d e f g h:Int):Value.agg #[.int .i64 a,.int .i64 b,.int .i64 c,.int .i64 d,.int .i64 e,.int .i64 f,.int .i64 g,.int .i64 h]=.agg (A [a,b,c,d,e,f,g,h]):=rfl
@[go_sem] theorem lit_A9 (a b c d e f g h i:Int):Value.agg #[.int .i64 a,.int .i64 b,.int .i64 c,.int .i64 d,.int .i64 e,.int .i64 f,.int .i64 g,.int .i64 h,.int .i64 i]=.agg (A [a,b,c,d,e,f,g,h,i]):=rfl
def nth (l:List Int) (i:Nat):Int:=l.getD i 0
def el (L:List (List Int)) (i:Nat):List Int:=L.getD i []
theorem nth_eq {l:List Int} {i:Nat} (h:i < l.length):nth l i=l[i]:=by simp [nth,h]
theorem el_eq {L:List (List Int)} {i:Nat} (h:i < L.length):el L i=L[i]:=by simp [el,h]
theorem el_mem {L:List (List Int)} {i:Nat} (h:i < L.length):el L i ∈ L:=by rw [el_eq h]; exact List.getElem_mem h
@[simp high] theorem get_A_nth (l:List Int) (i:Nat) (h:i < l.length):(A l)[i]?=some (.int .i64 (nth l i)):=by
 rw [get_A,List.getElem?_eq_getElem h,nth_eq h]
 rfl
def mx (a b:Int):Int:=if b > a then b else a
@[simp high] theorem run_max_mx {P:Program} (w:World) (ts:Array TypeId) (t:TypeId) (k k':IntKind) (x y:Int):(Builtin.max_ ts t #[.int k x,.int k' y]).run P w=.ok (.int k (mx x y)) w:=run_max_int2 w ts t k k' x y
def p8 (l:List Int) (k:Nat):List Int:=(l.take (8 * k + 8)).drop (8 * k)
def bk (l:List Int) (s:Value):Array Value:=(A l).push s
@[go_sem] theorem size_bk (l:List Int) (s:Value):(bk l s).size=l.length + 1:=by simp [bk,size_A]
@[simp high] theorem get_bk (l:List Int) (s:Value) (i:Nat) (h:i < l.length):(bk l s)[i]?=some (.int .i64 (nth l i)):=by
 rw [bk,Array.getElem?_push,if_neg (by rw [size_A]; omega),get_A,List.getElem?_eq_getElem h,nth_eq h]
 rfl
theorem extract_bk (l:List Int) (s:Value) (i j:Nat) (h:j<=l.length):(bk l s).extract i j=A ((l.take j).drop i):=by
 rw [<-extract_A]
 apply Array.ext_getElem?
 intro k
 simp only [Array.getElem?_extract,bk,Array.size_push,size_A,Array.getElem?_push]
 by_cases h1:k < min j l.length - i
 · rw [if_pos h1,if_pos (by omega),if_neg (by omega)]
 · rw [if_neg h1,if_neg (by omega)]
@[simp high] theorem ext_bk0 (l:List Int) (s:Value) (h:l.length=24):(bk l s).extract 0 8=A (p8 l 0):=extract_bk l s 0 8 (by omega)
@[simp high] theorem ext_bk8 (l:List Int) (s:Value) (h:l.length=24):(bk l s).extract 8 16=A (p8 l 1):=extract_bk l s 8 16 (by omega)
@[simp high] theorem ext_bk16 (l:List Int) (s:Value) (h:l.length=24):(bk l s).extract 16 24=A (p8 l 2):=extract_bk l s 16 24 (by omega)
@[go_sem] theorem len_p8 (l:List Int) (k:Nat) (h:l.length=24) (hk:k < 3):(p8 l k).length=8:=by simp [p8]; omega
@[simp high] theorem get_bk24 (l:List Int) (s:Value) (h:l.length=24):(bk l s)[24]?=some s:=by
 rw [bk,Array.getElem?_push,if_pos (by rw [size_A]; omega)]
@[simp high] theorem set_bk (l:List Int) (s:Value) (i:Nat) (x:Int) (h:i < l.length):(bk l s).setIfInBounds i (.int .i64 x)=bk (l.set i x) s:=by
 apply Array.ext_getElem?
 intro k
 rw [bk,Array.getElem?_setIfInBounds,bk,Array.getElem?_push,Array.getElem?_push,size_A,size_A,List.length_set,get_A,get_A,List.getElem?_set]
 by_cases h1:i=k
 ·
  subst h1
  rw [if_pos rfl,if_pos (by rw [Array.size_push,size_A]; omega),if_neg (by omega),if_pos rfl,if_pos h]
  rfl
 · rw [if_neg h1,if_neg h1]
theorem plain_bk (l:List Int) (s:Value) (h:s.oneCell'=true):Plain (bk l s):=by
 intro v hv
 rcases Array.mem_push.1 hv with h' | h'
 · exact plain_A l v h'
 · rw [h']; exact h
@[go_sem] theorem plain_bk_slice (l:List Int) (a:Option Addr) (n c:Nat):Plain (bk l (.slice a n c)):=plain_bk l _ rfl
open Go.RowKit Go.ChangeShapes Go.WideShapes Go.ChangeAt Go.Deep
def I64 (x:Int):Prop:=-9223372036854775808<=x/\x<=9223372036854775807
instance (x:Int):Decidable (I64 x):=by unfold I64; infer_instance
def Ints (cs:List Value):Prop:=∀ v ∈ cs,∃ z,v=.int .i64 z/\I64 z
theorem Ints.list {cs:List Value} (h:Ints cs):∃ l:List Int,cs=l.map (Value.int .i64)/\∀ x ∈ l,I64 x:=by
 induction cs with
 | nil=>exact ⟨[],rfl,by simp⟩
 | cons v r ih=>
  obtain ⟨z,rfl,hz⟩:=h v (by simp)
  obtain ⟨l,rfl,hl⟩:=ih (fun u hu=>h u (by simp [hu]))
  exact ⟨z :: l,rfl,by simpa using ⟨hz,hl⟩⟩
theorem Ints.split {cs:List Value} {n:Nat} (h1:Ints (cs.take n)) (h2:Ints (cs.drop n)):Ints cs:=by
 intro v hv
 rw [<-List.take_append_drop n cs,List.mem_append] at hv
 exact hv.elim (h1 v) (h2 v)
theorem I64.of_wf {x:Int} (h:(Lit.int .i64 x).wf=true):I64 x:=by
 unfold I64
 simp [Lit.wf] at h
 first | omega | (simp [IntKind.min,IntKind.signed,IntKind.bits] at h; omega)
section
variable {H:Type} {enc:TypeId × Value->H} {P:Program} {w:World} {base:Nat} {spare:Nat->Bool} {held:Bool}
theorem ints_of_trod:∀ (d:Nat) (t:TypeId) (fuel:Nat) (cs:List Value) (x:DataW H × List MemPlace),flatAt P d t=true->DataW.trod enc P w base spare held fuel t cs=some x->Ints cs/\cs.length=P.cellsOf t:=by
 intro d
 induction d with
 | zero=>intro t fuel cs x h; simp [flatAt] at h
 | succ d ih=>
  intro t fuel cs x h hx
  have hi:=flat_info h
  unfold flatAt at h
  simp only [Bool.and_eq_true] at h
  obtain ⟨_,h⟩:=h
  split at h
  ·
   rename_i hu
   have hc:P.cellsOf t=1:=by simpa using h
   obtain ⟨n,rfl,_,hw⟩:=DataW.trod_int hu hx
   exact ⟨by intro v hv; simp at hv; exact ⟨n,hv,I64.of_wf hw⟩,by simp [hc]⟩
  ·
   rename_i n el hu
   simp only [Bool.and_eq_true,beq_iff_eq] at h
   obtain ⟨hc,hf⟩:=h
   obtain ⟨xs,m,_,_,hl,hxl,hel⟩:=DataW.trod_array hu hx
   refine ⟨?_,hl⟩
   have key:∀ (r k:Nat),k + r=n->Ints (cs.drop (k * P.cellsOf el)):=by
    intro r
    induction r with
    | zero=>
     intro k hk
     rw [List.drop_eq_nil_of_le (by rw [hl,hc,<-hk,Nat.add_zero]; exact Nat.le_refl _)]
     intro v hv; simp at hv
    | succ r ihr=>
     intro k hk
     have h1:=hel k (by omega)
     have h2:xs[k]?=some (xs[k]'(by omega)):=List.getElem?_eq_getElem (by omega)
     refine Ints.split (n:=P.cellsOf el) (ih el m _ _ hf (h1.trans h2)).1 ?_
     rw [List.drop_drop,<-Nat.succ_mul]
     exact ihr (k + 1) (by omega)
   have:=key n 0 (by omega)
   simpa using this
  ·
   rename_i fs hu
   simp only [Bool.and_eq_true,Bool.not_eq_true'] at h
   obtain ⟨⟨hst,ht⟩,hf⟩:=h
   obtain ⟨xs,m,_,_,hl,hxl,hel⟩:=DataW.trod_struct hu hx
   refine ⟨?_,hl⟩
   have key:∀ (fl:List Field) (k off:Nat),fs.toList.drop k=fl->tiles P off (P.cellsOf t) fl=true->Ints (cs.drop off):=by
    intro fl
    induction fl with
    | nil=>
     intro k off _ h1
     simp only [tiles,beq_iff_eq] at h1
     rw [List.drop_eq_nil_of_le (by omega)]
     intro v hv; simp at hv
    | cons f fl ihf=>
     intro k off hk h1
     simp only [tiles,Bool.and_eq_true,beq_iff_eq,bne_iff_ne,ne_eq] at h1
     obtain ⟨⟨ho,hn⟩,h1⟩:=h1
     have hkl:k < fs.toList.length:=by
      rcases Nat.lt_or_ge k fs.toList.length with h' | h'
      · exact h'
      · rw [List.drop_eq_nil_of_le h'] at hk; simp at hk
     rw [List.drop_eq_getElem_cons hkl] at hk
     have hfk:fs[k]?=some f:=by
      rw [<-Array.getElem?_toList,List.getElem?_eq_getElem hkl]
      exact congrArg some (List.cons.inj hk).1
     have hff:flatAt P d f.type=true:=by
      rw [List.all_eq_true] at hf
      exact hf f (by rw [<-(List.cons.inj hk).1]; exact List.getElem_mem hkl)
     have h2:=hel k f hfk
     have h3:xs[k]?=some (xs[k]'(by rw [hxl]; simpa using hkl)):=List.getElem?_eq_getElem _
     rw [ho] at h2
     refine Ints.split (n:=P.cellsOf f.type) (ih f.type m _ _ hff (h2.trans h3)).1 ?_
     rw [List.drop_drop]
     exact ihf (k + 1) _ (List.cons.inj hk).2 h1
   have:=key fs.toList 0 0 rfl ht
   simpa using this
  · simp at h
end
def SlK (B k:Nat) (w:World) (a:Option Addr) (L:List (List Int)):Prop:=
 (∀ l ∈ L,l.length=k/\∀ x ∈ l,I64 x) /\
 ∀ i,i < L.length->∃ b off,a=some ⟨b,off,none⟩/\b < B/\off + i * k + k<=(row w b).size/\(row w b).extract (off + i * k) (off + i * k + k)=A (el L i)
theorem row_below {B:Nat} {w w':World} (h:Below B w w') {b:Nat} (hb:b < B):row w' b=row w b:=by
 simp only [row,h.block b hb]
theorem SlK.below {B k:Nat} {w w':World} {a:Option Addr} {L:List (List Int)} (h:SlK B k w a L) (hb:Below B w w'):SlK B k w' a L:=
 ⟨h.1,fun i hi=>by
  obtain ⟨b,off,h1,h2,h3,h4⟩:=h.2 i hi
  exact ⟨b,off,h1,h2,by rw [row_below hb h2]; exact h3,by rw [row_below hb h2]; exact h4⟩⟩
theorem SlK.mono {B B' k:Nat} {w:World} {a:Option Addr} {L:List (List Int)} (h:SlK B k w a L) (hb:B<=B'):SlK B' k w a L:=
 ⟨h.1,fun i hi=>by
  obtain ⟨b,off,h1,h2,h3,h4⟩:=h.2 i hi
  exact ⟨b,off,h1,Nat.lt_of_lt_of_le h2 hb,h3,h4⟩⟩
theorem SlK.len {B k:Nat} {w:World} {a:Option Addr} {L:List (List Int)} (h:SlK B k w a L) {i:Nat} (hi:i < L.length):(el L i).length=k:=(h.1 _ (el_mem hi)).1
theorem SlK.cell {B k:Nat} {w:World} {a:Option Addr} {L:List (List Int)} (h:SlK B k w a L) {i:Nat} (hi:i < L.length):∃ b off,a=some ⟨b,off,none⟩/\b < B/\∀ j,j < k->w.cell? ⟨b,off + i * k + j,none⟩=some (.int .i64 (nth (el L i) j)):=by
 obtain ⟨b,off,h1,h2,h3,h4⟩:=h.2 i hi
 refine ⟨b,off,h1,h2,fun j hj=>?_⟩
 have hl:=h.len hi
 have:=congrArg (·[j]?) h4
 simp only [Array.getElem?_extract,get_A] at this
 rw [if_pos (by omega),List.getElem?_eq_getElem (by omega)] at this
 rw [cell?_row,this,nth_eq (by omega)]
 rfl
section
variable {H:Type} {enc:TypeId × Value->H} {P:Program} {w:World}
theorem cells_rows {base n:Nat}:∀ {a:Addr} {cs:List Value},w.cells? base a n=some cs->0 < n->∃ b off,a=⟨b,off,none⟩/\b < w.heap.size/\off + n<=(row w b).size/\(row w b).extract off (off + n)=cs.toArray:=by
 intro a cs h hn
 obtain ⟨_,hl,hat⟩:=World.cells?_some h
 obtain ⟨b,off,sp⟩:=a
 have h0:=hat 0 hn
 rw [List.getElem?_eq_getElem (by omega)] at h0
 have hsp:sp=none:=by
  have:=World.cell?_spot h0
  simpa [Addr.add] using this
 subst hsp
 have hcell:∀ j,j < n->(row w b)[off + j]?=cs[j]?:=by
  intro j hj
  have:=hat j hj
  rw [<-cell?_row]
  have hadd:(⟨b,off,none⟩:Addr).add j=⟨b,off + j,none⟩:=by unfold Addr.add; split <;> simp_all
  rw [hadd] at this
  exact this
 have hsz:off + n<=(row w b).size:=by
  have:=hcell (n - 1) (by omega)
  rw [List.getElem?_eq_getElem (by omega)] at this
  have:=(Array.getElem?_eq_some_iff.1 this).1
  omega
 refine ⟨b,off,rfl,World.block_lt_of_cell? w _ (by simpa [Addr.add] using h0),hsz,?_⟩
 apply Array.ext_getElem?
 intro j
 rw [Array.getElem?_extract]
 by_cases hj:j < n
 · rw [if_pos (by omega),hcell j hj]; simp
 · rw [if_neg (by omega)]; simp; omega
theorem slk_of_trod {d0 k fuel:Nat} {t e:TypeId} {cs:List Value} {x:DataW H × List MemPlace} (ht:P.underlying t=some (.slice e)) (hf:flatAt P d0 e=true) (hk:P.cellsOf e=k) (h0:0 < k)
  (hfu:DataW.trod enc P w 0 (fun _=>true) true fuel t cs=some x):∃ (a:Option Addr) (cap:Nat) (L:List (List Int)),cs=[.slice a L.length cap]/\L.length<=cap/\cap<=maxLen/\SlK w.heap.size k w a L:=by
 rcases open_slice ht hfu with ⟨rfl,_⟩ | ⟨a',len,m,m',n,D,Pl,rfl,_,hl,hm,hmm,_,hel⟩
 · exact ⟨none,0,[],rfl,Nat.le_refl _,Nat.zero_le _,by simp,fun i hi=>by simp at hi⟩
 ·
  simp only [if_true] at hmm
  subst hmm
  have hx:∀ i,i < len->∃ l:List Int,(l.length=k/\∀ x ∈ l,I64 x)/\∃ b off,a'=⟨b,off,none⟩/\b < w.heap.size/\off + i * k + k<=(row w b).size/\(row w b).extract (off + i * k) (off + i * k + k)=A l:=by
   intro i hi
   obtain ⟨cs',hc,htr⟩:=hel i (by omega)
   obtain ⟨hi1,hi2⟩:=ints_of_trod d0 e _ _ _ hf htr
   obtain ⟨l,rfl,hl2⟩:=hi1.list
   obtain ⟨b,off,hadd,hb,hsz,hex⟩:=cells_rows hc (by omega)
   rw [hk] at hadd hsz hex
   refine ⟨l,⟨by rw [<-hk,<-hi2,List.length_map],hl2⟩,?_⟩
   obtain ⟨b',off',sp'⟩:=a'
   have h00:=hel 0 (by omega)
   obtain ⟨cs0,hc0,_⟩:=h00
   obtain ⟨b1,off1,hadd0,_,_,_⟩:=cells_rows hc0 (by omega)
   rw [Nat.zero_mul] at hadd0
   have:(⟨b',off',sp'⟩:Addr).add 0=⟨b',off',sp'⟩:=by simp [Addr.add]
   rw [this] at hadd0
   obtain ⟨rfl,rfl,rfl⟩:=Addr.mk.inj hadd0
   have hadd2:(⟨b',off',none⟩:Addr).add (i * k)=⟨b',off' + i * k,none⟩:=by unfold Addr.add; split <;> simp_all
   rw [hadd2] at hadd
   obtain ⟨rfl,rfl,_⟩:=Addr.mk.inj hadd
   exact ⟨b',off',rfl,hb,hsz,hex⟩
  obtain ⟨f,hf'⟩:=choose_lt hx
  refine ⟨some a',m',(List.range len).map f,by simp,by simpa using hl,hm,?_,?_⟩
  ·
   intro l hl'
   simp only [List.mem_map,List.mem_range] at hl'
   obtain ⟨i,hi,rfl⟩:=hl'
   exact (hf' i hi).1
  ·
   intro i hi
   simp only [List.length_map,List.length_range] at hi
   obtain ⟨b,off,h1,h2,h3,h4⟩:=(hf' i hi).2
   exact ⟨b,off,by rw [h1],h2,h3,by rw [h4]; congr 1; simp [el,hi]⟩
theorem open_slk {r:Reach} {b0 d0 k:Nat} {t e:TypeId} {v:Value} {d:DataW H} {p:List MemPlace} (ht:P.underlying t=some (.slice e)) (hf:flatAt P d0 e=true) (hk:P.cellsOf e=k) (h0:0 < k)
  (hv:Value.okWide P w r b0 t v) (h:DataW.Trod enc P w 0 (fun _=>true) true t v d p):∃ (a:Option Addr) (cap:Nat) (L:List (List Int)),v=.slice a L.length cap/\L.length<=cap/\cap<=maxLen/\SlK w.heap.size k w a L:=by
 obtain ⟨a,len,cap,rfl⟩:=okWide_slice ht hv
 obtain ⟨fuel,hfu⟩:=h
 obtain ⟨a',cap',L,hcs,h1⟩:=slk_of_trod ht hf hk h0 hfu
 exact ⟨a',cap',L,by simpa [Value.cells] using hcs,h1⟩
end
end Go.Proofs.YtjoaigccapegpaaGreat
