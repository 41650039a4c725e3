/-
  Worlds that a call has only added blocks to ('more'), and rows of cells as whole arrays ('row'): what a walk over structs of many cells wants. Conditions: none; every lemma names its own.
-/
import Derived.WalkKit
import Derived.WalkLawsBesides
import Derived.WalkSpells
import Derived.Deep.Draws
namespace Go.Proofs.Ytebflegkdfhoaaa
open Go.RowKit

/-- The world w, n draws on, with the blocks os behind. -/
def more (w : World) (n : Nat) (os : List Obj) : World := { w with heap := w.heap ++ os.toArray, drawn := w.drawn + n }
/-- w' is w with draws and new blocks alone. -/
def Adds (w w' : World) : Prop := ∃ n os, w' = more w n os
/-- The cells of a block; none, if it is no row of cells. -/
def row (w : World) (g : Nat) : Array Value := match w.heap[g]? with | some (.cells c _ _) => c | _ => #[]
/-- May the block be written: it is a row of cells without a frozen range. -/
def thawed (w : World) (g : Nat) : Bool := match w.heap[g]? with | some (.cells _ _ f) => f == (0, 0) | _ => false
theorem thawed_cells {w : World} {g : Nat} (h : thawed w g = true) : ∃ c e, w.heap[g]? = some (.cells c e (0, 0)) := by
  unfold thawed at h
  split at h
  · rename_i c e f hb
    exact ⟨c, e, by rw [hb]; simp at h; rw [h]⟩
  · simp at h

theorem more_zero (w : World) : more w 0 [] = w := by simp [more]
theorem more_more (w : World) (n m : Nat) (os ps : List Obj) : more (more w n os) m ps = more w (n + m) (os ++ ps) := by
  simp [more, Nat.add_assoc]
theorem alloc_more (w : World) (o : Obj) : w.alloc o = more w 0 [o] := by
  show ({ w with heap := w.heap.push o } : World) = { w with heap := w.heap ++ #[o], drawn := w.drawn }
  rw [Array.push_eq_append]
theorem drew_more (w : World) : w.drew = more w 1 [] := by
  show ({ w with drawn := w.drawn + 1 } : World) = { w with heap := w.heap ++ #[], drawn := w.drawn + 1 }
  rw [Array.append_empty]
theorem Adds.refl (w : World) : Adds w w := ⟨0, [], (more_zero w).symm⟩
theorem Adds.trans {a b c : World} (h : Adds a b) (k : Adds b c) : Adds a c := by
  obtain ⟨n, os, rfl⟩ := h
  obtain ⟨m, ps, rfl⟩ := k
  exact ⟨_, _, more_more _ _ _ _ _⟩
theorem Adds.more {a b : World} (h : Adds a b) (n : Nat) (os : List Obj) : Adds a (more b n os) := h.trans ⟨n, os, rfl⟩
theorem Adds.alloc {a b : World} (h : Adds a b) (o : Obj) : Adds a (b.alloc o) := h.trans ⟨0, [o], alloc_more _ _⟩
theorem Adds.drew {a b : World} (h : Adds a b) : Adds a b.drew := h.trans ⟨1, [], drew_more _⟩
theorem Adds.below {w w' : World} (h : Adds w w') : Below w.heap.size w w' := by
  obtain ⟨n, os, rfl⟩ := h
  exact ⟨rfl, rfl, rfl, by simp [Ytebflegkdfhoaaa.more], fun k hk => by simp [Ytebflegkdfhoaaa.more, Array.getElem?_append, hk]⟩
@[go_sem] theorem size_more (w : World) (n : Nat) (os : List Obj) : (more w n os).heap.size = w.heap.size + os.length := by simp [more]
theorem heap_more (w : World) (n : Nat) (os : List Obj) (k : Nat) (h : k < w.heap.size) : (more w n os).heap[k]? = w.heap[k]? := by
  simp [more, Array.getElem?_append, h]
@[go_sem] theorem cell?_more (w : World) (n : Nat) (os : List Obj) (b o : Nat) (h : b < w.heap.size) : (more w n os).cell? ⟨b, o, none⟩ = w.cell? ⟨b, o, none⟩ := by
  simp only [World.cell?, heap_more w n os b h]
@[go_sem] theorem frozen?_more (w : World) (n : Nat) (os : List Obj) (b o : Nat) (h : b < w.heap.size) : (more w n os).frozen? ⟨b, o, none⟩ = w.frozen? ⟨b, o, none⟩ := by
  simp only [World.frozen?, heap_more w n os b h]
@[go_sem] theorem row_more (w : World) (n : Nat) (os : List Obj) (b : Nat) (h : b < w.heap.size) : row (more w n os) b = row w b := by
  simp only [row, heap_more w n os b h]
@[go_sem] theorem thawed_more (w : World) (n : Nat) (os : List Obj) (b : Nat) (h : b < w.heap.size) : thawed (more w n os) b = thawed w b := by
  simp only [thawed, heap_more w n os b h]
@[go_sem] theorem setCell_more (w : World) (n : Nat) (os : List Obj) (b o : Nat) (v : Value) (h : b < w.heap.size) : (more w n os).setCell ⟨b, o, none⟩ v = more (w.setCell ⟨b, o, none⟩ v) n os := by
  simp only [World.setCell, more]
  congr 1
  apply Array.ext_getElem?
  intro k
  simp only [Array.getElem?_modify, Array.getElem?_append, Array.size_modify]
  by_cases hk : k < w.heap.size
  · simp [hk]
  · have : b ≠ k := by omega
    simp [hk, this]
@[go_sem] theorem row_alloc_at (w : World) (c : Array Value) (t : TypeId) (g : Nat) (h : g = w.heap.size) : row (w.alloc (.cells c t)) g = c := by
  subst h
  show (match (w.heap.push (Obj.cells c t))[w.heap.size]? with | some (.cells c _ _) => c | _ => #[]) = c
  rw [Array.getElem?_push_size]
@[go_sem] theorem row_alloc_past (w : World) (o : Obj) (g : Nat) (h : g < w.heap.size) : row (w.alloc o) g = row w g := by
  simp only [row, Below.heap_alloc w o g h]
@[go_sem] theorem thawed_alloc_at (w : World) (c : Array Value) (t : TypeId) (g : Nat) (h : g = w.heap.size) : thawed (w.alloc (.cells c t)) g = true := by
  subst h
  show (match (w.heap.push (Obj.cells c t))[w.heap.size]? with | some (.cells _ _ f) => f == (0, 0) | _ => false) = true
  rw [Array.getElem?_push_size]
  rfl
@[go_sem] theorem thawed_alloc_past (w : World) (o : Obj) (g : Nat) (h : g < w.heap.size) : thawed (w.alloc o) g = thawed w g := by
  simp only [thawed, Below.heap_alloc w o g h]
@[go_sem] theorem row_drew (w : World) (g : Nat) : row w.drew g = row w g := rfl
@[go_sem] theorem thawed_drew (w : World) (g : Nat) : thawed w.drew g = thawed w g := rfl
@[go_sem] theorem row_drewN (w : World) (n g : Nat) : row (w.drewN n) g = row w g := rfl
@[go_sem] theorem thawed_drewN (w : World) (n g : Nat) : thawed (w.drewN n) g = thawed w g := rfl
theorem drewN_more (w : World) (n : Nat) : w.drewN n = more w n [] := by
  show ({ w with drawn := w.drawn + n } : World) = { w with heap := w.heap ++ #[], drawn := w.drawn + n }
  rw [Array.append_empty]
theorem more_drewN (w : World) (n q : Nat) (os : List Obj) : (more w n os).drewN q = more w (n + q) os := by
  rw [drewN_more, more_more, List.append_nil]
theorem Adds.drewN {a b : World} (h : Adds a b) (n : Nat) : Adds a (b.drewN n) := h.trans ⟨n, [], drewN_more _ _⟩
/-- A cell is its row's. -/
theorem cell?_row (w : World) (b o : Nat) : w.cell? ⟨b, o, none⟩ = (row w b)[o]? := by
  simp only [World.cell?, row]
  cases w.heap[b]? with
  | none => rfl
  | some x => cases x <;> rfl
theorem frozen?_thawed (w : World) (b o : Nat) (h : thawed w b = true) : w.frozen? ⟨b, o, none⟩ = false := by
  obtain ⟨c, e, hb⟩ := thawed_cells h
  simp only [World.frozen?, hb]
  simp

/-- The row of block g, from o on, overwritten. -/
def splice (c : Array Value) (o : Nat) (d : List Value) : Array Value := match d with
  | [] => c
  | v :: r => splice (c.setIfInBounds o v) (o + 1) r
theorem size_splice (d : List Value) : ∀ (c : Array Value) (o : Nat), (splice c o d).size = c.size := by
  induction d with
  | nil => intro c o; rfl
  | cons v r ih => intro c o; simp [splice, ih]
theorem get_splice (d : List Value) : ∀ (c : Array Value) (o i : Nat), o + d.length ≤ c.size → (splice c o d)[i]? = if o ≤ i ∧ i < o + d.length then d[i - o]? else c[i]? := by
  induction d with
  | nil => intro c o i h; simp [splice]; intro h1 h2; omega
  | cons v r ih =>
    intro c o i h
    simp only [List.length_cons] at h
    rw [splice, ih _ _ _ (by simp; omega)]
    by_cases h1 : o = i
    · subst h1
      rw [if_neg (by omega), if_pos (by simp), Array.getElem?_setIfInBounds_self_of_lt (by omega)]
      simp
    · by_cases h2 : o + 1 ≤ i ∧ i < o + 1 + r.length
      · rw [if_pos h2, if_pos (by simp; omega)]
        have : i - o = (i - (o + 1)) + 1 := by omega
        rw [this]; simp
      · rw [if_neg h2, if_neg (by simp; omega)]
        rw [Array.getElem?_setIfInBounds_ne h1]
theorem splice_whole (c d : Array Value) (h : c.size = d.size) : splice c 0 d.toList = d := by
  apply Array.ext_getElem?
  intro i
  rw [get_splice _ _ _ _ (by simp [h])]
  by_cases hi : i < d.size
  · simp [hi]
  · simp [hi, h]

/-! Numbers of blocks: a sum's first part lies below it. -/
section
variable (a x1 x2 x3 x4 x5 x6 x7 x8 : Nat)
@[go_sem] theorem le_sum2 : a ≤ a + x1 + x2 := by omega
@[go_sem] theorem le_sum3 : a ≤ a + x1 + x2 + x3 := by omega
@[go_sem] theorem le_sum4 : a ≤ a + x1 + x2 + x3 + x4 := by omega
@[go_sem] theorem le_sum5 : a ≤ a + x1 + x2 + x3 + x4 + x5 := by omega
@[go_sem] theorem le_sum6 : a ≤ a + x1 + x2 + x3 + x4 + x5 + x6 := by omega
@[go_sem] theorem le_sum7 : a ≤ a + x1 + x2 + x3 + x4 + x5 + x6 + x7 := by omega
@[go_sem] theorem le_sum8 : a ≤ a + x1 + x2 + x3 + x4 + x5 + x6 + x7 + x8 := by omega
@[go_sem] theorem lt_sum2_1_1 : a < a + 1 + x2 := by omega
@[go_sem] theorem lt_sum2_1_2 : a < a + 2 + x2 := by omega
@[go_sem] theorem lt_sum2_1_3 : a < a + 3 + x2 := by omega
@[go_sem] theorem lt_sum3_1_1 : a < a + 1 + x2 + x3 := by omega
@[go_sem] theorem lt_sum3_1_2 : a < a + 2 + x2 + x3 := by omega
@[go_sem] theorem lt_sum3_1_3 : a < a + 3 + x2 + x3 := by omega
@[go_sem] theorem lt_sum3_2_1 : a < a + x1 + 1 + x3 := by omega
@[go_sem] theorem lt_sum3_2_2 : a < a + x1 + 2 + x3 := by omega
@[go_sem] theorem lt_sum3_2_3 : a < a + x1 + 3 + x3 := by omega
@[go_sem] theorem lt_sum4_1_1 : a < a + 1 + x2 + x3 + x4 := by omega
@[go_sem] theorem lt_sum4_1_2 : a < a + 2 + x2 + x3 + x4 := by omega
@[go_sem] theorem lt_sum4_1_3 : a < a + 3 + x2 + x3 + x4 := by omega
@[go_sem] theorem lt_sum4_2_1 : a < a + x1 + 1 + x3 + x4 := by omega
@[go_sem] theorem lt_sum4_2_2 : a < a + x1 + 2 + x3 + x4 := by omega
@[go_sem] theorem lt_sum4_2_3 : a < a + x1 + 3 + x3 + x4 := by omega
@[go_sem] theorem lt_sum4_3_1 : a < a + x1 + x2 + 1 + x4 := by omega
@[go_sem] theorem lt_sum4_3_2 : a < a + x1 + x2 + 2 + x4 := by omega
@[go_sem] theorem lt_sum4_3_3 : a < a + x1 + x2 + 3 + x4 := by omega
@[go_sem] theorem lt_sum5_1_1 : a < a + 1 + x2 + x3 + x4 + x5 := by omega
@[go_sem] theorem lt_sum5_1_2 : a < a + 2 + x2 + x3 + x4 + x5 := by omega
@[go_sem] theorem lt_sum5_1_3 : a < a + 3 + x2 + x3 + x4 + x5 := by omega
@[go_sem] theorem lt_sum5_2_1 : a < a + x1 + 1 + x3 + x4 + x5 := by omega
@[go_sem] theorem lt_sum5_2_2 : a < a + x1 + 2 + x3 + x4 + x5 := by omega
@[go_sem] theorem lt_sum5_2_3 : a < a + x1 + 3 + x3 + x4 + x5 := by omega
@[go_sem] theorem lt_sum5_3_1 : a < a + x1 + x2 + 1 + x4 + x5 := by omega
@[go_sem] theorem lt_sum5_3_2 : a < a + x1 + x2 + 2 + x4 + x5 := by omega
@[go_sem] theorem lt_sum5_3_3 : a < a + x1 + x2 + 3 + x4 + x5 := by omega
@[go_sem] theorem lt_sum5_4_1 : a < a + x1 + x2 + x3 + 1 + x5 := by omega
@[go_sem] theorem lt_sum5_4_2 : a < a + x1 + x2 + x3 + 2 + x5 := by omega
@[go_sem] theorem lt_sum5_4_3 : a < a + x1 + x2 + x3 + 3 + x5 := by omega
@[go_sem] theorem lt_sum6_1_1 : a < a + 1 + x2 + x3 + x4 + x5 + x6 := by omega
@[go_sem] theorem lt_sum6_1_2 : a < a + 2 + x2 + x3 + x4 + x5 + x6 := by omega
@[go_sem] theorem lt_sum6_1_3 : a < a + 3 + x2 + x3 + x4 + x5 + x6 := by omega
@[go_sem] theorem lt_sum6_2_1 : a < a + x1 + 1 + x3 + x4 + x5 + x6 := by omega
@[go_sem] theorem lt_sum6_2_2 : a < a + x1 + 2 + x3 + x4 + x5 + x6 := by omega
@[go_sem] theorem lt_sum6_2_3 : a < a + x1 + 3 + x3 + x4 + x5 + x6 := by omega
@[go_sem] theorem lt_sum6_3_1 : a < a + x1 + x2 + 1 + x4 + x5 + x6 := by omega
@[go_sem] theorem lt_sum6_3_2 : a < a + x1 + x2 + 2 + x4 + x5 + x6 := by omega
@[go_sem] theorem lt_sum6_3_3 : a < a + x1 + x2 + 3 + x4 + x5 + x6 := by omega
@[go_sem] theorem lt_sum6_4_1 : a < a + x1 + x2 + x3 + 1 + x5 + x6 := by omega
@[go_sem] theorem lt_sum6_4_2 : a < a + x1 + x2 + x3 + 2 + x5 + x6 := by omega
@[go_sem] theorem lt_sum6_4_3 : a < a + x1 + x2 + x3 + 3 + x5 + x6 := by omega
@[go_sem] theorem lt_sum6_5_1 : a < a + x1 + x2 + x3 + x4 + 1 + x6 := by omega
@[go_sem] theorem lt_sum6_5_2 : a < a + x1 + x2 + x3 + x4 + 2 + x6 := by omega
@[go_sem] theorem lt_sum6_5_3 : a < a + x1 + x2 + x3 + x4 + 3 + x6 := by omega
@[go_sem] theorem lt_sum7_1_1 : a < a + 1 + x2 + x3 + x4 + x5 + x6 + x7 := by omega
@[go_sem] theorem lt_sum7_2_1 : a < a + x1 + 1 + x3 + x4 + x5 + x6 + x7 := by omega
@[go_sem] theorem lt_sum7_3_1 : a < a + x1 + x2 + 1 + x4 + x5 + x6 + x7 := by omega
@[go_sem] theorem lt_sum7_4_1 : a < a + x1 + x2 + x3 + 1 + x5 + x6 + x7 := by omega
@[go_sem] theorem lt_sum7_5_1 : a < a + x1 + x2 + x3 + x4 + 1 + x6 + x7 := by omega
@[go_sem] theorem lt_sum7_6_1 : a < a + x1 + x2 + x3 + x4 + x5 + 1 + x7 := by omega
@[go_sem] theorem lt_sum8_1_1 : a < a + 1 + x2 + x3 + x4 + x5 + x6 + x7 + x8 := by omega
@[go_sem] theorem lt_sum8_2_1 : a < a + x1 + 1 + x3 + x4 + x5 + x6 + x7 + x8 := by omega
@[go_sem] theorem lt_sum8_3_1 : a < a + x1 + x2 + 1 + x4 + x5 + x6 + x7 + x8 := by omega
@[go_sem] theorem lt_sum8_4_1 : a < a + x1 + x2 + x3 + 1 + x5 + x6 + x7 + x8 := by omega
@[go_sem] theorem lt_sum8_5_1 : a < a + x1 + x2 + x3 + x4 + 1 + x6 + x7 + x8 := by omega
@[go_sem] theorem lt_sum8_6_1 : a < a + x1 + x2 + x3 + x4 + x5 + 1 + x7 + x8 := by omega
@[go_sem] theorem lt_sum8_7_1 : a < a + x1 + x2 + x3 + x4 + x5 + x6 + 1 + x8 := by omega
end
@[go_sem] theorem lt_sum {b n k : Nat} (h : b < n) : b < n + k := Nat.lt_of_lt_of_le h (Nat.le_add_right _ _)
@[go_sem] theorem le_row {b : Nat} {w : World} (h : b < w.heap.size) : b ≤ w.heap.size := Nat.le_of_lt h
/-- The row of block g put. -/
def setRow (w : World) (g : Nat) (d : Array Value) : World := { w with heap := w.heap.modify g fun | .cells _ e f => .cells d e f | o => o }
theorem heap_setRow (w : World) (g : Nat) (d : Array Value) (k : Nat) (h : k ≠ g) : (setRow w g d).heap[k]? = w.heap[k]? := by
  simp only [setRow, Array.getElem?_modify]; rw [if_neg (by omega)]
@[go_sem] theorem size_setRow (w : World) (g : Nat) (d : Array Value) : (setRow w g d).heap.size = w.heap.size := by simp [setRow]
@[go_sem] theorem setRow_alloc_at (w : World) (c d : Array Value) (t : TypeId) (g : Nat) (h : g = w.heap.size) : setRow (w.alloc (.cells c t)) g d = w.alloc (.cells d t) := by
  subst h
  simp only [setRow, World.alloc]
  congr 1
  apply Array.ext_getElem?
  intro k
  simp only [Array.getElem?_modify, Array.getElem?_push]
  by_cases hk : k = w.heap.size
  · simp [hk]
  · simp [hk]; omega
@[go_sem] theorem setRow_alloc_past (w : World) (o : Obj) (d : Array Value) (g : Nat) (h : g < w.heap.size) : setRow (w.alloc o) g d = (setRow w g d).alloc o := by
  simp only [setRow, World.alloc]
  congr 1
  apply Array.ext_getElem?
  intro k
  simp only [Array.getElem?_modify, Array.getElem?_push, Array.size_modify]
  by_cases hk : k = w.heap.size
  · have : g ≠ k := by omega
    simp [hk]
    omega
  · simp [hk]
@[go_sem] theorem setRow_drew (w : World) (g : Nat) (d : Array Value) : setRow w.drew g d = (setRow w g d).drew := rfl
@[go_sem] theorem setRow_more (w : World) (n : Nat) (os : List Obj) (g : Nat) (d : Array Value) (h : g < w.heap.size) : setRow (more w n os) g d = more (setRow w g d) n os := by
  simp only [setRow, more]
  congr 1
  apply Array.ext_getElem?
  intro k
  simp only [Array.getElem?_modify, Array.getElem?_append, Array.size_modify]
  by_cases hk : k < w.heap.size
  · simp [hk]
  · have : g ≠ k := by omega
    simp [hk, this]
@[go_sem] theorem row_setRow_other (w : World) (g k : Nat) (d : Array Value) (h : k ≠ g) : row (setRow w g d) k = row w k := by
  simp only [row, heap_setRow w g d k h]
@[go_sem] theorem row_setRow_same (w : World) (g : Nat) (d : Array Value) (h : thawed w g = true) : row (setRow w g d) g = d := by
  obtain ⟨c, e, hb⟩ := thawed_cells h
  simp only [row, setRow, Array.getElem?_modify, if_true, hb, Option.map_some]
@[go_sem] theorem thawed_setRow (w : World) (g k : Nat) (d : Array Value) : thawed (setRow w g d) k = thawed w k := by
  by_cases h : k = g
  · subst h
    simp only [thawed, setRow, Array.getElem?_modify, if_true]
    generalize w.heap[k]? = x
    cases x with
    | none => rfl
    | some o => cases o <;> rfl
  · simp only [thawed, heap_setRow w g d k h]
theorem setRow_setCell (w : World) (g o : Nat) (v : Value) (h : thawed w g = true) : w.setCell ⟨g, o, none⟩ v = setRow w g ((row w g).setIfInBounds o v) := by
  obtain ⟨c, e, hb⟩ := thawed_cells h
  simp only [World.setCell, setRow, row, hb]
  congr 1
  apply Array.ext_getElem?
  intro k
  simp only [Array.getElem?_modify]
  by_cases hk : g = k
  · subst hk; simp [hb]
  · simp [hk]

section
variable {P : Program} (w : World)
/-- A run of cells loaded as one. -/
theorem run_loadCellsFrom (g : Nat) (n : Nat) : ∀ (o i : Nat) (acc : Array Value), o + i + n ≤ (row w g).size →
    (loadCellsFrom ⟨g, o, none⟩ i n acc).run P w = .ok (acc ++ (row w g).extract (o + i) (o + i + n)) w := by
  induction n with
  | zero =>
    intro o i acc h
    have : (row w g).extract (o + i) (o + i + 0) = #[] := by apply Array.ext_getElem?; intro k; simp; omega
    rw [this, Array.append_empty]
    rfl
  | succ n ih =>
    intro o i acc h
    have hadd : (⟨g, o, none⟩ : Addr).add i = ⟨g, o + i, none⟩ := by unfold Addr.add; split <;> simp_all
    have hc : w.cell? ⟨g, o + i, none⟩ = some ((row w g)[o + i]'(by omega)) := by rw [cell?_row]; exact Array.getElem?_eq_getElem (by omega)
    simp only [loadCellsFrom, Sem.run_bind, hadd, run_load, hc, Result.andThen_ok]
    rw [show o + i + (n + 1) = o + (i + 1) + n from by omega] at h ⊢
    rw [ih _ _ _ h]
    congr 1
    rw [Array.push_eq_append, Array.append_assoc]
    congr 1
    apply Array.ext_getElem?
    intro k
    simp only [Array.getElem?_append, Array.getElem?_extract, List.size_toArray, List.length_singleton]
    rcases k with _ | k
    · simp; omega
    · simp
      by_cases hk : k < min (o + (i + 1) + n) (row w g).size - (o + (i + 1))
      · rw [if_pos (by omega), if_pos (by omega)]; congr 1; omega
      · rw [if_neg (by omega), if_neg (by omega)]
theorem run_loadVar_rows (t : TypeId) (g o : Nat) (ha : (isAgg t).run P w = .ok true w) (hs : (sizeOf t).run P w = .ok (P.cellsOf t) w) (h : o + P.cellsOf t ≤ (row w g).size) :
    (loadVar t ⟨g, o, none⟩).run P w = .ok (.agg ((row w g).extract o (o + P.cellsOf t))) w := by
  simp only [loadVar, Sem.run_bind, ha, Result.andThen_ok, if_true, hs, loadCells]
  rw [run_loadCellsFrom w g (P.cellsOf t) o 0 #[] (by omega)]
  simp
/-- A variable at an address, loaded; stored: not opened by the walk. -/
def loadRow (t : TypeId) (a : Value) : Sem Value := Instr.loadAt t a
def storeRow (t : TypeId) (a v : Value) : Sem Unit := Instr.storeAt t a v
@[simp ↓ high] theorem loadAt_row (t : TypeId) (a : Value) : Instr.loadAt t a = loadRow t a := rfl
@[simp ↓ high] theorem storeAt_row (t : TypeId) (a v : Value) : Instr.storeAt t a v = storeRow t a v := rfl
theorem loadRow_at (t : TypeId) (g o : Nat) : loadRow t (.pointer (some ⟨g, o, none⟩)) = loadVar t ⟨g, o, none⟩ := rfl
theorem storeRow_at (t : TypeId) (g o : Nat) (v : Value) : storeRow t (.pointer (some ⟨g, o, none⟩)) v = storeVar t ⟨g, o, none⟩ v := rfl
/-- A load, a store, that do not fit: not opened. -/
def loadElse (t : TypeId) (a : Value) : Sem Value := Instr.loadAt t a
def storeElse (t : TypeId) (a v : Value) : Sem Unit := Instr.storeAt t a v
theorem run_loadRow_agg' (t : TypeId) (g o : Nat) (ha : (isAgg t).run P w = .ok true w) (hs : (sizeOf t).run P w = .ok (P.cellsOf t) w) (h : o + P.cellsOf t ≤ (row w g).size) :
    (loadRow t (.pointer (some ⟨g, o, none⟩))).run P w = .ok (.agg ((row w g).extract o (o + P.cellsOf t))) w := run_loadVar_rows w t g o ha hs h
@[go_sem] theorem run_loadRow_agg (t : TypeId) (g o : Nat) (ha : (isAgg t).run P w = .ok true w) (hs : (sizeOf t).run P w = .ok (P.cellsOf t) w) :
    (loadRow t (.pointer (some ⟨g, o, none⟩))).run P w = if o + P.cellsOf t ≤ (row w g).size then .ok (.agg ((row w g).extract o (o + P.cellsOf t))) w else (loadElse t (.pointer (some ⟨g, o, none⟩))).run P w := by
  split
  · exact run_loadRow_agg' w t g o ha hs ‹_›
  · rfl
@[go_sem] theorem run_loadRow_one (t : TypeId) (g o : Nat) (ha : (isAgg t).run P w = .ok false w) : (loadRow t (.pointer (some ⟨g, o, none⟩))).run P w = (load ⟨g, o, none⟩).run P w := by
  simp only [loadRow_at, loadVar, Sem.run_bind, ha, Result.andThen_ok, Bool.false_eq_true, if_false]
/-- Values of one cell each. -/
def Plain (d : Array Value) : Prop := ∀ v ∈ d, v.oneCell' = true
theorem run_storeCells (g : Nat) (d : List Value) : ∀ (w : World) (o i : Nat), (∀ v ∈ d, v.oneCell' = true) → thawed w g = true → o + i + d.length ≤ (row w g).size →
    (storeCells ⟨g, o, none⟩ d i).run P w = .ok () (setRow w g (splice (row w g) (o + i) d)) := by
  induction d with
  | nil =>
    intro w o i _ ht _
    have : setRow w g (row w g) = w := by
      obtain ⟨c, e, hb⟩ := thawed_cells ht
      cases w with | mk heap tape drawn os output =>
      simp only [setRow, row, hb]
      congr 1
      apply Array.ext_getElem?
      intro k
      simp only [Array.getElem?_modify]
      by_cases hk : g = k
      · subst hk; simp only at hb; simp [hb]
      · simp [hk]
    simp [storeCells, splice, this]
  | cons v r ih =>
    intro w o i hv ht hl
    simp only [List.length_cons] at hl
    have hadd : (⟨g, o, none⟩ : Addr).add i = ⟨g, o + i, none⟩ := by unfold Addr.add; split <;> simp_all
    have hc : w.cell? ⟨g, o + i, none⟩ = some ((row w g)[o + i]'(by omega)) := by rw [cell?_row]; exact Array.getElem?_eq_getElem (by omega)
    simp only [storeCells, Sem.run_bind, hadd]
    rw [run_store P w _ v .plain (hv v (by simp))]
    simp only [hc, frozen?_thawed w g (o + i) ht, Bool.false_eq_true, if_false, Result.andThen_ok]
    rw [setRow_setCell w g _ v ht, ih _ _ _ (fun u hu => hv u (by simp [hu])) (by rw [thawed_setRow]; exact ht) (by rw [row_setRow_same _ _ _ ht]; simp; omega)]
    rw [row_setRow_same _ _ _ ht]
    congr 1
    rw [splice, show o + (i + 1) = o + i + 1 from by omega]
    simp only [setRow]
    congr 1
    apply Array.ext_getElem?
    intro k
    simp only [Array.getElem?_modify]
    by_cases hk : g = k
    · simp only [hk, if_true, Option.map_map]; cases w.heap[k]? with
      | none => rfl
      | some x => cases x <;> rfl
    · simp [hk]
/-- The row c with d laid over it from o on. -/
def over (c : Array Value) (o : Nat) (d : Array Value) : Array Value := splice c o d.toList
theorem run_storeRow_agg' (t : TypeId) (g o : Nat) (d : Array Value) (hs : (sizeOf t).run P w = .ok (P.cellsOf t) w) (hd : d.size = P.cellsOf t) (hp : Plain d) (ht : thawed w g = true) (h : o + P.cellsOf t ≤ (row w g).size) :
    (storeRow t (.pointer (some ⟨g, o, none⟩)) (.agg d)).run P w = .ok () (setRow w g (over (row w g) o d)) := by
  simp only [storeRow_at, storeVar, Value.cells, Sem.run_bind, hs, Result.andThen_ok, hd, ne_eq, not_true_eq_false, if_false]
  have := run_storeCells (P := P) g d.toList w o 0 (fun v hv => hp v (by simpa using hv)) ht (by simp [hd]; omega)
  rw [Nat.add_zero] at this
  exact this
@[go_sem] theorem run_storeRow_agg (t : TypeId) (g o : Nat) (d : Array Value) (hs : (sizeOf t).run P w = .ok (P.cellsOf t) w) (hd : d.size = P.cellsOf t) (hp : Plain d) :
    (storeRow t (.pointer (some ⟨g, o, none⟩)) (.agg d)).run P w = if thawed w g = true ∧ o + P.cellsOf t ≤ (row w g).size then .ok () (setRow w g (over (row w g) o d)) else (storeElse t (.pointer (some ⟨g, o, none⟩)) (.agg d)).run P w := by
  split
  · rename_i h; exact run_storeRow_agg' w t g o d hs hd hp h.1 h.2
  · rfl
theorem run_storeRow_one (t : TypeId) (g o : Nat) (v : Value) (hv : v.oneCell' = true) (hs : (sizeOf t).run P w = .ok 1 w) :
    (storeRow t (.pointer (some ⟨g, o, none⟩)) v).run P w = (store ⟨g, o, none⟩ v).run P w := by
  have hc : v.cells = #[v] := by cases v <;> first | rfl | (simp [Value.oneCell'] at hv)
  have ha : (⟨g, o, none⟩ : Addr).add 0 = ⟨g, o, none⟩ := rfl
  simp only [storeRow_at, storeVar, hc, Sem.run_bind, hs, Result.andThen_ok, List.size_toArray, List.length_cons, List.length_nil, Nat.zero_add, ne_eq, not_true_eq_false, if_false, storeCells, ha]
  generalize (store ⟨g, o, none⟩ v).run P w = r
  cases r <;> rfl
theorem Plain.set (d : Array Value) (i : Nat) (v : Value) (h : Plain d) (hv : v.oneCell' = true) : Plain (d.setIfInBounds i v) := by
  intro u hu
  rcases Array.mem_or_eq_of_mem_setIfInBounds hu with h' | h'
  · exact h u h'
  · rw [h']; exact hv
@[go_sem] theorem run_storeRow_int (t : TypeId) (g o : Nat) (k : IntKind) (n : Int) (hs : (sizeOf t).run P w = .ok 1 w) : (storeRow t (.pointer (some ⟨g, o, none⟩)) (.int k n)).run P w = (store ⟨g, o, none⟩ (.int k n)).run P w := run_storeRow_one w t g o _ rfl hs
@[go_sem] theorem Plain_set_int (d : Array Value) (i : Nat) (k : IntKind) (n : Int) (h : Plain d) : Plain (d.setIfInBounds i (.int k n)) := Plain.set d i _ h rfl
@[go_sem] theorem run_storeRow_bool (t : TypeId) (g o : Nat) (b : Bool) (hs : (sizeOf t).run P w = .ok 1 w) : (storeRow t (.pointer (some ⟨g, o, none⟩)) (.bool b)).run P w = (store ⟨g, o, none⟩ (.bool b)).run P w := run_storeRow_one w t g o _ rfl hs
@[go_sem] theorem Plain_set_bool (d : Array Value) (i : Nat) (b : Bool) (h : Plain d) : Plain (d.setIfInBounds i (.bool b)) := Plain.set d i _ h rfl
@[go_sem] theorem run_storeRow_string (t : TypeId) (g o : Nat) (s : ByteArray) (hs : (sizeOf t).run P w = .ok 1 w) : (storeRow t (.pointer (some ⟨g, o, none⟩)) (.string s)).run P w = (store ⟨g, o, none⟩ (.string s)).run P w := run_storeRow_one w t g o _ rfl hs
@[go_sem] theorem Plain_set_string (d : Array Value) (i : Nat) (s : ByteArray) (h : Plain d) : Plain (d.setIfInBounds i (.string s)) := Plain.set d i _ h rfl
@[go_sem] theorem run_storeRow_pointer (t : TypeId) (g o : Nat) (a : Option Addr) (hs : (sizeOf t).run P w = .ok 1 w) : (storeRow t (.pointer (some ⟨g, o, none⟩)) (.pointer a)).run P w = (store ⟨g, o, none⟩ (.pointer a)).run P w := run_storeRow_one w t g o _ rfl hs
@[go_sem] theorem Plain_set_pointer (d : Array Value) (i : Nat) (a : Option Addr) (h : Plain d) : Plain (d.setIfInBounds i (.pointer a)) := Plain.set d i _ h rfl
@[go_sem] theorem run_storeRow_slice (t : TypeId) (g o : Nat) (a : Option Addr) (n c : Nat) (hs : (sizeOf t).run P w = .ok 1 w) : (storeRow t (.pointer (some ⟨g, o, none⟩)) (.slice a n c)).run P w = (store ⟨g, o, none⟩ (.slice a n c)).run P w := run_storeRow_one w t g o _ rfl hs
@[go_sem] theorem Plain_set_slice (d : Array Value) (i : Nat) (a : Option Addr) (n c : Nat) (h : Plain d) : Plain (d.setIfInBounds i (.slice a n c)) := Plain.set d i _ h rfl
@[go_sem] theorem run_storeRow_iface (t : TypeId) (g o : Nat) (u : TypeId) (v : Value) (hs : (sizeOf t).run P w = .ok 1 w) : (storeRow t (.pointer (some ⟨g, o, none⟩)) (.iface u v)).run P w = (store ⟨g, o, none⟩ (.iface u v)).run P w := run_storeRow_one w t g o _ rfl hs
@[go_sem] theorem Plain_set_iface (d : Array Value) (i : Nat) (u : TypeId) (v : Value) (h : Plain d) : Plain (d.setIfInBounds i (.iface u v)) := Plain.set d i _ h rfl
@[go_sem] theorem run_storeRow_nilIface (t : TypeId) (g o : Nat)  (hs : (sizeOf t).run P w = .ok 1 w) : (storeRow t (.pointer (some ⟨g, o, none⟩)) (.nilIface)).run P w = (store ⟨g, o, none⟩ (.nilIface)).run P w := run_storeRow_one w t g o _ rfl hs
@[go_sem] theorem Plain_set_nilIface (d : Array Value) (i : Nat)  (h : Plain d) : Plain (d.setIfInBounds i (.nilIface)) := Plain.set d i _ h rfl
@[go_sem] theorem run_storeRow_func (t : TypeId) (g o : Nat) (f : Fn) (a c : Array Value) (hs : (sizeOf t).run P w = .ok 1 w) : (storeRow t (.pointer (some ⟨g, o, none⟩)) (.func f a c)).run P w = (store ⟨g, o, none⟩ (.func f a c)).run P w := run_storeRow_one w t g o _ rfl hs
@[go_sem] theorem Plain_set_func (d : Array Value) (i : Nat) (f : Fn) (a c : Array Value) (h : Plain d) : Plain (d.setIfInBounds i (.func f a c)) := Plain.set d i _ h rfl
@[go_sem] theorem run_storeRow_map (t : TypeId) (g o : Nat) (r : Option Nat) (hs : (sizeOf t).run P w = .ok 1 w) : (storeRow t (.pointer (some ⟨g, o, none⟩)) (.map r)).run P w = (store ⟨g, o, none⟩ (.map r)).run P w := run_storeRow_one w t g o _ rfl hs
@[go_sem] theorem Plain_set_map (d : Array Value) (i : Nat) (r : Option Nat) (h : Plain d) : Plain (d.setIfInBounds i (.map r)) := Plain.set d i _ h rfl
end
@[go_sem] theorem over_all (c d : Array Value) (h : c.size = d.size) : over c 0 d = d := splice_whole c d h
@[go_sem] theorem size_over (c d : Array Value) (o : Nat) : (over c o d).size = c.size := size_splice _ _ _
theorem get_over (c d : Array Value) (o i : Nat) (h : o + d.size ≤ c.size) : (over c o d)[i]? = if o ≤ i ∧ i < o + d.size then d[i - o]? else c[i]? := by
  have := get_splice d.toList c o i (by simpa using h)
  simpa [over] using this
@[go_sem] theorem extract_all (c : Array Value) (n : Nat) (h : c.size ≤ n) : c.extract 0 n = c := by
  rw [Array.extract_eq_self_of_le h]
/-! ### A function's end, a struct among its results. -/
section
variable {P : Program} {fn : Func} {R : Ending → World → Prop} {a : Act} {w : World} {p u u' : Tmp} {ty n g : Nat} {D : Array Value}
theorem run_resVar (ha : ∀ w, (isAgg ty).run P w = .ok true w) (hs : ∀ w, (sizeOf ty).run P w = .ok n w) (hD : D.size = n) (hrow : row w g = D) : (loadVar ty ⟨g, 0, none⟩).run P w = .ok (.agg D) w := by
  have hc : P.cellsOf ty = n := by
    have := hs w
    simp only [Go.sizeOf, typeInfo, Sem.run_bind, run_program, Result.andThen_ok] at this
    unfold Program.cellsOf
    cases hi : P.info? ty with
    | none => simp [hi] at this
    | some i => simp [hi] at this; simp [this]
  have h := run_loadVar_rows (P := P) w ty g 0 (ha w) (by rw [hc]; exact hs w) (by rw [hc, hrow]; omega)
  rw [h, hc, hrow, extract_all _ _ (by omega)]
theorem ret_agg (h : fn.results = #[.cell p ty]) (ha : ∀ w, (isAgg ty).run P w = .ok true w) (hs : ∀ w, (sizeOf ty).run P w = .ok n w) (hp : a.tmps.getD p undef = .pointer (some ⟨g, 0, none⟩)) (hD : D.size = n) (hrow : row w g = D)
    (hd : a.defers = []) (hR : R (.returned (.agg D)) w) : bodyPost P fn R .ret a w := by
  refine bodyPost_ret (v := .agg D) ?_ hd hR
  have hl := run_resVar (P := P) ha hs hD hrow
  rw [Array.getD_eq_getD_getElem?] at hp
  simp only [results, h]
  simp [hp, asAddr, hl]
theorem ret_agg_tmp (h : fn.results = #[.cell p ty, .tmp u]) (ha : ∀ w, (isAgg ty).run P w = .ok true w) (hs : ∀ w, (sizeOf ty).run P w = .ok n w) (hp : a.tmps.getD p undef = .pointer (some ⟨g, 0, none⟩)) (hD : D.size = n) (hrow : row w g = D)
    (hd : a.defers = []) (hR : R (.returned (.tuple #[.agg D, a.tmps.getD u undef])) w) : bodyPost P fn R .ret a w := by
  refine bodyPost_ret (v := .tuple #[.agg D, a.tmps.getD u undef]) ?_ hd hR
  have hl := run_resVar (P := P) ha hs hD hrow
  rw [results_cell_tmp h, hp]
  simp [asAddr, hl]
theorem ret_agg_tmp2 (h : fn.results = #[.cell p ty, .tmp u, .tmp u']) (ha : ∀ w, (isAgg ty).run P w = .ok true w) (hs : ∀ w, (sizeOf ty).run P w = .ok n w) (hp : a.tmps.getD p undef = .pointer (some ⟨g, 0, none⟩)) (hD : D.size = n) (hrow : row w g = D)
    (hd : a.defers = []) (hR : R (.returned (.tuple #[.agg D, a.tmps.getD u undef, a.tmps.getD u' undef])) w) : bodyPost P fn R .ret a w := by
  refine bodyPost_ret (v := .tuple #[.agg D, a.tmps.getD u undef, a.tmps.getD u' undef]) ?_ hd hR
  have hl := run_resVar (P := P) ha hs hD hrow
  rw [Array.getD_eq_getD_getElem?] at hp
  simp only [results, h]
  simp [Result.andThen, hp, asAddr, hl]
end
theorem Adds.of_eq {w w' : World} (h : w' = w) : Adds w w' := h ▸ Adds.refl w
end Go.Proofs.Ytebflegkdfhoaaa
