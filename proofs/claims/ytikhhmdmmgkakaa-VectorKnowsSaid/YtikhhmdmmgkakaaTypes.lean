/-
  The struct and array types of this translation: how many cells, that all are ints, and '==' on them. Conditions: none.
-/
import Derived.Test.YtikhhmdmmgkakaaProg
import Derived.Test.YtikhhmdmmgkakaaCore2
namespace Go.Proofs.Ytikhhmdmmgkakaa
open Go.RowKit
@[go_sem] theorem cells_vec : Try.prog.cellsOf 22 = 4 := by kernel_rfl
theorem flat_vec : flatAt Try.prog 3 22 = true := by kernel_rfl
@[go_sem] theorem guard_vec : Try.prog.eqGuardType Try.prog.depth 22 = false := by kernel_rfl
@[go_sem high] theorem eql_vec (l m : List Int) (hl : l.length = 4) (hm : m.length = 4) (w : World) : (binOp .eql 22 (.agg (A l)) (.agg (A m))).run Try.prog w = .ok (.bool (l == m)) w := (run_eql_flat 3 flat_vec (by omega) (by kernel_rfl) w l m (by rw [cells_vec]; exact hl) (by rw [cells_vec]; exact hm)).1
@[go_sem high] theorem neq_vec (l m : List Int) (hl : l.length = 4) (hm : m.length = 4) (w : World) : (binOp .neq 22 (.agg (A l)) (.agg (A m))).run Try.prog w = .ok (.bool (l != m)) w := (run_eql_flat 3 flat_vec (by omega) (by kernel_rfl) w l m (by rw [cells_vec]; exact hl) (by rw [cells_vec]; exact hm)).2
@[go_sem] theorem cells_id : Try.prog.cellsOf 32 = 2 := by kernel_rfl
theorem flat_id : flatAt Try.prog 3 32 = true := by kernel_rfl
@[go_sem] theorem guard_id : Try.prog.eqGuardType Try.prog.depth 32 = false := by kernel_rfl
@[go_sem high] theorem eql_id (l m : List Int) (hl : l.length = 2) (hm : m.length = 2) (w : World) : (binOp .eql 32 (.agg (A l)) (.agg (A m))).run Try.prog w = .ok (.bool (l == m)) w := (run_eql_flat 3 flat_id (by omega) (by kernel_rfl) w l m (by rw [cells_id]; exact hl) (by rw [cells_id]; exact hm)).1
@[go_sem high] theorem neq_id (l m : List Int) (hl : l.length = 2) (hm : m.length = 2) (w : World) : (binOp .neq 32 (.agg (A l)) (.agg (A m))).run Try.prog w = .ok (.bool (l != m)) w := (run_eql_flat 3 flat_id (by omega) (by kernel_rfl) w l m (by rw [cells_id]; exact hl) (by rw [cells_id]; exact hm)).2
@[go_sem] theorem cells_chg : Try.prog.cellsOf 34 = 9 := by kernel_rfl
theorem flat_chg : flatAt Try.prog 3 34 = true := by kernel_rfl
@[go_sem] theorem guard_chg : Try.prog.eqGuardType Try.prog.depth 34 = false := by kernel_rfl
@[go_sem high] theorem eql_chg (l m : List Int) (hl : l.length = 9) (hm : m.length = 9) (w : World) : (binOp .eql 34 (.agg (A l)) (.agg (A m))).run Try.prog w = .ok (.bool (l == m)) w := (run_eql_flat 3 flat_chg (by omega) (by kernel_rfl) w l m (by rw [cells_chg]; exact hl) (by rw [cells_chg]; exact hm)).1
@[go_sem high] theorem neq_chg (l m : List Int) (hl : l.length = 9) (hm : m.length = 9) (w : World) : (binOp .neq 34 (.agg (A l)) (.agg (A m))).run Try.prog w = .ok (.bool (l != m)) w := (run_eql_flat 3 flat_chg (by omega) (by kernel_rfl) w l m (by rw [cells_chg]; exact hl) (by rw [cells_chg]; exact hm)).2
@[go_sem] theorem cells_eight : Try.prog.cellsOf 36 = 8 := by kernel_rfl
theorem flat_eight : flatAt Try.prog 3 36 = true := by kernel_rfl
@[go_sem] theorem guard_eight : Try.prog.eqGuardType Try.prog.depth 36 = false := by kernel_rfl
@[go_sem high] theorem eql_eight (l m : List Int) (hl : l.length = 8) (hm : m.length = 8) (w : World) : (binOp .eql 36 (.agg (A l)) (.agg (A m))).run Try.prog w = .ok (.bool (l == m)) w := (run_eql_flat 3 flat_eight (by omega) (by kernel_rfl) w l m (by rw [cells_eight]; exact hl) (by rw [cells_eight]; exact hm)).1
@[go_sem high] theorem neq_eight (l m : List Int) (hl : l.length = 8) (hm : m.length = 8) (w : World) : (binOp .neq 36 (.agg (A l)) (.agg (A m))).run Try.prog w = .ok (.bool (l != m)) w := (run_eql_flat 3 flat_eight (by omega) (by kernel_rfl) w l m (by rw [cells_eight]; exact hl) (by rw [cells_eight]; exact hm)).2
@[go_sem] theorem cells_ord : Try.prog.cellsOf 62 = 7 := by kernel_rfl
theorem flat_ord : flatAt Try.prog 3 62 = true := by kernel_rfl
@[go_sem] theorem guard_ord : Try.prog.eqGuardType Try.prog.depth 62 = false := by kernel_rfl
@[go_sem high] theorem eql_ord (l m : List Int) (hl : l.length = 7) (hm : m.length = 7) (w : World) : (binOp .eql 62 (.agg (A l)) (.agg (A m))).run Try.prog w = .ok (.bool (l == m)) w := (run_eql_flat 3 flat_ord (by omega) (by kernel_rfl) w l m (by rw [cells_ord]; exact hl) (by rw [cells_ord]; exact hm)).1
@[go_sem high] theorem neq_ord (l m : List Int) (hl : l.length = 7) (hm : m.length = 7) (w : World) : (binOp .neq 62 (.agg (A l)) (.agg (A m))).run Try.prog w = .ok (.bool (l != m)) w := (run_eql_flat 3 flat_ord (by omega) (by kernel_rfl) w l m (by rw [cells_ord]; exact hl) (by rw [cells_ord]; exact hm)).2
@[go_sem] theorem index_vec (l : List Int) (hl : l.length = 4) (i : Int) (h0 : 0 ≤ i) (h1 : i < 4) (w : World) : (Instr.index 22 (.agg (A l)) (.int .i64 i)).run Try.prog w = .ok (.int .i64 (nth l i.toNat)) w := run_index_flat Try.underlying22 Try.underlying3 (by kernel_rfl) (by kernel_rfl) l hl i h0 h1 w
@[go_sem] theorem index_eight (l : List Int) (hl : l.length = 8) (i : Int) (h0 : 0 ≤ i) (h1 : i < 8) (w : World) : (Instr.index 36 (.agg (A l)) (.int .i64 i)).run Try.prog w = .ok (.int .i64 (nth l i.toNat)) w := run_index_flat Try.underlying36 Try.underlying2 (by kernel_rfl) (by kernel_rfl) l hl i h0 h1 w
@[go_sem] theorem cells_book : Try.prog.cellsOf 39 = 25 := by kernel_rfl
/-- The zero booking. -/
def z24 : List Int := List.replicate 24 0
theorem len_z24 : z24.length = 24 := by simp [z24]
def zB : Array Value := bk z24 (.slice none 0 0)
@[go_sem] theorem size_zB : zB.size = 25 := by simp [zB, size_bk, len_z24]
@[go_sem] theorem plain_zB : Plain zB := plain_bk _ _ rfl
@[simp high] theorem zero_book (w : World) : (zeroValue 39).run Try.prog w = .ok (.agg zB) w := Try.zeroValue39 w
end Go.Proofs.Ytikhhmdmmgkakaa
