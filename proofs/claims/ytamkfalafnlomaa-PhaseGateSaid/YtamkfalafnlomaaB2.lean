import Derived.Test.YtamkfalafnlomaaB1
import Derived.Test.YtamkfalafnlomaaA2
set_option linter.unusedVariables false
set_option linter.unusedSimpArgs false
namespace Go.Proofs.Ytamkfalafnlomaa.F
open Go.RowKit Go.Proofs.Ytamkfalafnlomaa.K
theorem info51 : (Try.prog.info? 51).map (·.size) = some 9 := by kernel_rfl
def rowsV : Array Value := #[.int .i64 1, .int .i64 0, .int .i64 (-1), .int .i64 (-1), .int .i64 0, .int .i64 (-1), .int .i64 (-1), .int .i64 (-1), .int .i64 0, .int .i64 (-1), .int .i64 0, .int .i64 (-1), .int .i64 1, .int .i64 0, .int .i64 (-1), .int .i64 (-1), .int .i64 (-1), .int .i64 4, .int .i64 (-1), .int .i64 0, .int .i64 (-1), .int .i64 1, .int .i64 4, .int .i64 (-1), .int .i64 (-1), .int .i64 4, .int .i64 4, .int .i64 (-1), .int .i64 0, .int .i64 (-1), .int .i64 1, .int .i64 4, .int .i64 (-1), .int .i64 (-1), .int .i64 4, .int .i64 4, .int .i64 (-1), .int .i64 0, .int .i64 (-1), .int .i64 4, .int .i64 0, .int .i64 (-1), .int .i64 (-1), .int .i64 4, .int .i64 4]
theorem at36_0 (g : Nat) (w : World) (hg : w.heap[g]? = some (.cells rowsV 51 (0, 0))) :
  Calls Try.prog 36 #[.slice (some ⟨g, 0, none⟩) 5 5, .int .i64 0, .agg #[.int .i64 0, .int .i64 0, .int .i64 0, .int .i64 0, .int .i64 0, .int .i64 0, .int .i64 0, .int .i64 0, .int .i64 0]] w fun e w' => e = .returned (.agg #[.int .i64 1, .int .i64 0, .int .i64 (-1), .int .i64 (-1), .int .i64 0, .int .i64 (-1), .int .i64 (-1), .int .i64 (-1), .int .i64 0]) ∧ Below w.heap.size w w' := by
  have c0 : w.cell? ⟨g, 0, none⟩ = some (.int .i64 1) := (cell_of_row _ _ _ _ _ _ hg).trans rfl
  have c1 : w.cell? ⟨g, 1, none⟩ = some (.int .i64 0) := (cell_of_row _ _ _ _ _ _ hg).trans rfl
  have c2 : w.cell? ⟨g, 2, none⟩ = some (.int .i64 (-1)) := (cell_of_row _ _ _ _ _ _ hg).trans rfl
  have c3 : w.cell? ⟨g, 3, none⟩ = some (.int .i64 (-1)) := (cell_of_row _ _ _ _ _ _ hg).trans rfl
  have c4 : w.cell? ⟨g, 4, none⟩ = some (.int .i64 0) := (cell_of_row _ _ _ _ _ _ hg).trans rfl
  have c5 : w.cell? ⟨g, 5, none⟩ = some (.int .i64 (-1)) := (cell_of_row _ _ _ _ _ _ hg).trans rfl
  have c6 : w.cell? ⟨g, 6, none⟩ = some (.int .i64 (-1)) := (cell_of_row _ _ _ _ _ _ hg).trans rfl
  have c7 : w.cell? ⟨g, 7, none⟩ = some (.int .i64 (-1)) := (cell_of_row _ _ _ _ _ _ hg).trans rfl
  have c8 : w.cell? ⟨g, 8, none⟩ = some (.int .i64 0) := (cell_of_row _ _ _ _ _ _ hg).trans rfl
  have hlt : g < w.heap.size := (Array.getElem?_eq_some_iff.1 hg).1
  clear hg
  go_enter Try.func36, Try.ntmps36
  go_wp2
  exact bodyPost_ret (v := .agg #[.int .i64 1, .int .i64 0, .int .i64 (-1), .int .i64 (-1), .int .i64 0, .int .i64 (-1), .int .i64 (-1), .int .i64 (-1), .int .i64 0]) (results_cell_row rfl _ _ (w.heap.size + 1) 51 _ (0, 0) _ rfl (heap_alloc2_new _ _ _) Try.underlying51 rfl info51) rfl ⟨rfl, ((Below.refl _ w).alloc (Nat.le_refl _) _).alloc (by simp) _⟩
theorem row27_0 (w : World) :
  Calls Try.prog 27 #[.int .i64 0] w fun e w' => e = .returned (.agg #[.int .i64 1, .int .i64 0, .int .i64 (-1), .int .i64 (-1), .int .i64 0, .int .i64 (-1), .int .i64 (-1), .int .i64 (-1), .int .i64 0]) ∧ Below w.heap.size w w' := by
  go_enter Try.func27, Try.ntmps27
  go_wp2_with fail
  refine (at36_0 (w.heap.size + 1) _ (heap_alloc2_new _ _ _)).mono ?_
  rintro e w1 ⟨rfl, hb⟩
  have hh : w1.heap[w.heap.size]? = some (.cells #[.int .i64 0, .int .i64 0, .int .i64 0, .int .i64 0, .int .i64 0, .int .i64 0, .int .i64 0, .int .i64 0, .int .i64 0] 51 (0, 0)) := (hb.block _ (by simp; omega)).trans (heap_alloc2_old _ _ _)
  replace hb := below_then (((Below.refl _ w).alloc (Nat.le_refl _) _).alloc (by simp) _) hb
  have d0 : ∀ j v, (#[.int .i64 0, .int .i64 0, .int .i64 0, .int .i64 0, .int .i64 0, .int .i64 0, .int .i64 0, .int .i64 0, .int .i64 0] : Array Value)[j]? = some v → w1.cell? ⟨w.heap.size, j, none⟩ = some v := fun j v hv => by rw [cell_of_row _ _ _ _ _ _ hh]; exact hv
  have e0 := d0 0 _ rfl
  have f0 := frozen_of_row w1 w.heap.size 0 _ 51 hh
  have e1 := d0 1 _ rfl
  have f1 := frozen_of_row w1 w.heap.size 1 _ 51 hh
  have e2 := d0 2 _ rfl
  have f2 := frozen_of_row w1 w.heap.size 2 _ 51 hh
  have e3 := d0 3 _ rfl
  have f3 := frozen_of_row w1 w.heap.size 3 _ 51 hh
  have e4 := d0 4 _ rfl
  have f4 := frozen_of_row w1 w.heap.size 4 _ 51 hh
  have e5 := d0 5 _ rfl
  have f5 := frozen_of_row w1 w.heap.size 5 _ 51 hh
  have e6 := d0 6 _ rfl
  have f6 := frozen_of_row w1 w.heap.size 6 _ 51 hh
  have e7 := d0 7 _ rfl
  have f7 := frozen_of_row w1 w.heap.size 7 _ 51 hh
  have e8 := d0 8 _ rfl
  have f8 := frozen_of_row w1 w.heap.size 8 _ 51 hh
  have H := Lib.hid hh
  clear hh d0
  go_wp2
  exact bodyPost_ret (v := .agg #[.int .i64 1, .int .i64 0, .int .i64 (-1), .int .i64 (-1), .int .i64 0, .int .i64 (-1), .int .i64 (-1), .int .i64 (-1), .int .i64 0]) (results_cell_row rfl _ _ w.heap.size 51 _ (0, 0) _ rfl (setcell_blk (setcell_blk (setcell_blk (setcell_blk (setcell_blk (setcell_blk (setcell_blk (setcell_blk (setcell_blk H.out _ rfl) _ rfl) _ rfl) _ rfl) _ rfl) _ rfl) _ rfl) _ rfl) _ rfl) Try.underlying51 rfl info51) rfl ⟨rfl, (((((((((hb.setCell (Nat.le_refl _) _).setCell (Nat.le_refl _) _).setCell (Nat.le_refl _) _).setCell (Nat.le_refl _) _).setCell (Nat.le_refl _) _).setCell (Nat.le_refl _) _).setCell (Nat.le_refl _) _).setCell (Nat.le_refl _) _).setCell (Nat.le_refl _) _)⟩
theorem at36_1 (g : Nat) (w : World) (hg : w.heap[g]? = some (.cells rowsV 51 (0, 0))) :
  Calls Try.prog 36 #[.slice (some ⟨g, 0, none⟩) 5 5, .int .i64 1, .agg #[.int .i64 0, .int .i64 0, .int .i64 0, .int .i64 0, .int .i64 0, .int .i64 0, .int .i64 0, .int .i64 0, .int .i64 0]] w fun e w' => e = .returned (.agg #[.int .i64 (-1), .int .i64 0, .int .i64 (-1), .int .i64 1, .int .i64 0, .int .i64 (-1), .int .i64 (-1), .int .i64 (-1), .int .i64 4]) ∧ Below w.heap.size w w' := by
  have c0 : w.cell? ⟨g, 9, none⟩ = some (.int .i64 (-1)) := (cell_of_row _ _ _ _ _ _ hg).trans rfl
  have c1 : w.cell? ⟨g, 10, none⟩ = some (.int .i64 0) := (cell_of_row _ _ _ _ _ _ hg).trans rfl
  have c2 : w.cell? ⟨g, 11, none⟩ = some (.int .i64 (-1)) := (cell_of_row _ _ _ _ _ _ hg).trans rfl
  have c3 : w.cell? ⟨g, 12, none⟩ = some (.int .i64 1) := (cell_of_row _ _ _ _ _ _ hg).trans rfl
  have c4 : w.cell? ⟨g, 13, none⟩ = some (.int .i64 0) := (cell_of_row _ _ _ _ _ _ hg).trans rfl
  have c5 : w.cell? ⟨g, 14, none⟩ = some (.int .i64 (-1)) := (cell_of_row _ _ _ _ _ _ hg).trans rfl
  have c6 : w.cell? ⟨g, 15, none⟩ = some (.int .i64 (-1)) := (cell_of_row _ _ _ _ _ _ hg).trans rfl
  have c7 : w.cell? ⟨g, 16, none⟩ = some (.int .i64 (-1)) := (cell_of_row _ _ _ _ _ _ hg).trans rfl
  have c8 : w.cell? ⟨g, 17, none⟩ = some (.int .i64 4) := (cell_of_row _ _ _ _ _ _ hg).trans rfl
  have hlt : g < w.heap.size := (Array.getElem?_eq_some_iff.1 hg).1
  clear hg
  go_enter Try.func36, Try.ntmps36
  go_wp2
  exact bodyPost_ret (v := .agg #[.int .i64 (-1), .int .i64 0, .int .i64 (-1), .int .i64 1, .int .i64 0, .int .i64 (-1), .int .i64 (-1), .int .i64 (-1), .int .i64 4]) (results_cell_row rfl _ _ (w.heap.size + 1) 51 _ (0, 0) _ rfl (heap_alloc2_new _ _ _) Try.underlying51 rfl info51) rfl ⟨rfl, ((Below.refl _ w).alloc (Nat.le_refl _) _).alloc (by simp) _⟩
theorem row27_1 (w : World) :
  Calls Try.prog 27 #[.int .i64 1] w fun e w' => e = .returned (.agg #[.int .i64 (-1), .int .i64 0, .int .i64 (-1), .int .i64 1, .int .i64 0, .int .i64 (-1), .int .i64 (-1), .int .i64 (-1), .int .i64 4]) ∧ Below w.heap.size w w' := by
  go_enter Try.func27, Try.ntmps27
  go_wp2_with fail
  refine (at36_1 (w.heap.size + 1) _ (heap_alloc2_new _ _ _)).mono ?_
  rintro e w1 ⟨rfl, hb⟩
  have hh : w1.heap[w.heap.size]? = some (.cells #[.int .i64 0, .int .i64 0, .int .i64 0, .int .i64 0, .int .i64 0, .int .i64 0, .int .i64 0, .int .i64 0, .int .i64 0] 51 (0, 0)) := (hb.block _ (by simp; omega)).trans (heap_alloc2_old _ _ _)
  replace hb := below_then (((Below.refl _ w).alloc (Nat.le_refl _) _).alloc (by simp) _) hb
  have d0 : ∀ j v, (#[.int .i64 0, .int .i64 0, .int .i64 0, .int .i64 0, .int .i64 0, .int .i64 0, .int .i64 0, .int .i64 0, .int .i64 0] : Array Value)[j]? = some v → w1.cell? ⟨w.heap.size, j, none⟩ = some v := fun j v hv => by rw [cell_of_row _ _ _ _ _ _ hh]; exact hv
  have e0 := d0 0 _ rfl
  have f0 := frozen_of_row w1 w.heap.size 0 _ 51 hh
  have e1 := d0 1 _ rfl
  have f1 := frozen_of_row w1 w.heap.size 1 _ 51 hh
  have e2 := d0 2 _ rfl
  have f2 := frozen_of_row w1 w.heap.size 2 _ 51 hh
  have e3 := d0 3 _ rfl
  have f3 := frozen_of_row w1 w.heap.size 3 _ 51 hh
  have e4 := d0 4 _ rfl
  have f4 := frozen_of_row w1 w.heap.size 4 _ 51 hh
  have e5 := d0 5 _ rfl
  have f5 := frozen_of_row w1 w.heap.size 5 _ 51 hh
  have e6 := d0 6 _ rfl
  have f6 := frozen_of_row w1 w.heap.size 6 _ 51 hh
  have e7 := d0 7 _ rfl
  have f7 := frozen_of_row w1 w.heap.size 7 _ 51 hh
  have e8 := d0 8 _ rfl
  have f8 := frozen_of_row w1 w.heap.size 8 _ 51 hh
  have H := Lib.hid hh
  clear hh d0
  go_wp2
  exact bodyPost_ret (v := .agg #[.int .i64 (-1), .int .i64 0, .int .i64 (-1), .int .i64 1, .int .i64 0, .int .i64 (-1), .int .i64 (-1), .int .i64 (-1), .int .i64 4]) (results_cell_row rfl _ _ w.heap.size 51 _ (0, 0) _ rfl (setcell_blk (setcell_blk (setcell_blk (setcell_blk (setcell_blk (setcell_blk (setcell_blk (setcell_blk (setcell_blk H.out _ rfl) _ rfl) _ rfl) _ rfl) _ rfl) _ rfl) _ rfl) _ rfl) _ rfl) Try.underlying51 rfl info51) rfl ⟨rfl, (((((((((hb.setCell (Nat.le_refl _) _).setCell (Nat.le_refl _) _).setCell (Nat.le_refl _) _).setCell (Nat.le_refl _) _).setCell (Nat.le_refl _) _).setCell (Nat.le_refl _) _).setCell (Nat.le_refl _) _).setCell (Nat.le_refl _) _).setCell (Nat.le_refl _) _)⟩
theorem at36_2 (g : Nat) (w : World) (hg : w.heap[g]? = some (.cells rowsV 51 (0, 0))) :
  Calls Try.prog 36 #[.slice (some ⟨g, 0, none⟩) 5 5, .int .i64 2, .agg #[.int .i64 0, .int .i64 0, .int .i64 0, .int .i64 0, .int .i64 0, .int .i64 0, .int .i64 0, .int .i64 0, .int .i64 0]] w fun e w' => e = .returned (.agg #[.int .i64 (-1), .int .i64 0, .int .i64 (-1), .int .i64 1, .int .i64 4, .int .i64 (-1), .int .i64 (-1), .int .i64 4, .int .i64 4]) ∧ Below w.heap.size w w' := by
  have c0 : w.cell? ⟨g, 18, none⟩ = some (.int .i64 (-1)) := (cell_of_row _ _ _ _ _ _ hg).trans rfl
  have c1 : w.cell? ⟨g, 19, none⟩ = some (.int .i64 0) := (cell_of_row _ _ _ _ _ _ hg).trans rfl
  have c2 : w.cell? ⟨g, 20, none⟩ = some (.int .i64 (-1)) := (cell_of_row _ _ _ _ _ _ hg).trans rfl
  have c3 : w.cell? ⟨g, 21, none⟩ = some (.int .i64 1) := (cell_of_row _ _ _ _ _ _ hg).trans rfl
  have c4 : w.cell? ⟨g, 22, none⟩ = some (.int .i64 4) := (cell_of_row _ _ _ _ _ _ hg).trans rfl
  have c5 : w.cell? ⟨g, 23, none⟩ = some (.int .i64 (-1)) := (cell_of_row _ _ _ _ _ _ hg).trans rfl
  have c6 : w.cell? ⟨g, 24, none⟩ = some (.int .i64 (-1)) := (cell_of_row _ _ _ _ _ _ hg).trans rfl
  have c7 : w.cell? ⟨g, 25, none⟩ = some (.int .i64 4) := (cell_of_row _ _ _ _ _ _ hg).trans rfl
  have c8 : w.cell? ⟨g, 26, none⟩ = some (.int .i64 4) := (cell_of_row _ _ _ _ _ _ hg).trans rfl
  have hlt : g < w.heap.size := (Array.getElem?_eq_some_iff.1 hg).1
  clear hg
  go_enter Try.func36, Try.ntmps36
  go_wp2
  exact bodyPost_ret (v := .agg #[.int .i64 (-1), .int .i64 0, .int .i64 (-1), .int .i64 1, .int .i64 4, .int .i64 (-1), .int .i64 (-1), .int .i64 4, .int .i64 4]) (results_cell_row rfl _ _ (w.heap.size + 1) 51 _ (0, 0) _ rfl (heap_alloc2_new _ _ _) Try.underlying51 rfl info51) rfl ⟨rfl, ((Below.refl _ w).alloc (Nat.le_refl _) _).alloc (by simp) _⟩
theorem row27_2 (w : World) :
  Calls Try.prog 27 #[.int .i64 2] w fun e w' => e = .returned (.agg #[.int .i64 (-1), .int .i64 0, .int .i64 (-1), .int .i64 1, .int .i64 4, .int .i64 (-1), .int .i64 (-1), .int .i64 4, .int .i64 4]) ∧ Below w.heap.size w w' := by
  go_enter Try.func27, Try.ntmps27
  go_wp2_with fail
  refine (at36_2 (w.heap.size + 1) _ (heap_alloc2_new _ _ _)).mono ?_
  rintro e w1 ⟨rfl, hb⟩
  have hh : w1.heap[w.heap.size]? = some (.cells #[.int .i64 0, .int .i64 0, .int .i64 0, .int .i64 0, .int .i64 0, .int .i64 0, .int .i64 0, .int .i64 0, .int .i64 0] 51 (0, 0)) := (hb.block _ (by simp; omega)).trans (heap_alloc2_old _ _ _)
  replace hb := below_then (((Below.refl _ w).alloc (Nat.le_refl _) _).alloc (by simp) _) hb
  have d0 : ∀ j v, (#[.int .i64 0, .int .i64 0, .int .i64 0, .int .i64 0, .int .i64 0, .int .i64 0, .int .i64 0, .int .i64 0, .int .i64 0] : Array Value)[j]? = some v → w1.cell? ⟨w.heap.size, j, none⟩ = some v := fun j v hv => by rw [cell_of_row _ _ _ _ _ _ hh]; exact hv
  have e0 := d0 0 _ rfl
  have f0 := frozen_of_row w1 w.heap.size 0 _ 51 hh
  have e1 := d0 1 _ rfl
  have f1 := frozen_of_row w1 w.heap.size 1 _ 51 hh
  have e2 := d0 2 _ rfl
  have f2 := frozen_of_row w1 w.heap.size 2 _ 51 hh
  have e3 := d0 3 _ rfl
  have f3 := frozen_of_row w1 w.heap.size 3 _ 51 hh
  have e4 := d0 4 _ rfl
  have f4 := frozen_of_row w1 w.heap.size 4 _ 51 hh
  have e5 := d0 5 _ rfl
  have f5 := frozen_of_row w1 w.heap.size 5 _ 51 hh
  have e6 := d0 6 _ rfl
  have f6 := frozen_of_row w1 w.heap.size 6 _ 51 hh
  have e7 := d0 7 _ rfl
  have f7 := frozen_of_row w1 w.heap.size 7 _ 51 hh
  have e8 := d0 8 _ rfl
  have f8 := frozen_of_row w1 w.heap.size 8 _ 51 hh
  have H := Lib.hid hh
  clear hh d0
  go_wp2
  exact bodyPost_ret (v := .agg #[.int .i64 (-1), .int .i64 0, .int .i64 (-1), .int .i64 1, .int .i64 4, .int .i64 (-1), .int .i64 (-1), .int .i64 4, .int .i64 4]) (results_cell_row rfl _ _ w.heap.size 51 _ (0, 0) _ rfl (setcell_blk (setcell_blk (setcell_blk (setcell_blk (setcell_blk (setcell_blk (setcell_blk (setcell_blk (setcell_blk H.out _ rfl) _ rfl) _ rfl) _ rfl) _ rfl) _ rfl) _ rfl) _ rfl) _ rfl) Try.underlying51 rfl info51) rfl ⟨rfl, (((((((((hb.setCell (Nat.le_refl _) _).setCell (Nat.le_refl _) _).setCell (Nat.le_refl _) _).setCell (Nat.le_refl _) _).setCell (Nat.le_refl _) _).setCell (Nat.le_refl _) _).setCell (Nat.le_refl _) _).setCell (Nat.le_refl _) _).setCell (Nat.le_refl _) _)⟩
theorem at36_3 (g : Nat) (w : World) (hg : w.heap[g]? = some (.cells rowsV 51 (0, 0))) :
  Calls Try.prog 36 #[.slice (some ⟨g, 0, none⟩) 5 5, .int .i64 3, .agg #[.int .i64 0, .int .i64 0, .int .i64 0, .int .i64 0, .int .i64 0, .int .i64 0, .int .i64 0, .int .i64 0, .int .i64 0]] w fun e w' => e = .returned (.agg #[.int .i64 (-1), .int .i64 0, .int .i64 (-1), .int .i64 1, .int .i64 4, .int .i64 (-1), .int .i64 (-1), .int .i64 4, .int .i64 4]) ∧ Below w.heap.size w w' := by
  have c0 : w.cell? ⟨g, 27, none⟩ = some (.int .i64 (-1)) := (cell_of_row _ _ _ _ _ _ hg).trans rfl
  have c1 : w.cell? ⟨g, 28, none⟩ = some (.int .i64 0) := (cell_of_row _ _ _ _ _ _ hg).trans rfl
  have c2 : w.cell? ⟨g, 29, none⟩ = some (.int .i64 (-1)) := (cell_of_row _ _ _ _ _ _ hg).trans rfl
  have c3 : w.cell? ⟨g, 30, none⟩ = some (.int .i64 1) := (cell_of_row _ _ _ _ _ _ hg).trans rfl
  have c4 : w.cell? ⟨g, 31, none⟩ = some (.int .i64 4) := (cell_of_row _ _ _ _ _ _ hg).trans rfl
  have c5 : w.cell? ⟨g, 32, none⟩ = some (.int .i64 (-1)) := (cell_of_row _ _ _ _ _ _ hg).trans rfl
  have c6 : w.cell? ⟨g, 33, none⟩ = some (.int .i64 (-1)) := (cell_of_row _ _ _ _ _ _ hg).trans rfl
  have c7 : w.cell? ⟨g, 34, none⟩ = some (.int .i64 4) := (cell_of_row _ _ _ _ _ _ hg).trans rfl
  have c8 : w.cell? ⟨g, 35, none⟩ = some (.int .i64 4) := (cell_of_row _ _ _ _ _ _ hg).trans rfl
  have hlt : g < w.heap.size := (Array.getElem?_eq_some_iff.1 hg).1
  clear hg
  go_enter Try.func36, Try.ntmps36
  go_wp2
  exact bodyPost_ret (v := .agg #[.int .i64 (-1), .int .i64 0, .int .i64 (-1), .int .i64 1, .int .i64 4, .int .i64 (-1), .int .i64 (-1), .int .i64 4, .int .i64 4]) (results_cell_row rfl _ _ (w.heap.size + 1) 51 _ (0, 0) _ rfl (heap_alloc2_new _ _ _) Try.underlying51 rfl info51) rfl ⟨rfl, ((Below.refl _ w).alloc (Nat.le_refl _) _).alloc (by simp) _⟩
theorem row27_3 (w : World) :
  Calls Try.prog 27 #[.int .i64 3] w fun e w' => e = .returned (.agg #[.int .i64 (-1), .int .i64 0, .int .i64 (-1), .int .i64 1, .int .i64 4, .int .i64 (-1), .int .i64 (-1), .int .i64 4, .int .i64 4]) ∧ Below w.heap.size w w' := by
  go_enter Try.func27, Try.ntmps27
  go_wp2_with fail
  refine (at36_3 (w.heap.size + 1) _ (heap_alloc2_new _ _ _)).mono ?_
  rintro e w1 ⟨rfl, hb⟩
  have hh : w1.heap[w.heap.size]? = some (.cells #[.int .i64 0, .int .i64 0, .int .i64 0, .int .i64 0, .int .i64 0, .int .i64 0, .int .i64 0, .int .i64 0, .int .i64 0] 51 (0, 0)) := (hb.block _ (by simp; omega)).trans (heap_alloc2_old _ _ _)
  replace hb := below_then (((Below.refl _ w).alloc (Nat.le_refl _) _).alloc (by simp) _) hb
  have d0 : ∀ j v, (#[.int .i64 0, .int .i64 0, .int .i64 0, .int .i64 0, .int .i64 0, .int .i64 0, .int .i64 0, .int .i64 0, .int .i64 0] : Array Value)[j]? = some v → w1.cell? ⟨w.heap.size, j, none⟩ = some v := fun j v hv => by rw [cell_of_row _ _ _ _ _ _ hh]; exact hv
  have e0 := d0 0 _ rfl
  have f0 := frozen_of_row w1 w.heap.size 0 _ 51 hh
  have e1 := d0 1 _ rfl
  have f1 := frozen_of_row w1 w.heap.size 1 _ 51 hh
  have e2 := d0 2 _ rfl
  have f2 := frozen_of_row w1 w.heap.size 2 _ 51 hh
  have e3 := d0 3 _ rfl
  have f3 := frozen_of_row w1 w.heap.size 3 _ 51 hh
  have e4 := d0 4 _ rfl
  have f4 := frozen_of_row w1 w.heap.size 4 _ 51 hh
  have e5 := d0 5 _ rfl
  have f5 := frozen_of_row w1 w.heap.size 5 _ 51 hh
  have e6 := d0 6 _ rfl
  have f6 := frozen_of_row w1 w.heap.size 6 _ 51 hh
  have e7 := d0 7 _ rfl
  have f7 := frozen_of_row w1 w.heap.size 7 _ 51 hh
  have e8 := d0 8 _ rfl
  have f8 := frozen_of_row w1 w.heap.size 8 _ 51 hh
  have H := Lib.hid hh
  clear hh d0
  go_wp2
  exact bodyPost_ret (v := .agg #[.int .i64 (-1), .int .i64 0, .int .i64 (-1), .int .i64 1, .int .i64 4, .int .i64 (-1), .int .i64 (-1), .int .i64 4, .int .i64 4]) (results_cell_row rfl _ _ w.heap.size 51 _ (0, 0) _ rfl (setcell_blk (setcell_blk (setcell_blk (setcell_blk (setcell_blk (setcell_blk (setcell_blk (setcell_blk (setcell_blk H.out _ rfl) _ rfl) _ rfl) _ rfl) _ rfl) _ rfl) _ rfl) _ rfl) _ rfl) Try.underlying51 rfl info51) rfl ⟨rfl, (((((((((hb.setCell (Nat.le_refl _) _).setCell (Nat.le_refl _) _).setCell (Nat.le_refl _) _).setCell (Nat.le_refl _) _).setCell (Nat.le_refl _) _).setCell (Nat.le_refl _) _).setCell (Nat.le_refl _) _).setCell (Nat.le_refl _) _).setCell (Nat.le_refl _) _)⟩
theorem at36_4 (g : Nat) (w : World) (hg : w.heap[g]? = some (.cells rowsV 51 (0, 0))) :
  Calls Try.prog 36 #[.slice (some ⟨g, 0, none⟩) 5 5, .int .i64 4, .agg #[.int .i64 0, .int .i64 0, .int .i64 0, .int .i64 0, .int .i64 0, .int .i64 0, .int .i64 0, .int .i64 0, .int .i64 0]] w fun e w' => e = .returned (.agg #[.int .i64 (-1), .int .i64 0, .int .i64 (-1), .int .i64 4, .int .i64 0, .int .i64 (-1), .int .i64 (-1), .int .i64 4, .int .i64 4]) ∧ Below w.heap.size w w' := by
  have c0 : w.cell? ⟨g, 36, none⟩ = some (.int .i64 (-1)) := (cell_of_row _ _ _ _ _ _ hg).trans rfl
  have c1 : w.cell? ⟨g, 37, none⟩ = some (.int .i64 0) := (cell_of_row _ _ _ _ _ _ hg).trans rfl
  have c2 : w.cell? ⟨g, 38, none⟩ = some (.int .i64 (-1)) := (cell_of_row _ _ _ _ _ _ hg).trans rfl
  have c3 : w.cell? ⟨g, 39, none⟩ = some (.int .i64 4) := (cell_of_row _ _ _ _ _ _ hg).trans rfl
  have c4 : w.cell? ⟨g, 40, none⟩ = some (.int .i64 0) := (cell_of_row _ _ _ _ _ _ hg).trans rfl
  have c5 : w.cell? ⟨g, 41, none⟩ = some (.int .i64 (-1)) := (cell_of_row _ _ _ _ _ _ hg).trans rfl
  have c6 : w.cell? ⟨g, 42, none⟩ = some (.int .i64 (-1)) := (cell_of_row _ _ _ _ _ _ hg).trans rfl
  have c7 : w.cell? ⟨g, 43, none⟩ = some (.int .i64 4) := (cell_of_row _ _ _ _ _ _ hg).trans rfl
  have c8 : w.cell? ⟨g, 44, none⟩ = some (.int .i64 4) := (cell_of_row _ _ _ _ _ _ hg).trans rfl
  have hlt : g < w.heap.size := (Array.getElem?_eq_some_iff.1 hg).1
  clear hg
  go_enter Try.func36, Try.ntmps36
  go_wp2
  exact bodyPost_ret (v := .agg #[.int .i64 (-1), .int .i64 0, .int .i64 (-1), .int .i64 4, .int .i64 0, .int .i64 (-1), .int .i64 (-1), .int .i64 4, .int .i64 4]) (results_cell_row rfl _ _ (w.heap.size + 1) 51 _ (0, 0) _ rfl (heap_alloc2_new _ _ _) Try.underlying51 rfl info51) rfl ⟨rfl, ((Below.refl _ w).alloc (Nat.le_refl _) _).alloc (by simp) _⟩
theorem row27_4 (w : World) :
  Calls Try.prog 27 #[.int .i64 4] w fun e w' => e = .returned (.agg #[.int .i64 (-1), .int .i64 0, .int .i64 (-1), .int .i64 4, .int .i64 0, .int .i64 (-1), .int .i64 (-1), .int .i64 4, .int .i64 4]) ∧ Below w.heap.size w w' := by
  go_enter Try.func27, Try.ntmps27
  go_wp2_with fail
  refine (at36_4 (w.heap.size + 1) _ (heap_alloc2_new _ _ _)).mono ?_
  rintro e w1 ⟨rfl, hb⟩
  have hh : w1.heap[w.heap.size]? = some (.cells #[.int .i64 0, .int .i64 0, .int .i64 0, .int .i64 0, .int .i64 0, .int .i64 0, .int .i64 0, .int .i64 0, .int .i64 0] 51 (0, 0)) := (hb.block _ (by simp; omega)).trans (heap_alloc2_old _ _ _)
  replace hb := below_then (((Below.refl _ w).alloc (Nat.le_refl _) _).alloc (by simp) _) hb
  have d0 : ∀ j v, (#[.int .i64 0, .int .i64 0, .int .i64 0, .int .i64 0, .int .i64 0, .int .i64 0, .int .i64 0, .int .i64 0, .int .i64 0] : Array Value)[j]? = some v → w1.cell? ⟨w.heap.size, j, none⟩ = some v := fun j v hv => by rw [cell_of_row _ _ _ _ _ _ hh]; exact hv
  have e0 := d0 0 _ rfl
  have f0 := frozen_of_row w1 w.heap.size 0 _ 51 hh
  have e1 := d0 1 _ rfl
  have f1 := frozen_of_row w1 w.heap.size 1 _ 51 hh
  have e2 := d0 2 _ rfl
  have f2 := frozen_of_row w1 w.heap.size 2 _ 51 hh
  have e3 := d0 3 _ rfl
  have f3 := frozen_of_row w1 w.heap.size 3 _ 51 hh
  have e4 := d0 4 _ rfl
  have f4 := frozen_of_row w1 w.heap.size 4 _ 51 hh
  have e5 := d0 5 _ rfl
  have f5 := frozen_of_row w1 w.heap.size 5 _ 51 hh
  have e6 := d0 6 _ rfl
  have f6 := frozen_of_row w1 w.heap.size 6 _ 51 hh
  have e7 := d0 7 _ rfl
  have f7 := frozen_of_row w1 w.heap.size 7 _ 51 hh
  have e8 := d0 8 _ rfl
  have f8 := frozen_of_row w1 w.heap.size 8 _ 51 hh
  have H := Lib.hid hh
  clear hh d0
  go_wp2
  exact bodyPost_ret (v := .agg #[.int .i64 (-1), .int .i64 0, .int .i64 (-1), .int .i64 4, .int .i64 0, .int .i64 (-1), .int .i64 (-1), .int .i64 4, .int .i64 4]) (results_cell_row rfl _ _ w.heap.size 51 _ (0, 0) _ rfl (setcell_blk (setcell_blk (setcell_blk (setcell_blk (setcell_blk (setcell_blk (setcell_blk (setcell_blk (setcell_blk H.out _ rfl) _ rfl) _ rfl) _ rfl) _ rfl) _ rfl) _ rfl) _ rfl) _ rfl) Try.underlying51 rfl info51) rfl ⟨rfl, (((((((((hb.setCell (Nat.le_refl _) _).setCell (Nat.le_refl _) _).setCell (Nat.le_refl _) _).setCell (Nat.le_refl _) _).setCell (Nat.le_refl _) _).setCell (Nat.le_refl _) _).setCell (Nat.le_refl _) _).setCell (Nat.le_refl _) _).setCell (Nat.le_refl _) _)⟩
end Go.Proofs.Ytamkfalafnlomaa.F
