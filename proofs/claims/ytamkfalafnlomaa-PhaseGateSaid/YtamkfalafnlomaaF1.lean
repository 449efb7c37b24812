import Derived.Test.YtamkfalafnlomaaE8
set_option linter.unusedVariables false
set_option linter.unusedSimpArgs false
namespace Go.Proofs.Ytamkfalafnlomaa.F
open Go.RowKit Go.Proofs.Ytamkfalafnlomaa.K
theorem proved_nil (w : World) : Calls Try.prog 25 #[.pointer none] w fun e w' => e = .returned (.tuple #[.bool false, .bool false]) ∧ w' = w := by
  go_enter Try.func25, Try.ntmps25
  go_wp2
  go_ret2
  exact ⟨rfl, rfl⟩
theorem do_nil (e : Int) (w : World) : Calls Try.prog 16 #[.pointer none, .int .i64 e] w fun e w' => e = .returned (.int .i64 2) ∧ w' = w := by
  go_enter Try.func16, Try.ntmps16
  go_wp2
  go_ret
  exact ⟨rfl, rfl⟩
theorem open_nil (a b : Bool) (w : World) : Calls Try.prog 17 #[.pointer none, .bool a, .bool b] w fun e w' => e = .returned (.int .i64 2) ∧ w' = w := by
  go_enter Try.func17, Try.ntmps17
  go_wp2
  go_ret
  exact ⟨rfl, rfl⟩
theorem at_nil (w : World) : Calls Try.prog 15 #[.pointer none] w fun e w' => e = .returned (.int .i64 0) ∧ w' = w := by
  go_enter Try.func15, Try.ntmps15
  go_wp2
  go_ret
  exact ⟨rfl, rfl⟩
theorem passes_nil (n : Int) (w : World) : Calls Try.prog 18 #[.pointer none, .int .i64 n] w fun e w' => e = .returned (.bool false) ∧ w' = w := by
  go_enter Try.func18, Try.ntmps18
  go_wp2
  go_ret
  exact ⟨rfl, rfl⟩
theorem times_nil (w : World) : Calls Try.prog 26 #[.pointer none] w fun e w' => e = .returned (.agg #[.int .i64 0, .int .i64 0, .int .i64 0, .int .i64 0, .int .i64 0]) ∧ Below w.heap.size w w' := by
  go_enter Try.func26, Try.ntmps26
  go_wp2
  exact bodyPost_ret (v := .agg #[.int .i64 0, .int .i64 0, .int .i64 0, .int .i64 0, .int .i64 0]) (results_cell_row rfl _ _ w.heap.size 41 _ (0, 0) _ rfl (heap_alloc_new _ _) Try.underlying41 rfl info41) rfl ⟨rfl, (Below.refl _ w).alloc (Nat.le_refl _) _⟩
theorem same_nil (p : Option Addr) (w : World) : Calls Try.prog 24 #[.pointer none, .pointer p] w fun e w' => e = .returned (.bool false) ∧ ∃ n, w' = w.drewN n := by
  go_enter Try.func24, Try.ntmps24
  go_wp2
  go_quiet (fail)
  go_wp2
  go_ret
  exact ⟨rfl, _, rfl⟩
theorem below_drewN {B : Nat} {w0 w : World} (h : Below B w0 w) (n : Nat) : Below B w0 (w.drewN n) := ⟨h.os, h.tape, h.output, h.size, h.block⟩
theorem law_nil (ev n : Int) (a b : Bool) (w : World) : Calls Try.prog 8 #[.int .i64 ev, .int .i64 n, .bool a, .bool b] w fun E w' => E = .returned (.bool true) ∧ Below w.heap.size w w' := by
  have he := fun w => eq41 Tk.zero Tk.zero 10 (by unfold Tk.ok Tk.zero; decide) (by unfold Tk.ok Tk.zero; decide) (by decide) w
  rw [sameT_refl] at he
  simp only [Tk.times, Tk.zero] at he
  go_enter Try.func8, Try.ntmps8
  go_wp2_with fail
  refine (proved_nil _).mono ?_
  rintro E w1 ⟨rfl, rfl⟩
  go_wp2_with fail
  refine (do_nil _ _).mono ?_
  rintro E w1 ⟨rfl, rfl⟩
  go_wp2_with fail
  refine (open_nil _ _ _).mono ?_
  rintro E w1 ⟨rfl, rfl⟩
  go_wp2_with fail
  refine (at_nil _).mono ?_
  rintro E w1 ⟨rfl, rfl⟩
  go_wp2_with fail
  refine (passes_nil _ _).mono ?_
  rintro E w1 ⟨rfl, rfl⟩
  go_wp2_with fail
  refine (times_nil _).mono ?_
  rintro E w1 ⟨rfl, B⟩
  go_wp2_with fail
  refine (same_nil _ _).mono ?_
  rintro E w1 ⟨rfl, m, rfl⟩
  replace B := below_drewN B m
  go_wp2_with fail
  refine (new14 _).mono ?_
  rintro E w1 ⟨rfl, rfl⟩
  replace B := B.alloc B.size (.cells (tk Tk.zero) 59)
  go_wp2_with fail
  refine (same_nil _ _).mono ?_
  rintro E w1 ⟨rfl, m', rfl⟩
  replace B := below_drewN B m'
  go_wp2_with fail
  refine (awake _).mono ?_
  rintro E w1 ⟨rfl, b⟩
  replace B := below_then B b
  clear b
  go_wp2
  go_ret
  exact ⟨rfl, B⟩
theorem row_nil (ev n : Int) (a b : Bool) (w : World) (h : (Lit.int .i64 ev).wf = true) (h' : (Lit.int .i64 n).wf = true) : Calls Try.prog 8 #[.int .i64 ev, .int .i64 n, .bool a, .bool b] w fun E w' => E = .returned (.bool true) ∧ Below w.heap.size w w' := law_nil ev n a b w
theorem row_table (p e n : Int) (w : World) (h : (Lit.int .i64 p).wf = true) (h' : (Lit.int .i64 e).wf = true) (h'' : (Lit.int .i64 n).wf = true) : Calls Try.prog 5 #[.int .i64 p, .int .i64 e, .int .i64 n] w fun E w' => E = .returned (.bool true) ∧ Below w.heap.size w w' := law_table p e n w
end Go.Proofs.Ytamkfalafnlomaa.F
