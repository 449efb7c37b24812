import Derived.Test.YtamkfalafnlomaaE3
import Derived.Test.YtamkfalafnlomaaE4
set_option linter.unusedVariables false
set_option linter.unusedSimpArgs false
namespace Go.Proofs.Ytamkfalafnlomaa.F
open Go.RowKit Go.Proofs.Ytamkfalafnlomaa.K
theorem do34 (g : Nat) (T : Tk) (e N : Int) (w : World) (h : TkAt w 43 g T) (hT : T.ok N) (hN : N ≤ 1000000) :
  Calls Try.prog 34 #[.pointer (some ⟨g, 0, none⟩), .int .i64 e] w (Acts 43 g w (T.act e)) := by
  by_cases e5 : e = 5
  · subst e5
    have := prove_ref 0 (.inl rfl) g T N w h hT hN
    rwa [show T.prove 0 = T.act 5 from (if_pos (.inl rfl)).symm] at this
  by_cases e6 : e = 6
  · subst e6
    have := prove_ref 1 (.inr rfl) g T N w h hT hN
    rwa [show T.prove 1 = T.act 6 from (if_pos (.inr rfl)).symm] at this
  exact do34b g T e N w h hT hN e5 e6
theorem at15 (g : Nat) (T : Tk) (w : World) (h : TkAt w 59 g T) : Calls Try.prog 15 #[.pointer (some ⟨g, 0, none⟩)] w fun e w' => e = .returned (.int .i64 T.ph) ∧ w' = w := by
  have c0 := h.c0
  go_enter Try.func15, Try.ntmps15
  go_wp2
  go_ret
  exact ⟨rfl, rfl⟩
theorem proved25 (g : Nat) (T : Tk) (w : World) (h : TkAt w 59 g T) : Calls Try.prog 25 #[.pointer (some ⟨g, 0, none⟩)] w fun e w' => e = .returned (.tuple #[.bool T.ia, .bool T.ib]) ∧ ∃ n, w' = w.drewN n := by
  have c3 := h.c3
  have c4 := h.c4
  go_enter Try.func25, Try.ntmps25
  go_wp2
  go_quiet (fail)
  go_wp2
  go_ret2
  exact ⟨rfl, _, rfl⟩
theorem passes18 (g : Nat) (T : Tk) (n : Int) (w : World) (h : TkAt w 59 g T) : Calls Try.prog 18 #[.pointer (some ⟨g, 0, none⟩), .int .i64 n] w fun e w' => e = .returned (.bool (pass T.ph n)) ∧ w' = w := by
  have c0 := h.c0
  go_enter Try.func18, Try.ntmps18
  go_wp2_with (go_at_call 11; refine (pass11 T.ph n _).mono ?_; rintro e w1 ⟨rfl, rfl⟩)
  go_ret
  exact ⟨rfl, rfl⟩
def Tk.times (T : Tk) : Array Value := #[.int .i64 T.t0, .int .i64 T.t1, .int .i64 T.t2, .int .i64 T.t3, .int .i64 T.t4]
theorem info41 : (Try.prog.info? 41).map (·.size) = some 5 := by kernel_rfl
theorem times26 (g : Nat) (T : Tk) (w : World) (h : TkAt w 59 g T) : Calls Try.prog 26 #[.pointer (some ⟨g, 0, none⟩)] w fun e w' => e = .returned (.agg T.times) ∧ Below w.heap.size w w' := by
  have c5 := h.c5
  have c6 := h.c6
  have c7 := h.c7
  have c8 := h.c8
  have c9 := h.c9
  have hl := h.lt
  go_enter Try.func26, Try.ntmps26
  go_wp2
  exact bodyPost_ret (v := .agg T.times) (results_cell_row rfl _ _ w.heap.size 41 _ (0, 0) _ rfl (heap_alloc_new _ _) Try.underlying41 rfl info41) rfl ⟨rfl, (Below.refl _ w).alloc (Nat.le_refl _) _⟩
theorem new14 (w : World) : Calls Try.prog 14 #[] w fun e w' => e = .returned (.pointer (some ⟨w.heap.size, 0, none⟩)) ∧ w' = w.alloc (.cells (tk Tk.zero) 59) := by
  go_enter Try.func14, Try.ntmps14
  go_wp2
  go_ret
  exact ⟨rfl, rfl⟩
/-- what a track says -/
def Tk.lits (T : Tk) : List Lit := [.int .i64 T.ph, .bool T.ma, .bool T.mb, .bool T.ia, .bool T.ib, .int .i64 T.t0, .int .i64 T.t1, .int .i64 T.t2, .int .i64 T.t3, .int .i64 T.t4]
theorem lits_inj {T U : Tk} (h : T.lits = U.lits) : T = U := by
  obtain ⟨_, _, _, _, _, _, _, _, _, _⟩ := T
  obtain ⟨_, _, _, _, _, _, _, _, _, _⟩ := U
  simp [Tk.lits] at h
  obtain ⟨rfl, rfl, rfl, rfl, rfl, rfl, rfl, rfl, rfl, rfl⟩ := h
  rfl
theorem wf_of {n : Int} (h0 : 0 ≤ n) (h1 : n ≤ 1000000) : (Lit.int .i64 n).wf = true := by
  simp [Lit.wf, IntKind.min, IntKind.max, IntKind.signed, IntKind.bits]; omega
theorem keys41 (T : Tk) (N : Int) (h : T.ok N) (hN : N ≤ 1000000) : Try.prog.keyLits 3 41 T.times.toList = some [.int .i64 T.t0, .int .i64 T.t1, .int .i64 T.t2, .int .i64 T.t3, .int .i64 T.t4] := by
  obtain ⟨k0, k1, k2, k3, k4, k5, k6, k7, k8, k9, k10, k11⟩ := h
  have w0 := wf_of k2 (by omega)
  have w1 := wf_of k4 (by omega)
  have w2 := wf_of k6 (by omega)
  have w3 := wf_of k8 (by omega)
  have w4 := wf_of k10 (by omega)
  have e41 : Try.prog.cellsOf 41 = 5 := by kernel_rfl
  have e2 : Try.prog.cellsOf 2 = 1 := by kernel_rfl
  simp [Program.keyLits, Try.underlying41, Try.underlying2, e41, e2, Tk.times, w0, w1, w2, w3, w4, List.range_succ]
end Go.Proofs.Ytamkfalafnlomaa.F
