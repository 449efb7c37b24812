import Derived.Test.YtamkfalafnlomaaE5
import Derived.Deep.RegionWith
set_option linter.unusedVariables false
set_option linter.unusedSimpArgs false
namespace Go.Proofs.Ytamkfalafnlomaa.F
open Go.RowKit Go.Proofs.Ytamkfalafnlomaa.K
theorem keys59 (T : Tk) (N : Int) (h : T.ok N) (hN : N ≤ 1000000) : Try.prog.keyLits 4 59 (tk T).toList = some T.lits := by
  have k41 := keys41 T N h hN
  have w0 : (Lit.int .i64 T.ph).wf = true := wf_of h.1 (by have := h.2.1; omega)
  have a59 : Try.prog.cellsOf 59 = 10 := by kernel_rfl
  have a57 : Try.prog.cellsOf 57 = 4 := by kernel_rfl
  have a55 : Try.prog.cellsOf 55 = 2 := by kernel_rfl
  have a41 : Try.prog.cellsOf 41 = 5 := by kernel_rfl
  have a3 : Try.prog.cellsOf 3 = 1 := by kernel_rfl
  have a4 : Try.prog.cellsOf 4 = 1 := by kernel_rfl
  have e57 : Try.prog.keyLits 3 57 [.bool T.ma, .bool T.mb, .bool T.ia, .bool T.ib] = some [.bool T.ma, .bool T.mb, .bool T.ia, .bool T.ib] := by kernel_rfl
  have e3 : Try.prog.keyLits 3 3 [.int .i64 T.ph] = some [.int .i64 T.ph] := by simp [Program.keyLits, Try.underlying3, w0]
  simp only [Tk.times] at k41
  rw [Program.keyLits.eq_def]
  simp [Try.underlying59, a59, a57, a41, a3, tk, e57, e3, k41, Tk.lits]
theorem keys43 (T : Tk) (N : Int) (h : T.ok N) (hN : N ≤ 1000000) : Try.prog.keyLits 4 43 (tk T).toList = some T.lits := by
  have k41 := keys41 T N h hN
  have w0 : (Lit.int .i64 T.ph).wf = true := wf_of h.1 (by have := h.2.1; omega)
  have a43 : Try.prog.cellsOf 43 = 10 := by kernel_rfl
  have a41 : Try.prog.cellsOf 41 = 5 := by kernel_rfl
  have a3 : Try.prog.cellsOf 3 = 1 := by kernel_rfl
  have a4 : Try.prog.cellsOf 4 = 1 := by kernel_rfl
  have e4 : ∀ b, Try.prog.keyLits 3 4 [.bool b] = some [.bool b] := fun b => by kernel_rfl
  have e3 : Try.prog.keyLits 3 3 [.int .i64 T.ph] = some [.int .i64 T.ph] := by simp [Program.keyLits, Try.underlying3, w0]
  simp only [Tk.times] at k41
  rw [Program.keyLits.eq_def]
  simp [Try.underlying43, a43, a4, a41, a3, tk, e4, e3, k41, Tk.lits]
def Tk.sameT (T U : Tk) : Bool := T.t0 == U.t0 && (T.t1 == U.t1 && (T.t2 == U.t2 && (T.t3 == U.t3 && T.t4 == U.t4)))
def Tk.same (T U : Tk) : Bool := T.ph == U.ph && (T.ma == U.ma && (T.mb == U.mb && (T.ia == U.ia && (T.ib == U.ib && T.sameT U))))
theorem same_iff (T U : Tk) : T.same U = true ↔ T.lits = U.lits := by simp [Tk.same, Tk.sameT, Tk.lits]
theorem same_refl (T : Tk) : T.same T = true := (same_iff T T).2 rfl
theorem sameT_refl (T : Tk) : T.sameT T = true := by simp [Tk.sameT]
theorem same_comm (T U : Tk) : T.same U = U.same T := by rw [Bool.eq_iff_iff, same_iff, same_iff]; exact ⟨Eq.symm, Eq.symm⟩
theorem eq59 (T U : Tk) (N : Int) (hT : T.ok N) (hU : U.ok N) (hN : N ≤ 1000000) (w : World) : (Op.equalIn 10000 59 (.agg (tk T)) (.agg (tk U))).run Try.prog w = .ok (T.same U) w :=
  eq_deep w (m := 4) (by decide) (by kernel_rfl) (D := 4) (D' := 4) (L1 := T.lits) (L2 := U.lits) (by kernel_rfl) (by kernel_rfl) (keys59 T N hT hN) (keys59 U N hU hN) (same_iff T U)
theorem eq43 (T U : Tk) (N : Int) (hT : T.ok N) (hU : U.ok N) (hN : N ≤ 1000000) (w : World) : (Op.equalIn 10000 43 (.agg (tk T)) (.agg (tk U))).run Try.prog w = .ok (T.same U) w :=
  eq_deep w (m := 4) (by decide) (by kernel_rfl) (D := 4) (D' := 4) (L1 := T.lits) (L2 := U.lits) (by kernel_rfl) (by kernel_rfl) (keys43 T N hT hN) (keys43 U N hU hN) (same_iff T U)
theorem eq41 (T U : Tk) (N : Int) (hT : T.ok N) (hU : U.ok N) (hN : N ≤ 1000000) (w : World) : (Op.equalIn 10000 41 (.agg T.times) (.agg U.times)).run Try.prog w = .ok (T.sameT U) w :=
  eq_deep w (m := 2) (by decide) (by kernel_rfl) (D := 3) (D' := 3) (by kernel_rfl) (by kernel_rfl) (keys41 T N hT hN) (keys41 U N hU hN) (by simp [Tk.sameT])
theorem same24 (g u : Nat) (T U : Tk) (N : Int) (w : World) (h : TkAt w 59 g T) (hu : TkAt w 59 u U) (hT : T.ok N) (hU : U.ok N) (hN : N ≤ 1000000) :
  Calls Try.prog 24 #[.pointer (some ⟨g, 0, none⟩), .pointer (some ⟨u, 0, none⟩)] w fun e w' => e = .returned (.bool (T.same U)) ∧ ∃ n, w' = w.drewN n := by
  have c0 := h.c0
  have c1 := h.c1
  have c2 := h.c2
  have c3 := h.c3
  have c4 := h.c4
  have c5 := h.c5
  have c6 := h.c6
  have c7 := h.c7
  have c8 := h.c8
  have c9 := h.c9
  have d0 := hu.c0
  have d1 := hu.c1
  have d2 := hu.c2
  have d3 := hu.c3
  have d4 := hu.c4
  have d5 := hu.c5
  have d6 := hu.c6
  have d7 := hu.c7
  have d8 := hu.c8
  have d9 := hu.c9
  have he := fun w => eq59 T U N hT hU hN w
  simp only [tk] at he
  clear h hu hT hU
  go_enter Try.func24, Try.ntmps24
  go_wp2
  go_quiet (fail)
  go_wp2
  go_ret
  exact ⟨rfl, _, rfl⟩
end Go.Proofs.Ytamkfalafnlomaa.F
