import Derived.Test.YtcgihilcjijckaaB2
set_option linter.unusedVariables false
set_option linter.unusedSimpArgs false
namespace Go.Proofs.Ytcgihilcjijckaa.F
open Go.RowKit Go.Proofs.Ytcgihilcjijckaa.K
variable (g : Nat) (w : World)
theorem pop_none (v : Value) (n now : Int) (h : QAt w g v n []) : Calls Try.prog 10 #[.pointer (some ⟨g, 0, none⟩), .int .i64 now] w fun e w' => e = .returned (.tuple #[.int .i64 0, .int .i64 5]) ∧ w = w' := by
  have c0 := h.c0
  obtain ⟨A, cap, rfl, -, -, -⟩ := h.form
  simp only [List.length_nil] at c0
  go_enter Try.func10, Try.ntmps10
  go_wp2
  go_ret2
  exact ⟨rfl, rfl⟩
theorem pop_late (v : Value) (n now : Int) (t : Tm) (l : List Tm) (h : QAt w g v n (t :: l)) (ht : now < t.at_) : Calls Try.prog 10 #[.pointer (some ⟨g, 0, none⟩), .int .i64 now] w fun e w' => e = .returned (.tuple #[.int .i64 0, .int .i64 5]) ∧ w = w' := by
  have c0 := h.c0
  obtain ⟨A, cap, rfl, k1, k2, -⟩ := h.form
  obtain ⟨b, rfl, hbg, d0, d1, d2⟩ := h.cell (k := 0) (by simp)
  simp only [List.getElem_cons_zero, Nat.zero_mul, Nat.zero_add] at d0 d1 d2
  have z : (((t :: l).length : Int) == 0) = false := beq_eq_false_iff_ne.2 (by simp only [List.length_cons]; omega)
  have z2 : (0 : Int) < ((t :: l).length : Int) := by simp only [List.length_cons]; omega
  generalize (t :: l).length = m at *
  go_enter Try.func10, Try.ntmps10
  go_wp2
  go_ret2
  exact ⟨rfl, rfl⟩
theorem pop_yes (v : Value) (n now : Int) (t : Tm) (l : List Tm) (hl : (t :: l).length ≤ 64) (h : QAt w g v n (t :: l)) (ht : t.at_ ≤ now) : Calls Try.prog 10 #[.pointer (some ⟨g, 0, none⟩), .int .i64 now] w fun e w' => e = .returned (.tuple #[.int .i64 t.id, .int .i64 0]) ∧ QR g v n l w w' := by
  have D := Lib.hid (drop28 g w v n (t :: l) 0 (by simp) hl h)
  have c0 := h.c0
  obtain ⟨A, cap, rfl, k1, k2, -⟩ := h.form
  obtain ⟨b, rfl, hbg, d0, d1, d2⟩ := h.cell (k := 0) (by simp)
  simp only [List.getElem_cons_zero, Nat.zero_mul, Nat.zero_add] at d0 d1 d2
  have z : (((t :: l).length : Int) == 0) = false := beq_eq_false_iff_ne.2 (by simp only [List.length_cons]; omega)
  have z2 : (0 : Int) < ((t :: l).length : Int) := by simp only [List.length_cons]; omega
  clear h
  generalize (t :: l).length = m at *
  go_enter Try.func10, Try.ntmps10
  go_wp2_with fail
  refine D.out.mono ?_
  rintro e w1 ⟨rfl, hq⟩
  go_wp2
  go_ret2
  exact ⟨rfl, hq⟩
end Go.Proofs.Ytcgihilcjijckaa.F
