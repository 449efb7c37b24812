import Derived.Test.YtcgihilcjijckaaB6
set_option linter.unusedVariables false
set_option linter.unusedSimpArgs false
namespace Go.Proofs.Ytcgihilcjijckaa.F
open Go.RowKit Go.Proofs.Ytcgihilcjijckaa.K
variable (g : Nat) (w : World)
theorem len11 (v : Value) (n : Int) (l : List Tm) (h : QAt w g v n l) : Calls Try.prog 11 #[.pointer (some ⟨g, 0, none⟩)] w fun e w' => e = .returned (.int .i64 l.length) ∧ w = w' := by
  have c0 := h.c0
  obtain ⟨A, cap, rfl, k1, k2, -⟩ := h.form
  clear h
  go_enter Try.func11, Try.ntmps11
  go_wp2
  go_ret
  exact ⟨rfl, rfl⟩
theorem len11_nil : Calls Try.prog 11 #[.pointer none] w fun e w' => e = .returned (.int .i64 0) ∧ w = w' := by
  go_enter Try.func11, Try.ntmps11
  go_wp2
  go_ret
  exact ⟨rfl, rfl⟩
theorem next_none (v : Value) (n : Int) (h : QAt w g v n []) : Calls Try.prog 21 #[.pointer (some ⟨g, 0, none⟩)] w fun e w' => e = .returned (.tuple #[.int .i64 0, .int .i64 5]) ∧ w = w' := by
  have c0 := h.c0
  obtain ⟨A, cap, rfl, -, -, -⟩ := h.form
  simp only [List.length_nil] at c0
  go_enter Try.func21, Try.ntmps21
  go_wp2
  go_ret2
  exact ⟨rfl, rfl⟩
theorem next_some (v : Value) (n : Int) (t : Tm) (l : List Tm) (h : QAt w g v n (t :: l)) : Calls Try.prog 21 #[.pointer (some ⟨g, 0, none⟩)] w fun e w' => e = .returned (.tuple #[.int .i64 t.at_, .int .i64 0]) ∧ w = w' := by
  have c0 := h.c0
  obtain ⟨A, cap, rfl, k1, k2, -⟩ := h.form
  obtain ⟨b, rfl, hbg, d0, d1, d2⟩ := h.cell (k := 0) (by simp)
  simp only [List.getElem_cons_zero, Nat.zero_mul, Nat.zero_add] at d0 d1 d2
  have z : (((t :: l).length : Int) == 0) = false := beq_eq_false_iff_ne.2 (by simp only [List.length_cons]; omega)
  have z2 : (0 : Int) < ((t :: l).length : Int) := by simp only [List.length_cons]; omega
  generalize (t :: l).length = m at *
  go_enter Try.func21, Try.ntmps21
  go_wp2
  go_ret2
  exact ⟨rfl, rfl⟩
theorem new13 : Calls Try.prog 13 #[] w fun e w' => e = .returned (.pointer (some ⟨w.heap.size, 0, none⟩)) ∧ QAt w' w.heap.size (.slice none 0 0) 0 [] ∧ Below w.heap.size w w' := by
  go_enter Try.func13, Try.ntmps13
  go_wp2
  go_ret
  exact ⟨rfl, ⟨heap_alloc_new _ _, Row.nil _ _ _ _, by simp [Value.ownBlock]⟩, (Below.refl _ _).alloc (Nat.le_refl _) _⟩
end Go.Proofs.Ytcgihilcjijckaa.F
