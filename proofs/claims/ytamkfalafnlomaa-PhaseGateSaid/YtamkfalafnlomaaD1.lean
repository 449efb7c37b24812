import Derived.Test.YtamkfalafnlomaaB1
set_option linter.unusedVariables false
set_option linter.unusedSimpArgs false
namespace Go.Proofs.Ytamkfalafnlomaa.F
open Go.RowKit Go.Proofs.Ytamkfalafnlomaa.K
/-- names -/
def nameP (p : Int) : ByteArray :=
  if p = 0 then ⟨#[68, 101, 97, 100]⟩ else if p = 1 then ⟨#[69, 115, 116, 97, 98, 108, 105, 115, 104]⟩ else if p = 2 then ⟨#[65, 117, 116, 104, 101, 110, 116, 105, 99, 97, 116, 101]⟩
  else if p = 3 then ⟨#[78, 101, 116, 119, 111, 114, 107]⟩ else if p = 4 then ⟨#[84, 101, 114, 109, 105, 110, 97, 116, 101]⟩ else ⟨#[]⟩
theorem out5 (p : Int) (h : ¬ (0 ≤ p ∧ p ≤ 4)) : nameP p = ⟨#[]⟩ := by
  unfold nameP
  rw [if_neg (by omega), if_neg (by omega), if_neg (by omega), if_neg (by omega), if_neg (by omega)]
theorem name20 (p : Int) (w : World) : Calls Try.prog 20 #[.int .i64 p] w fun e w' => e = .returned (.string (nameP p)) ∧ Below w.heap.size w w' := by
  by_cases h : 0 ≤ p ∧ p ≤ 4
  · rcases five h.1 h.2 with rfl | rfl | rfl | rfl | rfl
    all_goals
      clear h
      go_enter Try.func20, Try.ntmps20
      go_wp2
      go_ret
      exact ⟨rfl, (Below.refl _ w).alloc (Nat.le_refl _) _⟩
  · rw [out5 p h]
    have H : p < 0 ∨ (0 ≤ p ∧ 4 < p) := by omega
    clear h
    rcases H with h | ⟨h, h'⟩
    all_goals
      go_enter Try.func20, Try.ntmps20
      go_wp2
      go_ret
      exact ⟨rfl, Below.refl _ _⟩
theorem name19 (p : Int) (w : World) : Calls Try.prog 19 #[.int .i64 p] w fun e w' => e = .returned (.string (nameP p)) ∧ Below w.heap.size w w' := by
  by_cases h : 0 ≤ p ∧ p ≤ 4
  · rcases five h.1 h.2 with rfl | rfl | rfl | rfl | rfl
    all_goals
      clear h
      go_enter Try.func19, Try.ntmps19
      go_wp2
      go_ret
      exact ⟨rfl, (Below.refl _ w).alloc (Nat.le_refl _) _⟩
  · rw [out5 p h]
    have H : p < 0 ∨ (0 ≤ p ∧ 5 ≤ p) := by omega
    clear h
    rcases H with h | ⟨h, h'⟩
    all_goals
      go_enter Try.func19, Try.ntmps19
      go_wp2
      go_ret
      exact ⟨rfl, (Below.refl _ w).alloc (Nat.le_refl _) _⟩
end Go.Proofs.Ytamkfalafnlomaa.F
