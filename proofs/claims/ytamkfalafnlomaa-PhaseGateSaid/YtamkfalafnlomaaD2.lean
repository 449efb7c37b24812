import Derived.Test.YtamkfalafnlomaaB1
set_option linter.unusedVariables false
set_option linter.unusedSimpArgs false
namespace Go.Proofs.Ytamkfalafnlomaa.F
open Go.RowKit Go.Proofs.Ytamkfalafnlomaa.K
/-- events' names -/
def nameE (p : Int) : ByteArray :=
  if p = 0 then ⟨#[85, 112]⟩ else if p = 1 then ⟨#[68, 111, 119, 110]⟩ else if p = 2 then ⟨#[79, 112, 101, 110, 101, 100]⟩ else if p = 3 then ⟨#[82, 101, 110, 101, 103]⟩ else if p = 4 then ⟨#[70, 105, 110, 105, 115, 104, 101, 100]⟩ else if p = 5 then ⟨#[84, 104, 101, 105, 114, 115]⟩ else if p = 6 then ⟨#[77, 105, 110, 101]⟩ else if p = 7 then ⟨#[66, 97, 100]⟩ else if p = 8 then ⟨#[67, 108, 111, 115, 101]⟩ else ⟨#[]⟩
theorem out9 (p : Int) (h : ¬ (0 ≤ p ∧ p ≤ 8)) : nameE p = ⟨#[]⟩ := by
  unfold nameE
  rw [if_neg (by omega), if_neg (by omega), if_neg (by omega), if_neg (by omega), if_neg (by omega), if_neg (by omega), if_neg (by omega), if_neg (by omega), if_neg (by omega)]
set_option maxHeartbeats 8000000 in
theorem event22 (p : Int) (w : World) : Calls Try.prog 22 #[.int .i64 p] w fun e w' => e = .returned (.string (nameE p)) ∧ Below w.heap.size w w' := by
  by_cases h : 0 ≤ p ∧ p ≤ 8
  · rcases nine h.1 h.2 with rfl | rfl | rfl | rfl | rfl | rfl | rfl | rfl | rfl
    all_goals
      clear h
      go_enter Try.func22, Try.ntmps22
      go_wp2
      go_ret
      exact ⟨rfl, (Below.refl _ w).alloc (Nat.le_refl _) _⟩
  · rw [out9 p h]
    have H : p < 0 ∨ (0 ≤ p ∧ 8 < p) := by omega
    clear h
    rcases H with h | ⟨h, h'⟩
    all_goals
      go_enter Try.func22, Try.ntmps22
      go_wp2
      go_ret
      exact ⟨rfl, Below.refl _ _⟩
set_option maxHeartbeats 8000000 in
theorem event21 (p : Int) (w : World) : Calls Try.prog 21 #[.int .i64 p] w fun e w' => e = .returned (.string (nameE p)) ∧ Below w.heap.size w w' := by
  by_cases h : 0 ≤ p ∧ p ≤ 8
  · rcases nine h.1 h.2 with rfl | rfl | rfl | rfl | rfl | rfl | rfl | rfl | rfl
    all_goals
      clear h
      go_enter Try.func21, Try.ntmps21
      go_wp2
      go_ret
      exact ⟨rfl, (Below.refl _ w).alloc (Nat.le_refl _) _⟩
  · rw [out9 p h]
    have H : p < 0 ∨ (0 ≤ p ∧ 9 ≤ p) := by omega
    clear h
    rcases H with h | ⟨h, h'⟩
    all_goals
      go_enter Try.func21, Try.ntmps21
      go_wp2
      go_ret
      exact ⟨rfl, (Below.refl _ w).alloc (Nat.le_refl _) _⟩
end Go.Proofs.Ytamkfalafnlomaa.F
