import Derived.Test.YtamkfalafnlomaaA1
import Derived.Deep.MidRow
set_option linter.unusedVariables false
set_option linter.unusedSimpArgs false
namespace Go.Proofs.Ytamkfalafnlomaa.F
open Go.RowKit Go.Proofs.Ytamkfalafnlomaa.K
/-- the table's entry; -1: it can not come -/
def ent (p e : Int) : Int :=
  if e = 0 then (if p = 0 then 1 else -1)
  else if e = 1 then 0
  else if e = 3 then (if p = 4 then 4 else if p = 0 then -1 else 1)
  else if e = 4 then (if p = 2 ∨ p = 3 then 4 else 0)
  else if e = 7 then (if 2 ≤ p then 4 else -1)
  else if e = 8 then (if p = 0 then 0 else 4)
  else -1
def inT (p e : Int) : Prop := 0 ≤ p ∧ p ≤ 4 ∧ 0 ≤ e ∧ e ≤ 8
instance (p e : Int) : Decidable (inT p e) := inferInstanceAs (Decidable (_ ∧ _))
def nx (p e : Int) : Int × Int := if inT p e then (if ent p e = -1 then (0, 290) else (ent p e, 0)) else (0, 1)
theorem five {p : Int} (h0 : 0 ≤ p) (h1 : p ≤ 4) : p = 0 ∨ p = 1 ∨ p = 2 ∨ p = 3 ∨ p = 4 := by omega
theorem nine {e : Int} (h0 : 0 ≤ e) (h1 : e ≤ 8) : e = 0 ∨ e = 1 ∨ e = 2 ∨ e = 3 ∨ e = 4 ∨ e = 5 ∨ e = 6 ∨ e = 7 ∨ e = 8 := by omega
theorem notIn {p e : Int} (h : ¬ inT p e) : p < 0 ∨ (0 ≤ p ∧ 4 < p) ∨ (0 ≤ p ∧ p ≤ 4 ∧ e < 0) ∨ (0 ≤ p ∧ p ≤ 4 ∧ 0 ≤ e ∧ 8 < e) := by unfold inT at h; omega
set_option maxHeartbeats 8000000 in
theorem next10 (p e : Int) (w : World) :
  Calls Try.prog 10 #[.int .i64 p, .int .i64 e] w fun E w' => E = .returned (.tuple #[.int .i64 (nx p e).1, .int .i64 (nx p e).2]) ∧ w' = w := by
  by_cases h : inT p e
  · obtain ⟨h0, h1, h2, h3⟩ := h
    rcases five h0 h1 with rfl | rfl | rfl | rfl | rfl <;> rcases nine h2 h3 with rfl | rfl | rfl | rfl | rfl | rfl | rfl | rfl | rfl
    all_goals
      clear h0 h1 h2 h3
      go_enter Try.func10, Try.ntmps10
      go_wp2
      go_ret2
      exact ⟨rfl, rfl⟩
  · have e : nx p e = (0, 1) := if_neg h
    rw [e]
    have H := notIn h
    clear e h
    rcases H with h | ⟨h, h'⟩ | ⟨h, h', h''⟩ | ⟨h, h', h'', h3⟩
    all_goals
      go_enter Try.func10, Try.ntmps10
      go_wp2
      go_ret2
      exact ⟨rfl, rfl⟩
end Go.Proofs.Ytamkfalafnlomaa.F
