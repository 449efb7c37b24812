import Derived.Test.YtamkfalafnlomaaB1
set_option linter.unusedVariables false
set_option linter.unusedSimpArgs false
namespace Go.Proofs.Ytamkfalafnlomaa.F
open Go.RowKit Go.Proofs.Ytamkfalafnlomaa.K
/-- a protocol's number -/
def proto (n : Int) : Bool := decide (1 ≤ n) && decide (n ≤ 65535) && decide (n % 2 = 1) && decide (n / 256 % 2 = 0)
/-- may it pass -/
def pass (p n : Int) : Bool := proto n &&
  (if p = 1 ∨ p = 4 then decide (n = 49185)
   else if p = 2 then decide (n = 49185) || (decide (n = 49187) || decide (n = 49699) || decide (n = 49703))
   else if p = 3 then decide (n = 49185) || (decide (n = 49187) || decide (n = 49699) || decide (n = 49703)) || decide (n < 49152)
   else false)
theorem and1_int (n : Int) (h0 : 0 ≤ n) (h1 : n < 9223372036854775808) : bits .and .i64 n 1 = n % 2 := by
  obtain ⟨k, rfl⟩ := Int.eq_ofNat_of_zero_le h0
  show IntKind.i64.wrap ((BitVec.ofInt 64 (k : Int) &&& BitVec.ofInt 64 1).toNat : Int) = _
  rw [show (BitVec.ofInt 64 (k : Int) &&& BitVec.ofInt 64 1).toNat = k % 2 by
    rw [BitVec.toNat_and, show (BitVec.ofInt 64 1).toNat = 1 from by decide, Nat.and_one_is_mod]
    simp only [BitVec.ofInt_natCast, BitVec.toNat_ofNat]
    omega]
  have : k % 2 = 0 ∨ k % 2 = 1 := by omega
  rcases this with h | h
  · rw [h]; show (0 : Int) = _; omega
  · rw [h]; show (1 : Int) = _; omega
theorem boolRet {a b : Bool} (h : a = true ↔ b = true) : Ending.returned (.bool a) = Ending.returned (.bool b) := by rw [Bool.eq_iff_iff.2 h]
theorem proto29 (n : Int) (w : World) : Calls Try.prog 29 #[.int .i64 n] w fun e w' => e = .returned (.bool (proto n)) ∧ w' = w := by
  go_enter Try.func29, Try.ntmps29
  go_wp2
  all_goals
    go_ret
    refine ⟨boolRet ?_, rfl⟩
    simp [proto]
    try omega
theorem cases_p (p : Int) : p = 1 ∨ p = 2 ∨ p = 3 ∨ p = 4 ∨ (p ≠ 1 ∧ p ≠ 2 ∧ p ≠ 3 ∧ p ≠ 4) := by omega
theorem pass12 (p n : Int) (w : World) : Calls Try.prog 12 #[.int .i64 p, .int .i64 n] w fun e w' => e = .returned (.bool (pass p n)) ∧ w' = w := by
  cases hp : proto n
  · go_enter Try.func12, Try.ntmps12
    go_wp2_with (go_at_call 29; refine (proto29 n _).mono ?_; rintro e w1 ⟨rfl, rfl⟩)
    go_ret
    exact ⟨by simp [pass, hp], rfl⟩
  · rcases cases_p p with rfl | rfl | rfl | rfl | ⟨e1, e2, e3, e4⟩
    all_goals
      go_enter Try.func12, Try.ntmps12
      go_wp2_with (go_at_call 29; refine (proto29 n _).mono ?_; rintro e w1 ⟨rfl, rfl⟩)
      all_goals
        go_ret
        refine ⟨boolRet ?_, rfl⟩
        first | (simp [pass, hp, e1, e2, e3, e4]; done) | (simp [pass, hp]; done) | (simp [pass, hp]; omega)
end Go.Proofs.Ytamkfalafnlomaa.F
