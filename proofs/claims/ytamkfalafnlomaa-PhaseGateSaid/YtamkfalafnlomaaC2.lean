import Derived.Test.YtamkfalafnlomaaC1
set_option linter.unusedVariables false
set_option linter.unusedSimpArgs false
namespace Go.Proofs.Ytamkfalafnlomaa.F
open Go.RowKit Go.Proofs.Ytamkfalafnlomaa.K
attribute [local go_sem high] and1_int
theorem pass_no (p : Int) {n : Int} (h : proto n = false) : pass p n = false := by simp [pass, h]
set_option maxHeartbeats 2000000 in
theorem pass11 (p n : Int) (w : World) : Calls Try.prog 11 #[.int .i64 p, .int .i64 n] w fun e w' => e = .returned (.bool (pass p n)) ∧ w' = w := by
  by_cases h1 : 1 ≤ n
  · by_cases h2 : n ≤ 65535
    · have i0 : 0 ≤ n := by omega
      have i1 : n < 9223372036854775808 := by omega
      have i2 : 0 ≤ n / 256 := by omega
      have i3 : n / 256 < 9223372036854775808 := by omega
      cases hp : proto n
      · have hq : n % 2 = 0 ∨ (n % 2 = 1 ∧ n / 256 % 2 = 1) := by
          simp [proto, h1, h2] at hp
          omega
        rcases hq with e | ⟨e, e'⟩
        all_goals
          go_enter Try.func11, Try.ntmps11
          go_wp2
          go_ret
          exact ⟨by rw [pass_no _ hp]; rfl, rfl⟩
      · have hq : n % 2 = 1 ∧ n / 256 % 2 = 0 := by
          simp [proto, h1, h2] at hp
          exact hp
        obtain ⟨e, e'⟩ := hq
        rcases cases_p p with rfl | rfl | rfl | rfl | ⟨e1, e2, e3, e4⟩
        all_goals
          go_enter Try.func11, Try.ntmps11
          go_wp2
          all_goals
            go_ret
            refine ⟨boolRet ?_, rfl⟩
            first | (simp [pass, hp, e1, e2, e3, e4]; done) | (simp [pass, hp]; done) | (simp [pass, hp]; omega)
    · have hp : proto n = false := by simp [proto]; omega
      go_enter Try.func11, Try.ntmps11
      go_wp2
      go_ret
      exact ⟨by rw [pass_no _ hp]; rfl, rfl⟩
  · have hp : proto n = false := by simp [proto]; omega
    go_enter Try.func11, Try.ntmps11
    go_wp2
    go_ret
    exact ⟨by rw [pass_no _ hp]; rfl, rfl⟩
end Go.Proofs.Ytamkfalafnlomaa.F
