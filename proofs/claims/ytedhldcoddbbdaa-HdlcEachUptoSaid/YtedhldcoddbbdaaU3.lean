import Derived.Test.YtedhldcoddbbdaaU2
set_option linter.unusedVariables false
set_option linter.unusedSimpArgs false
set_option linter.unnecessarySimpa false
namespace Go.Proofs.Ytedhldcoddbbdaa.F
open Go.RowKit Go.Proofs.Ytedhldcoddbbdaa.K
def mapB (a : Int) : Bool := decide (0 ≤ a) && decide (a ≤ 4294967295)
theorem right37 (a : Int) (w : World) : Calls Try.prog 37 #[.int .i64 a] w fun e w' => e = .returned (.bool (mapB a)) ∧ w = w' := by
  unfold mapB
  by_cases h : 0 ≤ a
  · have h1 : decide (0 ≤ a) = true := by simpa using h
    rw [h1]
    go_enter Try.func37, Try.ntmps37
    go_wp2
    go_ret
    exact ⟨by simp, rfl⟩
  · have h1 : decide (0 ≤ a) = false := by simpa using h
    rw [h1]
    go_enter Try.func37, Try.ntmps37
    go_wp2
    go_ret
    exact ⟨by simp, rfl⟩
theorem and1 (n : Int) (h0 : 0 ≤ n) (h1 : n ≤ 9223372036854775807) : bits .and .i64 n 1 = n % 2 := by
  have h := bits_mask .i64 63 (by decide) (fun n h0 h1 => by simp [IntKind.wrap, IntKind.bits, IntKind.signed]; omega) 1 (by omega) n (by omega) (by omega)
  rw [show ((2 : Int) ^ 1 - 1) = 1 from rfl, show ((2 : Int) ^ 1) = 2 from rfl] at h
  exact h
def protoB (n : Int) : Bool := decide (1 ≤ n) && (decide (n ≤ 65535) && (decide (n % 2 = 1) && decide (n / 256 % 2 = 0)))
theorem proto36 (n : Int) (w : World) : Calls Try.prog 36 #[.int .i64 n] w fun e w' => e = .returned (.bool (protoB n)) ∧ w = w' := by
  by_cases h : 1 ≤ n
  · by_cases h2 : n ≤ 65535
    · have a1 := and1 n (by omega) (by omega)
      have a2 := and1 (n / 256) (by omega) (by omega)
      have hb : protoB n = (decide (n % 2 = 1) && decide (n / 256 % 2 = 0)) := by simp [protoB, h, h2]
      rw [hb]
      by_cases h3 : n % 2 = 1
      · have z1 : (n % 2 == 1) = true := by simpa using h3
        by_cases h4 : n / 256 % 2 = 0
        · have z2 : (n / 256 % 2 == 0) = true := by simpa using h4
          have hc : (decide (n % 2 = 1) && decide (n / 256 % 2 = 0)) = true := by simp [h3, h4]
          rw [hc]
          clear hb hc
          go_enter Try.func36, Try.ntmps36
          go_wp2
          go_ret
          exact ⟨rfl, rfl⟩
        · have z2 : (n / 256 % 2 == 0) = false := by simpa using h4
          have hc : (decide (n % 2 = 1) && decide (n / 256 % 2 = 0)) = false := by simp [h4]
          rw [hc]
          clear hb hc
          go_enter Try.func36, Try.ntmps36
          go_wp2
          go_ret
          exact ⟨rfl, rfl⟩
      · have z1 : (n % 2 == 1) = false := by simpa using h3
        have hc : (decide (n % 2 = 1) && decide (n / 256 % 2 = 0)) = false := by simp [h3]
        rw [hc]
        clear hb hc
        go_enter Try.func36, Try.ntmps36
        go_wp2
        go_ret
        exact ⟨rfl, rfl⟩
    · have hb : protoB n = false := by simp [protoB]; omega
      rw [hb]
      clear hb
      go_enter Try.func36, Try.ntmps36
      go_wp2
      go_ret
      exact ⟨rfl, rfl⟩
  · have hb : protoB n = false := by simp [protoB]; omega
    rw [hb]
    clear hb
    go_enter Try.func36, Try.ntmps36
    go_wp2
    go_ret
    exact ⟨rfl, rfl⟩
end Go.Proofs.Ytedhldcoddbbdaa.F
