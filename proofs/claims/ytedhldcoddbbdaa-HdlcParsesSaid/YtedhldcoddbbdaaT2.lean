import Derived.Test.YtedhldcoddbbdaaU3
set_option linter.unusedVariables false
set_option linter.unusedSimpArgs false
set_option linter.unnecessarySimpa false
namespace Go.Proofs.Ytedhldcoddbbdaa.F
open Go.RowKit Go.Proofs.Ytedhldcoddbbdaa.K
theorem proto39 (n : Int) (w : World) : Calls Try.prog 39 #[.int .i64 n] w fun e w' => e = .returned (.bool (protoB n)) ∧ w = w' := by
  by_cases h : 1 ≤ n
  · by_cases h2 : n ≤ 65535
    · have a1 : n.tmod 2 = n % 2 := Int.tmod_eq_emod_of_nonneg (by omega)
      have a2 : n.tdiv 256 = n / 256 := Int.tdiv_eq_ediv_of_nonneg (by omega)
      have a3 : (n / 256).tmod 2 = n / 256 % 2 := Int.tmod_eq_emod_of_nonneg (by omega)
      have a4 : IntKind.i64.wrap (n / 256) = n / 256 := IntWalk.i64_in _ (by omega)
      have hb : protoB n = (decide (n % 2 = 1) && decide (n / 256 % 2 = 0)) := by simp [protoB, h, h2]
      rw [hb]
      by_cases h3 : n % 2 = 1
      · have z1 : (n % 2 == 1) = true := by simpa using h3
        by_cases h4 : n / 256 % 2 = 0
        · have z2 : (n / 256 % 2 == 0) = true := by simpa using h4
          have hc : (decide (n % 2 = 1) && decide (n / 256 % 2 = 0)) = true := by simp [h3, h4]
          rw [hc]
          clear hb hc
          go_enter Try.func39, Try.ntmps39
          go_wp2
          go_ret
          exact ⟨rfl, rfl⟩
        · have z2 : (n / 256 % 2 == 0) = false := by simpa using h4
          have hc : (decide (n % 2 = 1) && decide (n / 256 % 2 = 0)) = false := by simp [h4]
          rw [hc]
          clear hb hc
          go_enter Try.func39, Try.ntmps39
          go_wp2
          go_ret
          exact ⟨rfl, rfl⟩
      · have z1 : (n % 2 == 1) = false := by simpa using h3
        have hc : (decide (n % 2 = 1) && decide (n / 256 % 2 = 0)) = false := by simp [h3]
        rw [hc]
        clear hb hc
        go_enter Try.func39, Try.ntmps39
        go_wp2
        go_ret
        exact ⟨rfl, rfl⟩
    · have hb : protoB n = false := by simp [protoB]; omega
      rw [hb]
      clear hb
      go_enter Try.func39, Try.ntmps39
      go_wp2
      go_ret
      exact ⟨rfl, rfl⟩
  · have hb : protoB n = false := by simp [protoB]; omega
    rw [hb]
    clear hb
    go_enter Try.func39, Try.ntmps39
    go_wp2
    go_ret
    exact ⟨rfl, rfl⟩
end Go.Proofs.Ytedhldcoddbbdaa.F
