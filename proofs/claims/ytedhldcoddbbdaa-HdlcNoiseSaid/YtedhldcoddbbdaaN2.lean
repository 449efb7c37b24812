import Derived.Test.YtedhldcoddbbdaaU3
set_option linter.unusedVariables false
set_option linter.unusedSimpArgs false
set_option linter.unnecessarySimpa false
namespace Go.Proofs.Ytedhldcoddbbdaa.F
open Go.RowKit Go.Proofs.Ytedhldcoddbbdaa.K
/-- a number from 0 to one less than m -/
def cnt (n m : Int) : Int := if n.tmod m < 0 then n.tmod m + m else n.tmod m
theorem cnt_range (n m : Int) (h : 0 < m) : 0 ≤ cnt n m ∧ cnt n m < m := by
  unfold cnt
  have h1 := Int.tmod_lt_of_pos n h
  have h2 := Int.natAbs_tmod n m
  have h3 := Nat.mod_lt n.natAbs (show 0 < m.natAbs by omega)
  split <;> omega
theorem count27 (n m : Int) (hm : 0 < m) (hm2 : m ≤ 4611686018427387904) (w : World) : Calls Try.prog 27 #[.int .i64 n, .int .i64 m] w fun e w' => e = .returned (.int .i64 (cnt n m)) ∧ w = w' := by
  have hr := cnt_range n m hm
  have h1 := Int.tmod_lt_of_pos n hm
  have h2 := Int.natAbs_tmod n m
  have h3 := Nat.mod_lt n.natAbs (show 0 < m.natAbs by omega)
  have z : (m == 0) = false := by simp; omega
  have hw : wrap64 (n.tmod m + m) = n.tmod m + m ∨ ¬ n.tmod m < 0 := by
    by_cases h : n.tmod m < 0
    · exact .inl (by unfold wrap64; omega)
    · exact .inr h
  unfold cnt at *
  clear h2 h3
  by_cases h : n.tmod m < 0
  · rw [if_pos h] at *
    have hw2 : wrap64 (n.tmod m + m) = n.tmod m + m := hw.resolve_right (by omega)
    clear hw hr
    go_enter Try.func27, Try.ntmps27
    go_wp2
    go_ret
    exact ⟨congrArg (fun x => Ending.returned (Value.int .i64 x)) hw2, rfl⟩
  · rw [if_neg h] at *
    clear hw hr
    go_enter Try.func27, Try.ntmps27
    go_wp2
    go_ret
    exact ⟨rfl, rfl⟩
theorem map25 (a : Int) (w : World) : Calls Try.prog 25 #[.int .i64 a] w fun e w' => e = .returned (.bool (mapB a)) ∧ w = w' := by
  unfold mapB
  by_cases h : 0 ≤ a
  · have h1 : decide (0 ≤ a) = true := by simpa using h
    rw [h1]
    have h2 : decide (a < 4294967296) = decide (a ≤ 4294967295) := by rw [decide_eq_decide]; omega
    go_enter Try.func25, Try.ntmps25
    go_wp2
    go_ret
    exact ⟨by simp [h2], rfl⟩
  · have h1 : decide (0 ≤ a) = false := by simpa using h
    rw [h1]
    go_enter Try.func25, Try.ntmps25
    go_wp2
    go_ret
    exact ⟨by simp, rfl⟩
end Go.Proofs.Ytedhldcoddbbdaa.F
