import Derived.Test.YtibdaonhldlmbaaD2
set_option linter.unusedVariables false
set_option linter.unusedSimpArgs false
namespace Go.Proofs.Ytibdaonhldlmbaa.F
open Go.RowKit Go.Proofs.Ytibdaonhldlmbaa.K
/-- a time from 0 to most -/
def smo (n most : Int) : Int := if n.tmod (most + 1) < 0 then -(n.tmod (most + 1)) else n.tmod (most + 1)
theorem smo_rng (n most : Int) (h : 0 ≤ most) : 0 ≤ smo n most ∧ smo n most ≤ most := by
  have a1 := Int.tmod_lt_of_pos n (b := most + 1) (by omega)
  have a2 := Int.lt_tmod_of_pos n (b := most + 1) (by omega)
  unfold smo
  split <;> omega
theorem some10 (n most : Int) (w : World) (h : 0 ≤ most ∧ most ≤ 5000) : Calls Try.prog 10 #[.int .i64 n, .int .i64 most] w fun e w' => e = .returned (.int .i64 (smo n most)) ∧ w = w' := by
  have a1 := Int.tmod_lt_of_pos n (b := most + 1) (by omega)
  have a2 := Int.lt_tmod_of_pos n (b := most + 1) (by omega)
  have hz : ¬ most + 1 = 0 := by omega
  have hzb : (most + 1 == 0) = false := by simpa using hz
  unfold smo
  by_cases hx : n.tmod (most + 1) < 0
  · rw [if_pos hx]
    go_enter Try.func10, Try.ntmps10
    go_wp2
    go_ret
    exact ⟨rfl, rfl⟩
  · rw [if_neg hx]
    go_enter Try.func10, Try.ntmps10
    go_wp2
    go_ret
    exact ⟨rfl, rfl⟩
end Go.Proofs.Ytibdaonhldlmbaa.F
