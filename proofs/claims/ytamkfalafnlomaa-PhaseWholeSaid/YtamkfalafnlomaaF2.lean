import Derived.Test.YtamkfalafnlomaaE8
set_option linter.unusedVariables false
set_option linter.unusedSimpArgs false
namespace Go.Proofs.Ytamkfalafnlomaa.F
open Go.RowKit Go.Proofs.Ytamkfalafnlomaa.K
set_option maxRecDepth 100000 in
theorem law_whole (n : Int) (w : World) (h : (Lit.int .i64 n).wf = true) : Calls Try.prog 3 #[.int .i64 n] w fun E w' => E = .returned (.bool true) ∧ Below w.heap.size w w' := by
  have hn : -9223372036854775808 ≤ n ∧ n ≤ 9223372036854775807 := by simpa [Lit.wf, IntKind.min, IntKind.max, IntKind.signed, IntKind.bits] using h
  clear h
  go_enter Try.func3, Try.ntmps3
  go_wp2
  go_loopw [3] (fun i wr => ∃ k : Int, 0 ≤ k ∧ k ≤ 45 ∧ i = .int .i64 k ∧ Below w.heap.size w wr) (fun i _ => 45 - (intOf i).toNat)
  case atStart => exact ⟨0, by omega, by omega, rfl, Below.refl _ _⟩
  case round =>
    obtain ⟨k, hk0, hk, rfl, hB⟩ := hrel
    by_cases hlt : k < 45
    · go_wp2_with fail
      refine (next9 _ _ _).mono ?_
      rintro E w1 ⟨rfl, b⟩
      replace hB := below_then hB b
      clear b
      go_wp2_with fail
      refine (next10 _ _ _).mono ?_
      rintro E w2 ⟨rfl, rfl⟩
      go_wp2
      go_roundw
      case rel => exact ⟨k + 1, by omega, by omega, by go_num, hB⟩
      case measure => simp [intOf]; omega
    · obtain rfl : k = 45 := by omega
      go_wp2
      go_loopw [8, 9, 10] (fun i _ _ wr => ∃ k : Nat, k ≤ 5 ∧ i = .int .i64 k ∧ Below w.heap.size w wr) (fun i _ _ _ => 5 - (intOf i).toNat)
      case atStart => exact ⟨0, by omega, rfl, hB⟩
      case round =>
        clear hB hk hlt hk0
        obtain ⟨i, hi, rfl, hB⟩ := hrel
        by_cases hlt : i < 5
        · have hd : decide ((i : Int) < 5) = true := by simp; omega
          go_wp2
          go_loopw [9, 10] (fun j _ wr => ∃ k : Nat, k ≤ 2000 ∧ j = .int .i64 k ∧ Below w.heap.size w wr) (fun j _ _ => 2000 - (intOf j).toNat)
          case atStart => exact ⟨0, by omega, rfl, hB⟩
          case round =>
            clear hB
            obtain ⟨j, hj, rfl, hB⟩ := hrel
            by_cases hlj : j < 2000
            · go_wp2_with fail
              refine (pass11 _ _ _).mono ?_
              rintro E w1 ⟨rfl, rfl⟩
              go_wp2_with fail
              refine (pass12 _ _ _).mono ?_
              rintro E w2 ⟨rfl, rfl⟩
              go_wp2
              go_roundw
              case rel => exact ⟨j + 1, by omega, by go_num, hB⟩
              case measure => simp [intOf]; omega
            · go_wp2
              go_roundw
              case rel => exact ⟨i + 1, by omega, by go_num, hB⟩
              case measure => simp [intOf]; omega
        · go_wp2_with fail
          refine (awake _).mono ?_
          rintro E w3 ⟨rfl, b⟩
          replace hB := below_then hB b
          go_wp2
          go_ret
          exact ⟨rfl, hB⟩
end Go.Proofs.Ytamkfalafnlomaa.F
