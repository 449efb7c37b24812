import Derived.Test.YtmfncddgbapocaaYCuts
import Derived.Outline
set_option linter.unusedVariables false
set_option linter.unusedSimpArgs false
namespace Go.Proofs.Ytmfncddgbapocaa.F
open Go.RowKit Go.Proofs.Ytmfncddgbapocaa.K
theorem as32 {a : Int} (h : (Lit.int .u32 a).wf = true) : ∃ x : BitVec 32, a = v32 x := by
  have hr : 0 ≤ a ∧ a ≤ 4294967295 := by simpa [Lit.wf, IntKind.min, IntKind.max, IntKind.signed, IntKind.bits] using h
  exact ⟨BitVec.ofInt 32 a, by unfold v32; rw [BitVec.toNat_ofInt]; omega⟩
theorem as16 {a : Int} (h : (Lit.int .u16 a).wf = true) : ∃ x : BitVec 16, a = v16 x := by
  have hr : 0 ≤ a ∧ a ≤ 65535 := by simpa [Lit.wf, IntKind.min, IntKind.max, IntKind.signed, IntKind.bits] using h
  exact ⟨BitVec.ofInt 16 a, by unfold v16; rw [BitVec.toNat_ofInt]; omega⟩
attribute [local go_sem high] cv16_32
theorem far_out (p : BitVec 32) (m n : Int) (w : World) (h : m < 0 ∨ n < 0 ∨ 2305843009213693952 < m ∨ 2305843009213693952 < n) : Calls Try.prog 7 #[.int .u32 (v32 p), .int .i64 m, .int .i64 n] w fun e w' => e = .returned (.bool true) ∧ Below w.heap.size w w' := by
  cases h1 : decide (m < 0) with
  | true =>
    clear h
    go_enter Try.func7, Try.ntmps7
    go_wp2_with (go_at_call 12; refine (awake _).mono ?_; rintro e w1 ⟨rfl, b⟩)
    go_ret
    exact ⟨rfl, b⟩
  | false =>
    cases h2 : decide (n < 0) with
    | true =>
      clear h
      go_enter Try.func7, Try.ntmps7
      go_wp2_with (go_at_call 12; refine (awake _).mono ?_; rintro e w1 ⟨rfl, b⟩)
      go_ret
      exact ⟨rfl, b⟩
    | false =>
      cases h3 : decide (2305843009213693952 < m) with
      | true =>
        clear h
        go_enter Try.func7, Try.ntmps7
        go_wp2_with (go_at_call 12; refine (awake _).mono ?_; rintro e w1 ⟨rfl, b⟩)
        go_ret
        exact ⟨rfl, b⟩
      | false =>
        have h4 : decide (2305843009213693952 < n) = true := by
          simp at h1 h2 h3 ⊢; omega
        clear h
        go_enter Try.func7, Try.ntmps7
        go_wp2_with (go_at_call 12; refine (awake _).mono ?_; rintro e w1 ⟨rfl, b⟩)
        go_ret
        exact ⟨rfl, b⟩
theorem join16' (a : BitVec 16) (n : Int) (w : World) (h0 : 0 ≤ n) (hn : n ≤ 9223372036854775807) :
  Calls Try.prog 24 #[.int .u16 (v16 a), .int .u16 0, .int .i64 n] w fun e w' => e = .returned (.tuple #[.int .u16 (v16 (stN P16 (8 * n.toNat) a)), .int .i64 0]) ∧ Below w.heap.size w w' := by
  obtain ⟨k, rfl⟩ := Int.eq_ofNat_of_zero_le h0
  refine (join16 a 0#16 k w (by omega)).mono ?_
  rintro e w' ⟨rfl, hb⟩
  exact ⟨by rw [BitVec.xor_zero]; rfl, hb⟩
theorem join32' (a : BitVec 32) (n : Int) (w : World) (h0 : 0 ≤ n) (hn : n ≤ 9223372036854775807) :
  Calls Try.prog 25 #[.int .u32 (v32 a), .int .u32 0, .int .i64 n] w fun e w' => e = .returned (.tuple #[.int .u32 (v32 (stN P32 (8 * n.toNat) a)), .int .i64 0]) ∧ Below w.heap.size w w' := by
  obtain ⟨k, rfl⟩ := Int.eq_ofNat_of_zero_le h0
  refine (join32 a 0#32 k w (by omega)).mono ?_
  rintro e w' ⟨rfl, hb⟩
  exact ⟨by rw [BitVec.xor_zero]; rfl, hb⟩
theorem far_in (p : BitVec 32) (m n : Int) (w : World) (hm0 : 0 ≤ m) (hn0 : 0 ≤ n) (hm : m ≤ 2305843009213693952) (hn : n ≤ 2305843009213693952) : Calls Try.prog 7 #[.int .u32 (v32 p), .int .i64 m, .int .i64 n] w fun e w' => e = .returned (.bool true) ∧ Below w.heap.size w w' := by
  have h1 : decide (m < 0) = false := by simpa using hm0
  have h2 : decide (n < 0) = false := by simpa using hn0
  have h3 : decide (2305843009213693952 < m) = false := by simpa using hm
  have h4 : decide (2305843009213693952 < n) = false := by simpa using hn
  have e32 : stN P32 (8 * n.toNat) (stN P32 (8 * m.toNat) p) = stN P32 (8 * (m + n).toNat) p := by
    rw [← stN_add]; congr 1; omega
  have e16 : stN P16 (8 * n.toNat) (stN P16 (8 * m.toNat) (p.setWidth 16)) = stN P16 (8 * (m + n).toNat) (p.setWidth 16) := by
    rw [← stN_add]; congr 1; omega
  have E32 := Lib.hid e32
  have E16 := Lib.hid e16
  clear e32 e16
  go_enter Try.func7, Try.ntmps7
  go_wp2_with fail
  refine (join32' p m _ hm0 (by omega)).mono ?_
  rintro e w1 ⟨rfl, B⟩
  go_wp2_with fail
  refine (join32' _ n _ hn0 (by omega)).mono ?_
  rintro e w2 ⟨rfl, b⟩
  replace B := below_then B b
  clear b
  rw [E32.out]
  go_wp2_with fail
  refine (join32' p (m + n) _ (by omega) (by omega)).mono ?_
  rintro e w3 ⟨rfl, b⟩
  replace B := below_then B b
  clear b
  go_wp2_with fail
  refine (join16' _ m _ hm0 (by omega)).mono ?_
  rintro e w4 ⟨rfl, b⟩
  replace B := below_then B b
  clear b
  go_wp2_with fail
  refine (join16' _ n _ hn0 (by omega)).mono ?_
  rintro e w5 ⟨rfl, b⟩
  replace B := below_then B b
  clear b
  rw [E16.out]
  go_wp2_with fail
  refine (join16' _ (m + n) _ (by omega) (by omega)).mono ?_
  rintro e w6 ⟨rfl, b⟩
  replace B := below_then B b
  clear b
  go_wp2_with fail
  refine (awake _).mono ?_
  rintro e w7 ⟨rfl, b⟩
  go_wp2
  go_ret
  exact ⟨rfl, below_then B b⟩
theorem law_far (a m n : Int) (w : World) (h : (Lit.int .u32 a).wf = true) (hm : (Lit.int .i64 m).wf = true) (hn : (Lit.int .i64 n).wf = true) : Calls Try.prog 7 #[.int .u32 a, .int .i64 m, .int .i64 n] w fun e w' => e = .returned (.bool true) ∧ Below w.heap.size w w' := by
  obtain ⟨p, rfl⟩ := as32 h
  by_cases ho : m < 0 ∨ n < 0 ∨ 2305843009213693952 < m ∨ 2305843009213693952 < n
  · exact far_out p m n w ho
  · exact far_in p m n w (by omega) (by omega) (by omega) (by omega)
end Go.Proofs.Ytmfncddgbapocaa.F
