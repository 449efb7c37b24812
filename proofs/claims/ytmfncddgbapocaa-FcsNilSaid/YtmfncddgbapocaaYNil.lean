import Derived.Test.YtmfncddgbapocaaY0
import Derived.Outline
set_option linter.unusedVariables false
set_option linter.unusedSimpArgs false
namespace Go.Proofs.Ytmfncddgbapocaa.F
open Go.RowKit Go.Proofs.Ytmfncddgbapocaa.K
theorem law_nil (b : Int) (v : Value) (w : World) : Calls Try.prog 11 #[.int .i64 b, v] w fun e w' => e = .returned (.bool true) ∧ Below w.heap.size w w' := by
  by_cases hb : b = 16 ∨ b = 32
  · have hn := new_at b w hb
    rcases hb with rfl | rfl
    all_goals
      go_enter Try.func11, Try.ntmps11
      go_wp2_with (first | (go_at_call 33; refine hn.mono ?_; rintro e w1 ⟨rfl, hc, B⟩) | (go_at_call 38; refine (len_at _ _ _ _ _ _ hc).mono ?_; rintro e w2 ⟨rfl, rfl⟩) | (go_at_call 12; refine (awake _).mono ?_; rintro e w3 ⟨rfl, b3⟩; replace B := below_then B b3))
      go_ret
      exact ⟨rfl, B⟩
  · have h1 : b ≠ 16 := fun e => hb (.inl e)
    have h2 : b ≠ 32 := fun e => hb (.inr e)
    have e1 : (b == 16) = false := by simpa using h1
    have e2 : (b == 32) = false := by simpa using h2
    go_enter Try.func11, Try.ntmps11
    go_wp2_with (first | (go_at_call 33; refine (new_none b w h1 h2).mono ?_; rintro e w1 ⟨rfl, hw⟩; subst hw) | (go_at_call 39; refine (reset_nil _).mono ?_; rintro e w1 ⟨rfl, hw⟩; subst hw) | (go_at_call 34; refine (add_nil _ _).mono ?_; rintro e w1 ⟨rfl, hw⟩; subst hw) | (go_at_call 36; refine (good_nil _).mono ?_; rintro e w1 ⟨rfl, n, hw⟩; subst hw) | (go_at_call 35; refine (sum_nil _).mono ?_; rintro e w1 ⟨rfl, hw⟩; subst hw) | (go_at_call 38; refine (len_nil _).mono ?_; rintro e w1 ⟨rfl, hw⟩; subst hw) | (go_at_call 12; refine (awake _).mono ?_; rintro e w3 ⟨rfl, b3⟩))
    go_ret
    exact ⟨rfl, b3.os, b3.tape, b3.output, b3.size, b3.block⟩
/-- As the row calls it. -/
theorem row_nil (b : Int) (l : List (BitVec 8)) (v : Value) (w : World) (hw : (Lit.int .i64 b).wf = true) (h : BytesAt w v l) (hl : l.length ≤ 140737488351232) : Calls Try.prog 11 #[.int .i64 b, v] w fun e w' => e = .returned (.bool true) ∧ Below w.heap.size w w' := law_nil b v w
end Go.Proofs.Ytmfncddgbapocaa.F
