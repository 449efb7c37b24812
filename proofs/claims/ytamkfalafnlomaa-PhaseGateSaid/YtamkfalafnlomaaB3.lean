import Derived.Test.YtamkfalafnlomaaB2
set_option linter.unusedVariables false
set_option linter.unusedSimpArgs false
namespace Go.Proofs.Ytamkfalafnlomaa.F
open Go.RowKit Go.Proofs.Ytamkfalafnlomaa.K
set_option maxHeartbeats 8000000 in
theorem next9 (p e : Int) (w : World) :
  Calls Try.prog 9 #[.int .i64 p, .int .i64 e] w fun E w' => E = .returned (.tuple #[.int .i64 (nx p e).1, .int .i64 (nx p e).2]) ∧ Below w.heap.size w w' := by
  by_cases h : inT p e
  · obtain ⟨h0, h1, h2, h3⟩ := h
    rcases five h0 h1 with rfl | rfl | rfl | rfl | rfl
    · have hr := row27_0
      rcases nine h2 h3 with rfl | rfl | rfl | rfl | rfl | rfl | rfl | rfl | rfl
      all_goals
        clear h0 h1 h2 h3
        go_enter Try.func9, Try.ntmps9
        go_wp2_with fail
        refine (hr _).mono ?_
        rintro e w1 ⟨rfl, hb⟩
        go_wp2
        go_ret2
        exact ⟨rfl, hb.alloc hb.size _⟩
    · have hr := row27_1
      rcases nine h2 h3 with rfl | rfl | rfl | rfl | rfl | rfl | rfl | rfl | rfl
      all_goals
        clear h0 h1 h2 h3
        go_enter Try.func9, Try.ntmps9
        go_wp2_with fail
        refine (hr _).mono ?_
        rintro e w1 ⟨rfl, hb⟩
        go_wp2
        go_ret2
        exact ⟨rfl, hb.alloc hb.size _⟩
    · have hr := row27_2
      rcases nine h2 h3 with rfl | rfl | rfl | rfl | rfl | rfl | rfl | rfl | rfl
      all_goals
        clear h0 h1 h2 h3
        go_enter Try.func9, Try.ntmps9
        go_wp2_with fail
        refine (hr _).mono ?_
        rintro e w1 ⟨rfl, hb⟩
        go_wp2
        go_ret2
        exact ⟨rfl, hb.alloc hb.size _⟩
    · have hr := row27_3
      rcases nine h2 h3 with rfl | rfl | rfl | rfl | rfl | rfl | rfl | rfl | rfl
      all_goals
        clear h0 h1 h2 h3
        go_enter Try.func9, Try.ntmps9
        go_wp2_with fail
        refine (hr _).mono ?_
        rintro e w1 ⟨rfl, hb⟩
        go_wp2
        go_ret2
        exact ⟨rfl, hb.alloc hb.size _⟩
    · have hr := row27_4
      rcases nine h2 h3 with rfl | rfl | rfl | rfl | rfl | rfl | rfl | rfl | rfl
      all_goals
        clear h0 h1 h2 h3
        go_enter Try.func9, Try.ntmps9
        go_wp2_with fail
        refine (hr _).mono ?_
        rintro e w1 ⟨rfl, hb⟩
        go_wp2
        go_ret2
        exact ⟨rfl, hb.alloc hb.size _⟩
  · have e : nx p e = (0, 1) := if_neg h
    rw [e]
    have H := notIn h
    clear e h
    rcases H with h | ⟨h, h'⟩ | ⟨h, h', h''⟩ | ⟨h, h', h'', h3⟩
    all_goals
      go_enter Try.func9, Try.ntmps9
      go_wp2
      go_ret2
      exact ⟨rfl, Below.refl _ _⟩
end Go.Proofs.Ytamkfalafnlomaa.F
