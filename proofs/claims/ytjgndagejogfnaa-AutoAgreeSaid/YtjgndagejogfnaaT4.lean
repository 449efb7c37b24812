import Derived.Test.YtjgndagejogfnaaT2
set_option linter.unusedVariables false
set_option linter.unusedSimpArgs false
namespace Go.Proofs.Ytjgndagejogfnaa.F
open Go.RowKit Go.Proofs.Ytjgndagejogfnaa.K
set_option maxRecDepth 100000 in
set_option maxHeartbeats 4000000 in
theorem later_8 (w : World) : Calls Try.prog 47 #[.int .i64 8] w (RowR [(-1, []), (-1, []), (2, [11]), (3, [11]), (4, []), (5, []), (7, [5]), (6, [7]), (9, [5, 1]), (6, [2, 7])] w) := by
  go_enter Try.func47, Try.ntmps47
  go_wp2_with (go_at_call 45; refine (never45 _).mono ?_; rintro e w1 ⟨rfl, hb⟩)
  have h23 : w.heap.size < w1.heap.size := by have := hb.size; simp at this; omega
  have hW : w.heap.size ≤ w.heap.size := Nat.le_refl _
  have hG0 := gd_start hb rfl
  clear hb
  refine tab_region w.heap.size w1.heap.size 17 [(-1, []), (-1, []), (2, [11]), (3, [11]), (4, []), (5, []), (7, [5]), (6, [7]), (9, [5, 1]), (6, [2, 7])] [.ent (-1) [], .ent (-1) [], .row [11], .ent 2 [11], .row [11], .ent 3 [11], .ent 4 [], .ent 5 [], .row [5], .ent 7 [5], .row [7], .ent 6 [7], .row [5, 1], .ent 9 [5, 1], .row [2, 7], .ent 6 [2, 7], .tab [(-1, []), (-1, []), (2, [11]), (3, [11]), (4, []), (5, []), (7, [5]), (6, [7]), (9, [5, 1]), (6, [2, 7])], .done [(-1, []), (-1, []), (2, [11]), (3, [11]), (4, []), (5, []), (7, [5]), (6, [7]), (9, [5, 1]), (6, [2, 7])]] (by kernel_rfl) (by decide) rfl ?_ h23 hW hG0 ?_ ?_
  · exact done_at (by kernel_rfl)
  · intro i o ho a w' hA hG hp
    have he2 : a.eval (.tmp 2) = .pointer (some ⟨w.heap.size, 0, none⟩) := same_eval hA 2 (by kernel_rfl) rfl
    have he3 : a.eval (.tmp 3) = .pointer (some ⟨w1.heap.size, 0, none⟩) := same_eval hA 3 (by kernel_rfl) rfl
    have hi : i < 18 := (Array.getElem?_eq_some_iff.1 ho).1
    rcases (show i = 0 ∨ i = 1 ∨ i = 2 ∨ i = 3 ∨ i = 4 ∨ i = 5 ∨ i = 6 ∨ i = 7 ∨ i = 8 ∨ i = 9 ∨ i = 10 ∨ i = 11 ∨ i = 12 ∨ i = 13 ∨ i = 14 ∨ i = 15 ∨ i = 16 ∨ i = 17 by omega) with rfl | rfl | rfl | rfl | rfl | rfl | rfl | rfl | rfl | rfl | rfl | rfl | rfl | rfl | rfl | rfl | rfl | rfl
    · obtain rfl := Option.some.inj ho
      exact st_load 3 8 rfl rfl hG he3
    · obtain rfl := Option.some.inj ho
      exact st_load 3 9 rfl rfl hG he3
    · obtain rfl := Option.some.inj ho
      exact st_lit1 11 10 rfl rfl hG
    · obtain rfl := Option.some.inj ho
      exact st_toT 2 10 11 [11] rfl rfl hG (hp 2 (by kernel_rfl))
    · obtain rfl := Option.some.inj ho
      exact st_lit1 11 12 rfl rfl hG
    · obtain rfl := Option.some.inj ho
      exact st_toT 3 12 13 [11] rfl rfl hG (hp 4 (by kernel_rfl))
    · obtain rfl := Option.some.inj ho
      exact st_to0 4 14 rfl rfl hG
    · obtain rfl := Option.some.inj ho
      exact st_to0 5 15 rfl rfl hG
    · obtain rfl := Option.some.inj ho
      exact st_lit1 5 16 rfl rfl hG
    · obtain rfl := Option.some.inj ho
      exact st_toT 7 16 17 [5] rfl rfl hG (hp 8 (by kernel_rfl))
    · obtain rfl := Option.some.inj ho
      exact st_lit1 7 18 rfl rfl hG
    · obtain rfl := Option.some.inj ho
      exact st_toT 6 18 19 [7] rfl rfl hG (hp 10 (by kernel_rfl))
    · obtain rfl := Option.some.inj ho
      exact st_lit2 5 1 20 rfl rfl hG
    · obtain rfl := Option.some.inj ho
      exact st_toT 9 20 21 [5, 1] rfl rfl hG (hp 12 (by kernel_rfl))
    · obtain rfl := Option.some.inj ho
      exact st_lit2 2 7 22 rfl rfl hG
    · obtain rfl := Option.some.inj ho
      exact st_toT 6 22 23 [2, 7] rfl rfl hG (hp 14 (by kernel_rfl))
    · obtain rfl := Option.some.inj ho
      exact st_build 8 9 11 13 14 15 17 19 21 23 24 (-1) (-1) 2 3 4 5 7 6 9 6 [] [] [11] [11] [] [] [5] [7] [5, 1] [2, 7] rfl rfl hG (hp 0 (by kernel_rfl)) (hp 1 (by kernel_rfl)) (hp 3 (by kernel_rfl)) (hp 5 (by kernel_rfl)) (hp 6 (by kernel_rfl)) (hp 7 (by kernel_rfl)) (hp 9 (by kernel_rfl)) (hp 11 (by kernel_rfl)) (hp 13 (by kernel_rfl)) (hp 15 (by kernel_rfl))
    · obtain rfl := Option.some.inj ho
      exact st_store 2 24 [(-1, []), (-1, []), (2, [11]), (3, [11]), (4, []), (5, []), (7, [5]), (6, [7]), (9, [5, 1]), (6, [2, 7])] rfl rfl rfl h23 hW rfl hG he2 (hp 16 (by kernel_rfl))
  · intro a w' cs hA hh hT hB
    have he2 : a.eval (.tmp 2) = .pointer (some ⟨w.heap.size, 0, none⟩) := same_eval hA 2 (by kernel_rfl) rfl
    go_wp2
    exact bodyPost_ret (v := .agg cs.toArray) (results_cell_row rfl _ _ w.heap.size 62 _ (0, 0) _ he2 hh Try.underlying62 rfl (by rw [info62]; simp [hT.one.1])) hA.defers ⟨⟨cs, rfl, hT.weak (by omega)⟩, hB⟩
set_option maxRecDepth 100000 in
set_option maxHeartbeats 4000000 in
theorem later_9 (w : World) : Calls Try.prog 47 #[.int .i64 9] w (RowR [(-1, []), (-1, []), (2, [11]), (3, [11]), (4, []), (5, []), (6, [5, 7]), (6, [7]), (8, [5, 7]), (6, [2, 7])] w) := by
  go_enter Try.func47, Try.ntmps47
  go_wp2_with (go_at_call 45; refine (never45 _).mono ?_; rintro e w1 ⟨rfl, hb⟩)
  have h23 : w.heap.size < w1.heap.size := by have := hb.size; simp at this; omega
  have hW : w.heap.size ≤ w.heap.size := Nat.le_refl _
  have hG0 := gd_start hb rfl
  clear hb
  refine tab_region w.heap.size w1.heap.size 17 [(-1, []), (-1, []), (2, [11]), (3, [11]), (4, []), (5, []), (6, [5, 7]), (6, [7]), (8, [5, 7]), (6, [2, 7])] [.ent (-1) [], .ent (-1) [], .row [11], .ent 2 [11], .row [11], .ent 3 [11], .ent 4 [], .ent 5 [], .row [5, 7], .ent 6 [5, 7], .row [7], .ent 6 [7], .row [5, 7], .ent 8 [5, 7], .row [2, 7], .ent 6 [2, 7], .tab [(-1, []), (-1, []), (2, [11]), (3, [11]), (4, []), (5, []), (6, [5, 7]), (6, [7]), (8, [5, 7]), (6, [2, 7])], .done [(-1, []), (-1, []), (2, [11]), (3, [11]), (4, []), (5, []), (6, [5, 7]), (6, [7]), (8, [5, 7]), (6, [2, 7])]] (by kernel_rfl) (by decide) rfl ?_ h23 hW hG0 ?_ ?_
  · exact done_at (by kernel_rfl)
  · intro i o ho a w' hA hG hp
    have he2 : a.eval (.tmp 2) = .pointer (some ⟨w.heap.size, 0, none⟩) := same_eval hA 2 (by kernel_rfl) rfl
    have he3 : a.eval (.tmp 3) = .pointer (some ⟨w1.heap.size, 0, none⟩) := same_eval hA 3 (by kernel_rfl) rfl
    have hi : i < 18 := (Array.getElem?_eq_some_iff.1 ho).1
    rcases (show i = 0 ∨ i = 1 ∨ i = 2 ∨ i = 3 ∨ i = 4 ∨ i = 5 ∨ i = 6 ∨ i = 7 ∨ i = 8 ∨ i = 9 ∨ i = 10 ∨ i = 11 ∨ i = 12 ∨ i = 13 ∨ i = 14 ∨ i = 15 ∨ i = 16 ∨ i = 17 by omega) with rfl | rfl | rfl | rfl | rfl | rfl | rfl | rfl | rfl | rfl | rfl | rfl | rfl | rfl | rfl | rfl | rfl | rfl
    · obtain rfl := Option.some.inj ho
      exact st_load 3 27 rfl rfl hG he3
    · obtain rfl := Option.some.inj ho
      exact st_load 3 28 rfl rfl hG he3
    · obtain rfl := Option.some.inj ho
      exact st_lit1 11 29 rfl rfl hG
    · obtain rfl := Option.some.inj ho
      exact st_toT 2 29 30 [11] rfl rfl hG (hp 2 (by kernel_rfl))
    · obtain rfl := Option.some.inj ho
      exact st_lit1 11 31 rfl rfl hG
    · obtain rfl := Option.some.inj ho
      exact st_toT 3 31 32 [11] rfl rfl hG (hp 4 (by kernel_rfl))
    · obtain rfl := Option.some.inj ho
      exact st_to0 4 33 rfl rfl hG
    · obtain rfl := Option.some.inj ho
      exact st_to0 5 34 rfl rfl hG
    · obtain rfl := Option.some.inj ho
      exact st_lit2 5 7 35 rfl rfl hG
    · obtain rfl := Option.some.inj ho
      exact st_toT 6 35 36 [5, 7] rfl rfl hG (hp 8 (by kernel_rfl))
    · obtain rfl := Option.some.inj ho
      exact st_lit1 7 37 rfl rfl hG
    · obtain rfl := Option.some.inj ho
      exact st_toT 6 37 38 [7] rfl rfl hG (hp 10 (by kernel_rfl))
    · obtain rfl := Option.some.inj ho
      exact st_lit2 5 7 39 rfl rfl hG
    · obtain rfl := Option.some.inj ho
      exact st_toT 8 39 40 [5, 7] rfl rfl hG (hp 12 (by kernel_rfl))
    · obtain rfl := Option.some.inj ho
      exact st_lit2 2 7 41 rfl rfl hG
    · obtain rfl := Option.some.inj ho
      exact st_toT 6 41 42 [2, 7] rfl rfl hG (hp 14 (by kernel_rfl))
    · obtain rfl := Option.some.inj ho
      exact st_build 27 28 30 32 33 34 36 38 40 42 43 (-1) (-1) 2 3 4 5 6 6 8 6 [] [] [11] [11] [] [] [5, 7] [7] [5, 7] [2, 7] rfl rfl hG (hp 0 (by kernel_rfl)) (hp 1 (by kernel_rfl)) (hp 3 (by kernel_rfl)) (hp 5 (by kernel_rfl)) (hp 6 (by kernel_rfl)) (hp 7 (by kernel_rfl)) (hp 9 (by kernel_rfl)) (hp 11 (by kernel_rfl)) (hp 13 (by kernel_rfl)) (hp 15 (by kernel_rfl))
    · obtain rfl := Option.some.inj ho
      exact st_store 2 43 [(-1, []), (-1, []), (2, [11]), (3, [11]), (4, []), (5, []), (6, [5, 7]), (6, [7]), (8, [5, 7]), (6, [2, 7])] rfl rfl rfl h23 hW rfl hG he2 (hp 16 (by kernel_rfl))
  · intro a w' cs hA hh hT hB
    have he2 : a.eval (.tmp 2) = .pointer (some ⟨w.heap.size, 0, none⟩) := same_eval hA 2 (by kernel_rfl) rfl
    go_wp2
    exact bodyPost_ret (v := .agg cs.toArray) (results_cell_row rfl _ _ w.heap.size 62 _ (0, 0) _ he2 hh Try.underlying62 rfl (by rw [info62]; simp [hT.one.1])) hA.defers ⟨⟨cs, rfl, hT.weak (by omega)⟩, hB⟩
set_option maxRecDepth 100000 in
set_option maxHeartbeats 4000000 in
theorem later_10 (w : World) : Calls Try.prog 47 #[.int .i64 10] w (RowR [(-1, []), (-1, []), (2, [11]), (3, [11]), (4, [11]), (5, [11]), (6, [11]), (6, [11]), (6, [11]), (5, [2, 6, 11])] w) := by
  go_enter Try.func47, Try.ntmps47
  go_wp2_with (go_at_call 45; refine (never45 _).mono ?_; rintro e w1 ⟨rfl, hb⟩)
  have h23 : w.heap.size < w1.heap.size := by have := hb.size; simp at this; omega
  have hW : w.heap.size ≤ w.heap.size := Nat.le_refl _
  have hG0 := gd_start hb rfl
  clear hb
  refine tab_region w.heap.size w1.heap.size 19 [(-1, []), (-1, []), (2, [11]), (3, [11]), (4, [11]), (5, [11]), (6, [11]), (6, [11]), (6, [11]), (5, [2, 6, 11])] [.ent (-1) [], .ent (-1) [], .row [11], .ent 2 [11], .row [11], .ent 3 [11], .row [11], .ent 4 [11], .row [11], .ent 5 [11], .row [11], .ent 6 [11], .row [11], .ent 6 [11], .row [11], .ent 6 [11], .row [2, 6, 11], .ent 5 [2, 6, 11], .tab [(-1, []), (-1, []), (2, [11]), (3, [11]), (4, [11]), (5, [11]), (6, [11]), (6, [11]), (6, [11]), (5, [2, 6, 11])], .done [(-1, []), (-1, []), (2, [11]), (3, [11]), (4, [11]), (5, [11]), (6, [11]), (6, [11]), (6, [11]), (5, [2, 6, 11])]] (by kernel_rfl) (by decide) rfl ?_ h23 hW hG0 ?_ ?_
  · exact done_at (by kernel_rfl)
  · intro i o ho a w' hA hG hp
    have he2 : a.eval (.tmp 2) = .pointer (some ⟨w.heap.size, 0, none⟩) := same_eval hA 2 (by kernel_rfl) rfl
    have he3 : a.eval (.tmp 3) = .pointer (some ⟨w1.heap.size, 0, none⟩) := same_eval hA 3 (by kernel_rfl) rfl
    have hi : i < 20 := (Array.getElem?_eq_some_iff.1 ho).1
    rcases (show i = 0 ∨ i = 1 ∨ i = 2 ∨ i = 3 ∨ i = 4 ∨ i = 5 ∨ i = 6 ∨ i = 7 ∨ i = 8 ∨ i = 9 ∨ i = 10 ∨ i = 11 ∨ i = 12 ∨ i = 13 ∨ i = 14 ∨ i = 15 ∨ i = 16 ∨ i = 17 ∨ i = 18 ∨ i = 19 by omega) with rfl | rfl | rfl | rfl | rfl | rfl | rfl | rfl | rfl | rfl | rfl | rfl | rfl | rfl | rfl | rfl | rfl | rfl | rfl | rfl
    · obtain rfl := Option.some.inj ho
      exact st_load 3 46 rfl rfl hG he3
    · obtain rfl := Option.some.inj ho
      exact st_load 3 47 rfl rfl hG he3
    · obtain rfl := Option.some.inj ho
      exact st_lit1 11 48 rfl rfl hG
    · obtain rfl := Option.some.inj ho
      exact st_toT 2 48 49 [11] rfl rfl hG (hp 2 (by kernel_rfl))
    · obtain rfl := Option.some.inj ho
      exact st_lit1 11 50 rfl rfl hG
    · obtain rfl := Option.some.inj ho
      exact st_toT 3 50 51 [11] rfl rfl hG (hp 4 (by kernel_rfl))
    · obtain rfl := Option.some.inj ho
      exact st_lit1 11 52 rfl rfl hG
    · obtain rfl := Option.some.inj ho
      exact st_toT 4 52 53 [11] rfl rfl hG (hp 6 (by kernel_rfl))
    · obtain rfl := Option.some.inj ho
      exact st_lit1 11 54 rfl rfl hG
    · obtain rfl := Option.some.inj ho
      exact st_toT 5 54 55 [11] rfl rfl hG (hp 8 (by kernel_rfl))
    · obtain rfl := Option.some.inj ho
      exact st_lit1 11 56 rfl rfl hG
    · obtain rfl := Option.some.inj ho
      exact st_toT 6 56 57 [11] rfl rfl hG (hp 10 (by kernel_rfl))
    · obtain rfl := Option.some.inj ho
      exact st_lit1 11 58 rfl rfl hG
    · obtain rfl := Option.some.inj ho
      exact st_toT 6 58 59 [11] rfl rfl hG (hp 12 (by kernel_rfl))
    · obtain rfl := Option.some.inj ho
      exact st_lit1 11 60 rfl rfl hG
    · obtain rfl := Option.some.inj ho
      exact st_toT 6 60 61 [11] rfl rfl hG (hp 14 (by kernel_rfl))
    · obtain rfl := Option.some.inj ho
      exact st_lit3 2 6 11 62 rfl rfl hG
    · obtain rfl := Option.some.inj ho
      exact st_toT 5 62 63 [2, 6, 11] rfl rfl hG (hp 16 (by kernel_rfl))
    · obtain rfl := Option.some.inj ho
      exact st_build 46 47 49 51 53 55 57 59 61 63 64 (-1) (-1) 2 3 4 5 6 6 6 5 [] [] [11] [11] [11] [11] [11] [11] [11] [2, 6, 11] rfl rfl hG (hp 0 (by kernel_rfl)) (hp 1 (by kernel_rfl)) (hp 3 (by kernel_rfl)) (hp 5 (by kernel_rfl)) (hp 7 (by kernel_rfl)) (hp 9 (by kernel_rfl)) (hp 11 (by kernel_rfl)) (hp 13 (by kernel_rfl)) (hp 15 (by kernel_rfl)) (hp 17 (by kernel_rfl))
    · obtain rfl := Option.some.inj ho
      exact st_store 2 64 [(-1, []), (-1, []), (2, [11]), (3, [11]), (4, [11]), (5, [11]), (6, [11]), (6, [11]), (6, [11]), (5, [2, 6, 11])] rfl rfl rfl h23 hW rfl hG he2 (hp 18 (by kernel_rfl))
  · intro a w' cs hA hh hT hB
    have he2 : a.eval (.tmp 2) = .pointer (some ⟨w.heap.size, 0, none⟩) := same_eval hA 2 (by kernel_rfl) rfl
    go_wp2
    exact bodyPost_ret (v := .agg cs.toArray) (results_cell_row rfl _ _ w.heap.size 62 _ (0, 0) _ he2 hh Try.underlying62 rfl (by rw [info62]; simp [hT.one.1])) hA.defers ⟨⟨cs, rfl, hT.weak (by omega)⟩, hB⟩
set_option maxRecDepth 100000 in
set_option maxHeartbeats 4000000 in
theorem later_11 (w : World) : Calls Try.prog 47 #[.int .i64 11] w (RowR [(-1, []), (-1, []), (2, []), (3, []), (2, [4]), (3, [4]), (6, []), (6, []), (8, []), (6, [2, 7])] w) := by
  go_enter Try.func47, Try.ntmps47
  go_wp2_with (go_at_call 45; refine (never45 _).mono ?_; rintro e w1 ⟨rfl, hb⟩)
  have h23 : w.heap.size < w1.heap.size := by have := hb.size; simp at this; omega
  have hW : w.heap.size ≤ w.heap.size := Nat.le_refl _
  have hG0 := gd_start hb rfl
  clear hb
  refine tab_region w.heap.size w1.heap.size 14 [(-1, []), (-1, []), (2, []), (3, []), (2, [4]), (3, [4]), (6, []), (6, []), (8, []), (6, [2, 7])] [.ent (-1) [], .ent (-1) [], .ent 2 [], .ent 3 [], .row [4], .ent 2 [4], .row [4], .ent 3 [4], .ent 6 [], .ent 6 [], .ent 8 [], .row [2, 7], .ent 6 [2, 7], .tab [(-1, []), (-1, []), (2, []), (3, []), (2, [4]), (3, [4]), (6, []), (6, []), (8, []), (6, [2, 7])], .done [(-1, []), (-1, []), (2, []), (3, []), (2, [4]), (3, [4]), (6, []), (6, []), (8, []), (6, [2, 7])]] (by kernel_rfl) (by decide) rfl ?_ h23 hW hG0 ?_ ?_
  · exact done_at (by kernel_rfl)
  · intro i o ho a w' hA hG hp
    have he2 : a.eval (.tmp 2) = .pointer (some ⟨w.heap.size, 0, none⟩) := same_eval hA 2 (by kernel_rfl) rfl
    have he3 : a.eval (.tmp 3) = .pointer (some ⟨w1.heap.size, 0, none⟩) := same_eval hA 3 (by kernel_rfl) rfl
    have hi : i < 15 := (Array.getElem?_eq_some_iff.1 ho).1
    rcases (show i = 0 ∨ i = 1 ∨ i = 2 ∨ i = 3 ∨ i = 4 ∨ i = 5 ∨ i = 6 ∨ i = 7 ∨ i = 8 ∨ i = 9 ∨ i = 10 ∨ i = 11 ∨ i = 12 ∨ i = 13 ∨ i = 14 by omega) with rfl | rfl | rfl | rfl | rfl | rfl | rfl | rfl | rfl | rfl | rfl | rfl | rfl | rfl | rfl
    · obtain rfl := Option.some.inj ho
      exact st_load 3 67 rfl rfl hG he3
    · obtain rfl := Option.some.inj ho
      exact st_load 3 68 rfl rfl hG he3
    · obtain rfl := Option.some.inj ho
      exact st_to0 2 69 rfl rfl hG
    · obtain rfl := Option.some.inj ho
      exact st_to0 3 70 rfl rfl hG
    · obtain rfl := Option.some.inj ho
      exact st_lit1 4 71 rfl rfl hG
    · obtain rfl := Option.some.inj ho
      exact st_toT 2 71 72 [4] rfl rfl hG (hp 4 (by kernel_rfl))
    · obtain rfl := Option.some.inj ho
      exact st_lit1 4 73 rfl rfl hG
    · obtain rfl := Option.some.inj ho
      exact st_toT 3 73 74 [4] rfl rfl hG (hp 6 (by kernel_rfl))
    · obtain rfl := Option.some.inj ho
      exact st_to0 6 75 rfl rfl hG
    · obtain rfl := Option.some.inj ho
      exact st_to0 6 76 rfl rfl hG
    · obtain rfl := Option.some.inj ho
      exact st_to0 8 77 rfl rfl hG
    · obtain rfl := Option.some.inj ho
      exact st_lit2 2 7 78 rfl rfl hG
    · obtain rfl := Option.some.inj ho
      exact st_toT 6 78 79 [2, 7] rfl rfl hG (hp 11 (by kernel_rfl))
    · obtain rfl := Option.some.inj ho
      exact st_build 67 68 69 70 72 74 75 76 77 79 80 (-1) (-1) 2 3 2 3 6 6 8 6 [] [] [] [] [4] [4] [] [] [] [2, 7] rfl rfl hG (hp 0 (by kernel_rfl)) (hp 1 (by kernel_rfl)) (hp 2 (by kernel_rfl)) (hp 3 (by kernel_rfl)) (hp 5 (by kernel_rfl)) (hp 7 (by kernel_rfl)) (hp 8 (by kernel_rfl)) (hp 9 (by kernel_rfl)) (hp 10 (by kernel_rfl)) (hp 12 (by kernel_rfl))
    · obtain rfl := Option.some.inj ho
      exact st_store 2 80 [(-1, []), (-1, []), (2, []), (3, []), (2, [4]), (3, [4]), (6, []), (6, []), (8, []), (6, [2, 7])] rfl rfl rfl h23 hW rfl hG he2 (hp 13 (by kernel_rfl))
  · intro a w' cs hA hh hT hB
    have he2 : a.eval (.tmp 2) = .pointer (some ⟨w.heap.size, 0, none⟩) := same_eval hA 2 (by kernel_rfl) rfl
    go_wp2
    exact bodyPost_ret (v := .agg cs.toArray) (results_cell_row rfl _ _ w.heap.size 62 _ (0, 0) _ he2 hh Try.underlying62 rfl (by rw [info62]; simp [hT.one.1])) hA.defers ⟨⟨cs, rfl, hT.weak (by omega)⟩, hB⟩
end Go.Proofs.Ytjgndagejogfnaa.F
