import Derived.Test.YtjgndagejogfnaaT2
set_option linter.unusedVariables false
set_option linter.unusedSimpArgs false
namespace Go.Proofs.Ytjgndagejogfnaa.F
open Go.RowKit Go.Proofs.Ytjgndagejogfnaa.K
set_option maxRecDepth 100000 in
set_option maxHeartbeats 4000000 in
theorem row_4 (w : World) : Calls Try.prog 38 #[.int .i64 4] w (RowR [(-1, []), (-1, []), (-1, []), (-1, []), (4, [10]), (5, [10]), (6, [7]), (6, [7]), (8, [7]), (-1, [])] w) := by
  go_enter Try.func38, Try.ntmps38
  go_wp2_with (go_at_call 45; refine (never45 _).mono ?_; rintro e w1 ⟨rfl, hb⟩)
  have h23 : w.heap.size < w1.heap.size := by have := hb.size; simp at this; omega
  have hW : w.heap.size ≤ w.heap.size := Nat.le_refl _
  have hG0 := gd_start hb rfl
  clear hb
  refine tab_region w.heap.size w1.heap.size 16 [(-1, []), (-1, []), (-1, []), (-1, []), (4, [10]), (5, [10]), (6, [7]), (6, [7]), (8, [7]), (-1, [])] [.ent (-1) [], .ent (-1) [], .ent (-1) [], .ent (-1) [], .row [10], .ent 4 [10], .row [10], .ent 5 [10], .row [7], .ent 6 [7], .row [7], .ent 6 [7], .row [7], .ent 8 [7], .ent (-1) [], .tab [(-1, []), (-1, []), (-1, []), (-1, []), (4, [10]), (5, [10]), (6, [7]), (6, [7]), (8, [7]), (-1, [])], .done [(-1, []), (-1, []), (-1, []), (-1, []), (4, [10]), (5, [10]), (6, [7]), (6, [7]), (8, [7]), (-1, [])]] (by kernel_rfl) (by decide) rfl ?_ h23 hW hG0 ?_ ?_
  · exact done_at (by kernel_rfl)
  · intro i o ho a w' hA hG hp
    have he2 : a.eval (.tmp 2) = .pointer (some ⟨w.heap.size, 0, none⟩) := same_eval hA 2 (by kernel_rfl) rfl
    have he3 : a.eval (.tmp 3) = .pointer (some ⟨w1.heap.size, 0, none⟩) := same_eval hA 3 (by kernel_rfl) rfl
    have hi : i < 17 := (Array.getElem?_eq_some_iff.1 ho).1
    rcases (show i = 0 ∨ i = 1 ∨ i = 2 ∨ i = 3 ∨ i = 4 ∨ i = 5 ∨ i = 6 ∨ i = 7 ∨ i = 8 ∨ i = 9 ∨ i = 10 ∨ i = 11 ∨ i = 12 ∨ i = 13 ∨ i = 14 ∨ i = 15 ∨ i = 16 by omega) with rfl | rfl | rfl | rfl | rfl | rfl | rfl | rfl | rfl | rfl | rfl | rfl | rfl | rfl | rfl | rfl | rfl
    · obtain rfl := Option.some.inj ho
      exact st_load 3 70 rfl rfl hG he3
    · obtain rfl := Option.some.inj ho
      exact st_load 3 71 rfl rfl hG he3
    · obtain rfl := Option.some.inj ho
      exact st_load 3 72 rfl rfl hG he3
    · obtain rfl := Option.some.inj ho
      exact st_load 3 73 rfl rfl hG he3
    · obtain rfl := Option.some.inj ho
      exact st_lit1 10 74 rfl rfl hG
    · obtain rfl := Option.some.inj ho
      exact st_toT 4 74 75 [10] rfl rfl hG (hp 4 (by kernel_rfl))
    · obtain rfl := Option.some.inj ho
      exact st_lit1 10 76 rfl rfl hG
    · obtain rfl := Option.some.inj ho
      exact st_toT 5 76 77 [10] rfl rfl hG (hp 6 (by kernel_rfl))
    · obtain rfl := Option.some.inj ho
      exact st_lit1 7 78 rfl rfl hG
    · obtain rfl := Option.some.inj ho
      exact st_toT 6 78 79 [7] rfl rfl hG (hp 8 (by kernel_rfl))
    · obtain rfl := Option.some.inj ho
      exact st_lit1 7 80 rfl rfl hG
    · obtain rfl := Option.some.inj ho
      exact st_toT 6 80 81 [7] rfl rfl hG (hp 10 (by kernel_rfl))
    · obtain rfl := Option.some.inj ho
      exact st_lit1 7 82 rfl rfl hG
    · obtain rfl := Option.some.inj ho
      exact st_toT 8 82 83 [7] rfl rfl hG (hp 12 (by kernel_rfl))
    · obtain rfl := Option.some.inj ho
      exact st_load 3 84 rfl rfl hG he3
    · obtain rfl := Option.some.inj ho
      exact st_build 70 71 72 73 75 77 79 81 83 84 85 (-1) (-1) (-1) (-1) 4 5 6 6 8 (-1) [] [] [] [] [10] [10] [7] [7] [7] [] rfl rfl hG (hp 0 (by kernel_rfl)) (hp 1 (by kernel_rfl)) (hp 2 (by kernel_rfl)) (hp 3 (by kernel_rfl)) (hp 5 (by kernel_rfl)) (hp 7 (by kernel_rfl)) (hp 9 (by kernel_rfl)) (hp 11 (by kernel_rfl)) (hp 13 (by kernel_rfl)) (hp 14 (by kernel_rfl))
    · obtain rfl := Option.some.inj ho
      exact st_store 2 85 [(-1, []), (-1, []), (-1, []), (-1, []), (4, [10]), (5, [10]), (6, [7]), (6, [7]), (8, [7]), (-1, [])] rfl rfl rfl h23 hW rfl hG he2 (hp 15 (by kernel_rfl))
  · intro a w' cs hA hh hT hB
    have he2 : a.eval (.tmp 2) = .pointer (some ⟨w.heap.size, 0, none⟩) := same_eval hA 2 (by kernel_rfl) rfl
    go_wp2
    exact bodyPost_ret (v := .agg cs.toArray) (results_cell_row rfl _ _ w.heap.size 62 _ (0, 0) _ he2 hh Try.underlying62 rfl (by rw [info62]; simp [hT.one.1])) hA.defers ⟨⟨cs, rfl, hT.weak (by omega)⟩, hB⟩
set_option maxRecDepth 100000 in
set_option maxHeartbeats 4000000 in
theorem row_5 (w : World) : Calls Try.prog 38 #[.int .i64 5] w (RowR [(-1, []), (-1, []), (-1, []), (-1, []), (2, [4]), (3, [4]), (3, [4]), (3, [4]), (3, [4]), (-1, [])] w) := by
  go_enter Try.func38, Try.ntmps38
  go_wp2_with (go_at_call 45; refine (never45 _).mono ?_; rintro e w1 ⟨rfl, hb⟩)
  have h23 : w.heap.size < w1.heap.size := by have := hb.size; simp at this; omega
  have hW : w.heap.size ≤ w.heap.size := Nat.le_refl _
  have hG0 := gd_start hb rfl
  clear hb
  refine tab_region w.heap.size w1.heap.size 16 [(-1, []), (-1, []), (-1, []), (-1, []), (2, [4]), (3, [4]), (3, [4]), (3, [4]), (3, [4]), (-1, [])] [.ent (-1) [], .ent (-1) [], .ent (-1) [], .ent (-1) [], .row [4], .ent 2 [4], .row [4], .ent 3 [4], .row [4], .ent 3 [4], .row [4], .ent 3 [4], .row [4], .ent 3 [4], .ent (-1) [], .tab [(-1, []), (-1, []), (-1, []), (-1, []), (2, [4]), (3, [4]), (3, [4]), (3, [4]), (3, [4]), (-1, [])], .done [(-1, []), (-1, []), (-1, []), (-1, []), (2, [4]), (3, [4]), (3, [4]), (3, [4]), (3, [4]), (-1, [])]] (by kernel_rfl) (by decide) rfl ?_ h23 hW hG0 ?_ ?_
  · exact done_at (by kernel_rfl)
  · intro i o ho a w' hA hG hp
    have he2 : a.eval (.tmp 2) = .pointer (some ⟨w.heap.size, 0, none⟩) := same_eval hA 2 (by kernel_rfl) rfl
    have he3 : a.eval (.tmp 3) = .pointer (some ⟨w1.heap.size, 0, none⟩) := same_eval hA 3 (by kernel_rfl) rfl
    have hi : i < 17 := (Array.getElem?_eq_some_iff.1 ho).1
    rcases (show i = 0 ∨ i = 1 ∨ i = 2 ∨ i = 3 ∨ i = 4 ∨ i = 5 ∨ i = 6 ∨ i = 7 ∨ i = 8 ∨ i = 9 ∨ i = 10 ∨ i = 11 ∨ i = 12 ∨ i = 13 ∨ i = 14 ∨ i = 15 ∨ i = 16 by omega) with rfl | rfl | rfl | rfl | rfl | rfl | rfl | rfl | rfl | rfl | rfl | rfl | rfl | rfl | rfl | rfl | rfl
    · obtain rfl := Option.some.inj ho
      exact st_load 3 88 rfl rfl hG he3
    · obtain rfl := Option.some.inj ho
      exact st_load 3 89 rfl rfl hG he3
    · obtain rfl := Option.some.inj ho
      exact st_load 3 90 rfl rfl hG he3
    · obtain rfl := Option.some.inj ho
      exact st_load 3 91 rfl rfl hG he3
    · obtain rfl := Option.some.inj ho
      exact st_lit1 4 92 rfl rfl hG
    · obtain rfl := Option.some.inj ho
      exact st_toT 2 92 93 [4] rfl rfl hG (hp 4 (by kernel_rfl))
    · obtain rfl := Option.some.inj ho
      exact st_lit1 4 94 rfl rfl hG
    · obtain rfl := Option.some.inj ho
      exact st_toT 3 94 95 [4] rfl rfl hG (hp 6 (by kernel_rfl))
    · obtain rfl := Option.some.inj ho
      exact st_lit1 4 96 rfl rfl hG
    · obtain rfl := Option.some.inj ho
      exact st_toT 3 96 97 [4] rfl rfl hG (hp 8 (by kernel_rfl))
    · obtain rfl := Option.some.inj ho
      exact st_lit1 4 98 rfl rfl hG
    · obtain rfl := Option.some.inj ho
      exact st_toT 3 98 99 [4] rfl rfl hG (hp 10 (by kernel_rfl))
    · obtain rfl := Option.some.inj ho
      exact st_lit1 4 100 rfl rfl hG
    · obtain rfl := Option.some.inj ho
      exact st_toT 3 100 101 [4] rfl rfl hG (hp 12 (by kernel_rfl))
    · obtain rfl := Option.some.inj ho
      exact st_load 3 102 rfl rfl hG he3
    · obtain rfl := Option.some.inj ho
      exact st_build 88 89 90 91 93 95 97 99 101 102 103 (-1) (-1) (-1) (-1) 2 3 3 3 3 (-1) [] [] [] [] [4] [4] [4] [4] [4] [] rfl rfl hG (hp 0 (by kernel_rfl)) (hp 1 (by kernel_rfl)) (hp 2 (by kernel_rfl)) (hp 3 (by kernel_rfl)) (hp 5 (by kernel_rfl)) (hp 7 (by kernel_rfl)) (hp 9 (by kernel_rfl)) (hp 11 (by kernel_rfl)) (hp 13 (by kernel_rfl)) (hp 14 (by kernel_rfl))
    · obtain rfl := Option.some.inj ho
      exact st_store 2 103 [(-1, []), (-1, []), (-1, []), (-1, []), (2, [4]), (3, [4]), (3, [4]), (3, [4]), (3, [4]), (-1, [])] rfl rfl rfl h23 hW rfl hG he2 (hp 15 (by kernel_rfl))
  · intro a w' cs hA hh hT hB
    have he2 : a.eval (.tmp 2) = .pointer (some ⟨w.heap.size, 0, none⟩) := same_eval hA 2 (by kernel_rfl) rfl
    go_wp2
    exact bodyPost_ret (v := .agg cs.toArray) (results_cell_row rfl _ _ w.heap.size 62 _ (0, 0) _ he2 hh Try.underlying62 rfl (by rw [info62]; simp [hT.one.1])) hA.defers ⟨⟨cs, rfl, hT.weak (by omega)⟩, hB⟩
set_option maxRecDepth 100000 in
set_option maxHeartbeats 4000000 in
theorem row_6 (w : World) : Calls Try.prog 38 #[.int .i64 6] w (RowR [(-1, []), (-1, []), (2, [11]), (8, [5, 7, 8]), (4, []), (5, []), (8, [8]), (9, [8, 1]), (8, [8]), (8, [2, 7, 8])] w) := by
  go_enter Try.func38, Try.ntmps38
  go_wp2_with (go_at_call 45; refine (never45 _).mono ?_; rintro e w1 ⟨rfl, hb⟩)
  have h23 : w.heap.size < w1.heap.size := by have := hb.size; simp at this; omega
  have hW : w.heap.size ≤ w.heap.size := Nat.le_refl _
  have hG0 := gd_start hb rfl
  clear hb
  refine tab_region w.heap.size w1.heap.size 17 [(-1, []), (-1, []), (2, [11]), (8, [5, 7, 8]), (4, []), (5, []), (8, [8]), (9, [8, 1]), (8, [8]), (8, [2, 7, 8])] [.ent (-1) [], .ent (-1) [], .row [11], .ent 2 [11], .row [5, 7, 8], .ent 8 [5, 7, 8], .ent 4 [], .ent 5 [], .row [8], .ent 8 [8], .row [8, 1], .ent 9 [8, 1], .row [8], .ent 8 [8], .row [2, 7, 8], .ent 8 [2, 7, 8], .tab [(-1, []), (-1, []), (2, [11]), (8, [5, 7, 8]), (4, []), (5, []), (8, [8]), (9, [8, 1]), (8, [8]), (8, [2, 7, 8])], .done [(-1, []), (-1, []), (2, [11]), (8, [5, 7, 8]), (4, []), (5, []), (8, [8]), (9, [8, 1]), (8, [8]), (8, [2, 7, 8])]] (by kernel_rfl) (by decide) rfl ?_ h23 hW hG0 ?_ ?_
  · exact done_at (by kernel_rfl)
  · intro i o ho a w' hA hG hp
    have he2 : a.eval (.tmp 2) = .pointer (some ⟨w.heap.size, 0, none⟩) := same_eval hA 2 (by kernel_rfl) rfl
    have he3 : a.eval (.tmp 3) = .pointer (some ⟨w1.heap.size, 0, none⟩) := same_eval hA 3 (by kernel_rfl) rfl
    have hi : i < 18 := (Array.getElem?_eq_some_iff.1 ho).1
    rcases (show i = 0 ∨ i = 1 ∨ i = 2 ∨ i = 3 ∨ i = 4 ∨ i = 5 ∨ i = 6 ∨ i = 7 ∨ i = 8 ∨ i = 9 ∨ i = 10 ∨ i = 11 ∨ i = 12 ∨ i = 13 ∨ i = 14 ∨ i = 15 ∨ i = 16 ∨ i = 17 by omega) with rfl | rfl | rfl | rfl | rfl | rfl | rfl | rfl | rfl | rfl | rfl | rfl | rfl | rfl | rfl | rfl | rfl | rfl
    · obtain rfl := Option.some.inj ho
      exact st_load 3 106 rfl rfl hG he3
    · obtain rfl := Option.some.inj ho
      exact st_load 3 107 rfl rfl hG he3
    · obtain rfl := Option.some.inj ho
      exact st_lit1 11 108 rfl rfl hG
    · obtain rfl := Option.some.inj ho
      exact st_toT 2 108 109 [11] rfl rfl hG (hp 2 (by kernel_rfl))
    · obtain rfl := Option.some.inj ho
      exact st_lit3 5 7 8 110 rfl rfl hG
    · obtain rfl := Option.some.inj ho
      exact st_toT 8 110 111 [5, 7, 8] rfl rfl hG (hp 4 (by kernel_rfl))
    · obtain rfl := Option.some.inj ho
      exact st_to0 4 112 rfl rfl hG
    · obtain rfl := Option.some.inj ho
      exact st_to0 5 113 rfl rfl hG
    · obtain rfl := Option.some.inj ho
      exact st_lit1 8 114 rfl rfl hG
    · obtain rfl := Option.some.inj ho
      exact st_toT 8 114 115 [8] rfl rfl hG (hp 8 (by kernel_rfl))
    · obtain rfl := Option.some.inj ho
      exact st_lit2 8 1 116 rfl rfl hG
    · obtain rfl := Option.some.inj ho
      exact st_toT 9 116 117 [8, 1] rfl rfl hG (hp 10 (by kernel_rfl))
    · obtain rfl := Option.some.inj ho
      exact st_lit1 8 118 rfl rfl hG
    · obtain rfl := Option.some.inj ho
      exact st_toT 8 118 119 [8] rfl rfl hG (hp 12 (by kernel_rfl))
    · obtain rfl := Option.some.inj ho
      exact st_lit3 2 7 8 120 rfl rfl hG
    · obtain rfl := Option.some.inj ho
      exact st_toT 8 120 121 [2, 7, 8] rfl rfl hG (hp 14 (by kernel_rfl))
    · obtain rfl := Option.some.inj ho
      exact st_build 106 107 109 111 112 113 115 117 119 121 122 (-1) (-1) 2 8 4 5 8 9 8 8 [] [] [11] [5, 7, 8] [] [] [8] [8, 1] [8] [2, 7, 8] rfl rfl hG (hp 0 (by kernel_rfl)) (hp 1 (by kernel_rfl)) (hp 3 (by kernel_rfl)) (hp 5 (by kernel_rfl)) (hp 6 (by kernel_rfl)) (hp 7 (by kernel_rfl)) (hp 9 (by kernel_rfl)) (hp 11 (by kernel_rfl)) (hp 13 (by kernel_rfl)) (hp 15 (by kernel_rfl))
    · obtain rfl := Option.some.inj ho
      exact st_store 2 122 [(-1, []), (-1, []), (2, [11]), (8, [5, 7, 8]), (4, []), (5, []), (8, [8]), (9, [8, 1]), (8, [8]), (8, [2, 7, 8])] rfl rfl rfl h23 hW rfl hG he2 (hp 16 (by kernel_rfl))
  · intro a w' cs hA hh hT hB
    have he2 : a.eval (.tmp 2) = .pointer (some ⟨w.heap.size, 0, none⟩) := same_eval hA 2 (by kernel_rfl) rfl
    go_wp2
    exact bodyPost_ret (v := .agg cs.toArray) (results_cell_row rfl _ _ w.heap.size 62 _ (0, 0) _ he2 hh Try.underlying62 rfl (by rw [info62]; simp [hT.one.1])) hA.defers ⟨⟨cs, rfl, hT.weak (by omega)⟩, hB⟩
set_option maxRecDepth 100000 in
set_option maxHeartbeats 4000000 in
theorem row_7 (w : World) : Calls Try.prog 38 #[.int .i64 7] w (RowR [(-1, []), (-1, []), (2, [11]), (6, [5, 7, 9]), (4, []), (5, []), (6, [9]), (7, [9]), (6, [9]), (6, [2, 7, 9])] w) := by
  go_enter Try.func38, Try.ntmps38
  go_wp2_with (go_at_call 45; refine (never45 _).mono ?_; rintro e w1 ⟨rfl, hb⟩)
  have h23 : w.heap.size < w1.heap.size := by have := hb.size; simp at this; omega
  have hW : w.heap.size ≤ w.heap.size := Nat.le_refl _
  have hG0 := gd_start hb rfl
  clear hb
  refine tab_region w.heap.size w1.heap.size 17 [(-1, []), (-1, []), (2, [11]), (6, [5, 7, 9]), (4, []), (5, []), (6, [9]), (7, [9]), (6, [9]), (6, [2, 7, 9])] [.ent (-1) [], .ent (-1) [], .row [11], .ent 2 [11], .row [5, 7, 9], .ent 6 [5, 7, 9], .ent 4 [], .ent 5 [], .row [9], .ent 6 [9], .row [9], .ent 7 [9], .row [9], .ent 6 [9], .row [2, 7, 9], .ent 6 [2, 7, 9], .tab [(-1, []), (-1, []), (2, [11]), (6, [5, 7, 9]), (4, []), (5, []), (6, [9]), (7, [9]), (6, [9]), (6, [2, 7, 9])], .done [(-1, []), (-1, []), (2, [11]), (6, [5, 7, 9]), (4, []), (5, []), (6, [9]), (7, [9]), (6, [9]), (6, [2, 7, 9])]] (by kernel_rfl) (by decide) rfl ?_ h23 hW hG0 ?_ ?_
  · exact done_at (by kernel_rfl)
  · intro i o ho a w' hA hG hp
    have he2 : a.eval (.tmp 2) = .pointer (some ⟨w.heap.size, 0, none⟩) := same_eval hA 2 (by kernel_rfl) rfl
    have he3 : a.eval (.tmp 3) = .pointer (some ⟨w1.heap.size, 0, none⟩) := same_eval hA 3 (by kernel_rfl) rfl
    have hi : i < 18 := (Array.getElem?_eq_some_iff.1 ho).1
    rcases (show i = 0 ∨ i = 1 ∨ i = 2 ∨ i = 3 ∨ i = 4 ∨ i = 5 ∨ i = 6 ∨ i = 7 ∨ i = 8 ∨ i = 9 ∨ i = 10 ∨ i = 11 ∨ i = 12 ∨ i = 13 ∨ i = 14 ∨ i = 15 ∨ i = 16 ∨ i = 17 by omega) with rfl | rfl | rfl | rfl | rfl | rfl | rfl | rfl | rfl | rfl | rfl | rfl | rfl | rfl | rfl | rfl | rfl | rfl
    · obtain rfl := Option.some.inj ho
      exact st_load 3 125 rfl rfl hG he3
    · obtain rfl := Option.some.inj ho
      exact st_load 3 126 rfl rfl hG he3
    · obtain rfl := Option.some.inj ho
      exact st_lit1 11 127 rfl rfl hG
    · obtain rfl := Option.some.inj ho
      exact st_toT 2 127 128 [11] rfl rfl hG (hp 2 (by kernel_rfl))
    · obtain rfl := Option.some.inj ho
      exact st_lit3 5 7 9 129 rfl rfl hG
    · obtain rfl := Option.some.inj ho
      exact st_toT 6 129 130 [5, 7, 9] rfl rfl hG (hp 4 (by kernel_rfl))
    · obtain rfl := Option.some.inj ho
      exact st_to0 4 131 rfl rfl hG
    · obtain rfl := Option.some.inj ho
      exact st_to0 5 132 rfl rfl hG
    · obtain rfl := Option.some.inj ho
      exact st_lit1 9 133 rfl rfl hG
    · obtain rfl := Option.some.inj ho
      exact st_toT 6 133 134 [9] rfl rfl hG (hp 8 (by kernel_rfl))
    · obtain rfl := Option.some.inj ho
      exact st_lit1 9 135 rfl rfl hG
    · obtain rfl := Option.some.inj ho
      exact st_toT 7 135 136 [9] rfl rfl hG (hp 10 (by kernel_rfl))
    · obtain rfl := Option.some.inj ho
      exact st_lit1 9 137 rfl rfl hG
    · obtain rfl := Option.some.inj ho
      exact st_toT 6 137 138 [9] rfl rfl hG (hp 12 (by kernel_rfl))
    · obtain rfl := Option.some.inj ho
      exact st_lit3 2 7 9 139 rfl rfl hG
    · obtain rfl := Option.some.inj ho
      exact st_toT 6 139 140 [2, 7, 9] rfl rfl hG (hp 14 (by kernel_rfl))
    · obtain rfl := Option.some.inj ho
      exact st_build 125 126 128 130 131 132 134 136 138 140 141 (-1) (-1) 2 6 4 5 6 7 6 6 [] [] [11] [5, 7, 9] [] [] [9] [9] [9] [2, 7, 9] rfl rfl hG (hp 0 (by kernel_rfl)) (hp 1 (by kernel_rfl)) (hp 3 (by kernel_rfl)) (hp 5 (by kernel_rfl)) (hp 6 (by kernel_rfl)) (hp 7 (by kernel_rfl)) (hp 9 (by kernel_rfl)) (hp 11 (by kernel_rfl)) (hp 13 (by kernel_rfl)) (hp 15 (by kernel_rfl))
    · obtain rfl := Option.some.inj ho
      exact st_store 2 141 [(-1, []), (-1, []), (2, [11]), (6, [5, 7, 9]), (4, []), (5, []), (6, [9]), (7, [9]), (6, [9]), (6, [2, 7, 9])] rfl rfl rfl h23 hW rfl hG he2 (hp 16 (by kernel_rfl))
  · intro a w' cs hA hh hT hB
    have he2 : a.eval (.tmp 2) = .pointer (some ⟨w.heap.size, 0, none⟩) := same_eval hA 2 (by kernel_rfl) rfl
    go_wp2
    exact bodyPost_ret (v := .agg cs.toArray) (results_cell_row rfl _ _ w.heap.size 62 _ (0, 0) _ he2 hh Try.underlying62 rfl (by rw [info62]; simp [hT.one.1])) hA.defers ⟨⟨cs, rfl, hT.weak (by omega)⟩, hB⟩
end Go.Proofs.Ytjgndagejogfnaa.F
