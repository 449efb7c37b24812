import Derived.Test.YtjgndagejogfnaaT2
set_option linter.unusedVariables false
set_option linter.unusedSimpArgs false
namespace Go.Proofs.Ytjgndagejogfnaa.F
open Go.RowKit Go.Proofs.Ytjgndagejogfnaa.K
set_option maxRecDepth 100000 in
set_option maxHeartbeats 4000000 in
theorem later_12 (w : World) : Calls Try.prog 47 #[.int .i64 12] w (RowR [(-1, []), (-1, []), (2, [12]), (3, [12]), (4, [12]), (5, [12]), (6, [12]), (7, [12]), (8, [12]), (9, [12])] w) := by
  go_enter Try.func47, Try.ntmps47
  go_wp2_with (go_at_call 45; refine (never45 _).mono ?_; rintro e w1 ⟨rfl, hb⟩)
  have h23 : w.heap.size < w1.heap.size := by have := hb.size; simp at this; omega
  have hW : w.heap.size ≤ w.heap.size := Nat.le_refl _
  have hG0 := gd_start hb rfl
  clear hb
  refine tab_region w.heap.size w1.heap.size 19 [(-1, []), (-1, []), (2, [12]), (3, [12]), (4, [12]), (5, [12]), (6, [12]), (7, [12]), (8, [12]), (9, [12])] [.ent (-1) [], .ent (-1) [], .row [12], .ent 2 [12], .row [12], .ent 3 [12], .row [12], .ent 4 [12], .row [12], .ent 5 [12], .row [12], .ent 6 [12], .row [12], .ent 7 [12], .row [12], .ent 8 [12], .row [12], .ent 9 [12], .tab [(-1, []), (-1, []), (2, [12]), (3, [12]), (4, [12]), (5, [12]), (6, [12]), (7, [12]), (8, [12]), (9, [12])], .done [(-1, []), (-1, []), (2, [12]), (3, [12]), (4, [12]), (5, [12]), (6, [12]), (7, [12]), (8, [12]), (9, [12])]] (by kernel_rfl) (by decide) rfl ?_ h23 hW hG0 ?_ ?_
  · exact done_at (by kernel_rfl)
  · intro i o ho a w' hA hG hp
    have he2 : a.eval (.tmp 2) = .pointer (some ⟨w.heap.size, 0, none⟩) := same_eval hA 2 (by kernel_rfl) rfl
    have he3 : a.eval (.tmp 3) = .pointer (some ⟨w1.heap.size, 0, none⟩) := same_eval hA 3 (by kernel_rfl) rfl
    have hi : i < 20 := (Array.getElem?_eq_some_iff.1 ho).1
    rcases (show i = 0 ∨ i = 1 ∨ i = 2 ∨ i = 3 ∨ i = 4 ∨ i = 5 ∨ i = 6 ∨ i = 7 ∨ i = 8 ∨ i = 9 ∨ i = 10 ∨ i = 11 ∨ i = 12 ∨ i = 13 ∨ i = 14 ∨ i = 15 ∨ i = 16 ∨ i = 17 ∨ i = 18 ∨ i = 19 by omega) with rfl | rfl | rfl | rfl | rfl | rfl | rfl | rfl | rfl | rfl | rfl | rfl | rfl | rfl | rfl | rfl | rfl | rfl | rfl | rfl
    · obtain rfl := Option.some.inj ho
      exact st_load 3 83 rfl rfl hG he3
    · obtain rfl := Option.some.inj ho
      exact st_load 3 84 rfl rfl hG he3
    · obtain rfl := Option.some.inj ho
      exact st_lit1 12 85 rfl rfl hG
    · obtain rfl := Option.some.inj ho
      exact st_toT 2 85 86 [12] rfl rfl hG (hp 2 (by kernel_rfl))
    · obtain rfl := Option.some.inj ho
      exact st_lit1 12 87 rfl rfl hG
    · obtain rfl := Option.some.inj ho
      exact st_toT 3 87 88 [12] rfl rfl hG (hp 4 (by kernel_rfl))
    · obtain rfl := Option.some.inj ho
      exact st_lit1 12 89 rfl rfl hG
    · obtain rfl := Option.some.inj ho
      exact st_toT 4 89 90 [12] rfl rfl hG (hp 6 (by kernel_rfl))
    · obtain rfl := Option.some.inj ho
      exact st_lit1 12 91 rfl rfl hG
    · obtain rfl := Option.some.inj ho
      exact st_toT 5 91 92 [12] rfl rfl hG (hp 8 (by kernel_rfl))
    · obtain rfl := Option.some.inj ho
      exact st_lit1 12 93 rfl rfl hG
    · obtain rfl := Option.some.inj ho
      exact st_toT 6 93 94 [12] rfl rfl hG (hp 10 (by kernel_rfl))
    · obtain rfl := Option.some.inj ho
      exact st_lit1 12 95 rfl rfl hG
    · obtain rfl := Option.some.inj ho
      exact st_toT 7 95 96 [12] rfl rfl hG (hp 12 (by kernel_rfl))
    · obtain rfl := Option.some.inj ho
      exact st_lit1 12 97 rfl rfl hG
    · obtain rfl := Option.some.inj ho
      exact st_toT 8 97 98 [12] rfl rfl hG (hp 14 (by kernel_rfl))
    · obtain rfl := Option.some.inj ho
      exact st_lit1 12 99 rfl rfl hG
    · obtain rfl := Option.some.inj ho
      exact st_toT 9 99 100 [12] rfl rfl hG (hp 16 (by kernel_rfl))
    · obtain rfl := Option.some.inj ho
      exact st_build 83 84 86 88 90 92 94 96 98 100 101 (-1) (-1) 2 3 4 5 6 7 8 9 [] [] [12] [12] [12] [12] [12] [12] [12] [12] rfl rfl hG (hp 0 (by kernel_rfl)) (hp 1 (by kernel_rfl)) (hp 3 (by kernel_rfl)) (hp 5 (by kernel_rfl)) (hp 7 (by kernel_rfl)) (hp 9 (by kernel_rfl)) (hp 11 (by kernel_rfl)) (hp 13 (by kernel_rfl)) (hp 15 (by kernel_rfl)) (hp 17 (by kernel_rfl))
    · obtain rfl := Option.some.inj ho
      exact st_store 2 101 [(-1, []), (-1, []), (2, [12]), (3, [12]), (4, [12]), (5, [12]), (6, [12]), (7, [12]), (8, [12]), (9, [12])] rfl rfl rfl h23 hW rfl hG he2 (hp 18 (by kernel_rfl))
  · intro a w' cs hA hh hT hB
    have he2 : a.eval (.tmp 2) = .pointer (some ⟨w.heap.size, 0, none⟩) := same_eval hA 2 (by kernel_rfl) rfl
    go_wp2
    exact bodyPost_ret (v := .agg cs.toArray) (results_cell_row rfl _ _ w.heap.size 62 _ (0, 0) _ he2 hh Try.underlying62 rfl (by rw [info62]; simp [hT.one.1])) hA.defers ⟨⟨cs, rfl, hT.weak (by omega)⟩, hB⟩
set_option maxRecDepth 100000 in
set_option maxHeartbeats 4000000 in
theorem later_13 (w : World) : Calls Try.prog 47 #[.int .i64 13] w (RowR [(-1, []), (-1, []), (2, []), (3, []), (4, []), (5, []), (6, []), (6, []), (8, []), (9, [])] w) := by
  go_enter Try.func47, Try.ntmps47
  go_wp2_with (go_at_call 45; refine (never45 _).mono ?_; rintro e w1 ⟨rfl, hb⟩)
  have h23 : w.heap.size < w1.heap.size := by have := hb.size; simp at this; omega
  have hW : w.heap.size ≤ w.heap.size := Nat.le_refl _
  have hG0 := gd_start hb rfl
  clear hb
  refine tab_region w.heap.size w1.heap.size 11 [(-1, []), (-1, []), (2, []), (3, []), (4, []), (5, []), (6, []), (6, []), (8, []), (9, [])] [.ent (-1) [], .ent (-1) [], .ent 2 [], .ent 3 [], .ent 4 [], .ent 5 [], .ent 6 [], .ent 6 [], .ent 8 [], .ent 9 [], .tab [(-1, []), (-1, []), (2, []), (3, []), (4, []), (5, []), (6, []), (6, []), (8, []), (9, [])], .done [(-1, []), (-1, []), (2, []), (3, []), (4, []), (5, []), (6, []), (6, []), (8, []), (9, [])]] (by kernel_rfl) (by decide) rfl ?_ h23 hW hG0 ?_ ?_
  · exact done_at (by kernel_rfl)
  · intro i o ho a w' hA hG hp
    have he2 : a.eval (.tmp 2) = .pointer (some ⟨w.heap.size, 0, none⟩) := same_eval hA 2 (by kernel_rfl) rfl
    have he3 : a.eval (.tmp 3) = .pointer (some ⟨w1.heap.size, 0, none⟩) := same_eval hA 3 (by kernel_rfl) rfl
    have hi : i < 12 := (Array.getElem?_eq_some_iff.1 ho).1
    rcases (show i = 0 ∨ i = 1 ∨ i = 2 ∨ i = 3 ∨ i = 4 ∨ i = 5 ∨ i = 6 ∨ i = 7 ∨ i = 8 ∨ i = 9 ∨ i = 10 ∨ i = 11 by omega) with rfl | rfl | rfl | rfl | rfl | rfl | rfl | rfl | rfl | rfl | rfl | rfl
    · obtain rfl := Option.some.inj ho
      exact st_load 3 104 rfl rfl hG he3
    · obtain rfl := Option.some.inj ho
      exact st_load 3 105 rfl rfl hG he3
    · obtain rfl := Option.some.inj ho
      exact st_to0 2 106 rfl rfl hG
    · obtain rfl := Option.some.inj ho
      exact st_to0 3 107 rfl rfl hG
    · obtain rfl := Option.some.inj ho
      exact st_to0 4 108 rfl rfl hG
    · obtain rfl := Option.some.inj ho
      exact st_to0 5 109 rfl rfl hG
    · obtain rfl := Option.some.inj ho
      exact st_to0 6 110 rfl rfl hG
    · obtain rfl := Option.some.inj ho
      exact st_to0 6 111 rfl rfl hG
    · obtain rfl := Option.some.inj ho
      exact st_to0 8 112 rfl rfl hG
    · obtain rfl := Option.some.inj ho
      exact st_to0 9 113 rfl rfl hG
    · obtain rfl := Option.some.inj ho
      exact st_build 104 105 106 107 108 109 110 111 112 113 114 (-1) (-1) 2 3 4 5 6 6 8 9 [] [] [] [] [] [] [] [] [] [] rfl rfl hG (hp 0 (by kernel_rfl)) (hp 1 (by kernel_rfl)) (hp 2 (by kernel_rfl)) (hp 3 (by kernel_rfl)) (hp 4 (by kernel_rfl)) (hp 5 (by kernel_rfl)) (hp 6 (by kernel_rfl)) (hp 7 (by kernel_rfl)) (hp 8 (by kernel_rfl)) (hp 9 (by kernel_rfl))
    · obtain rfl := Option.some.inj ho
      exact st_store 2 114 [(-1, []), (-1, []), (2, []), (3, []), (4, []), (5, []), (6, []), (6, []), (8, []), (9, [])] rfl rfl rfl h23 hW rfl hG he2 (hp 10 (by kernel_rfl))
  · intro a w' cs hA hh hT hB
    have he2 : a.eval (.tmp 2) = .pointer (some ⟨w.heap.size, 0, none⟩) := same_eval hA 2 (by kernel_rfl) rfl
    go_wp2
    exact bodyPost_ret (v := .agg cs.toArray) (results_cell_row rfl _ _ w.heap.size 62 _ (0, 0) _ he2 hh Try.underlying62 rfl (by rw [info62]; simp [hT.one.1])) hA.defers ⟨⟨cs, rfl, hT.weak (by omega)⟩, hB⟩
set_option maxRecDepth 100000 in
set_option maxHeartbeats 4000000 in
theorem later_14 (w : World) : Calls Try.prog 47 #[.int .i64 14] w (RowR [(-1, []), (-1, []), (2, [4]), (3, [4]), (2, [4]), (3, [4]), (3, [4]), (3, [4]), (3, [4]), (5, [2, 5, 10])] w) := by
  go_enter Try.func47, Try.ntmps47
  go_wp2_with (go_at_call 45; refine (never45 _).mono ?_; rintro e w1 ⟨rfl, hb⟩)
  have h23 : w.heap.size < w1.heap.size := by have := hb.size; simp at this; omega
  have hW : w.heap.size ≤ w.heap.size := Nat.le_refl _
  have hG0 := gd_start hb rfl
  clear hb
  refine tab_region w.heap.size w1.heap.size 19 [(-1, []), (-1, []), (2, [4]), (3, [4]), (2, [4]), (3, [4]), (3, [4]), (3, [4]), (3, [4]), (5, [2, 5, 10])] [.ent (-1) [], .ent (-1) [], .row [4], .ent 2 [4], .row [4], .ent 3 [4], .row [4], .ent 2 [4], .row [4], .ent 3 [4], .row [4], .ent 3 [4], .row [4], .ent 3 [4], .row [4], .ent 3 [4], .row [2, 5, 10], .ent 5 [2, 5, 10], .tab [(-1, []), (-1, []), (2, [4]), (3, [4]), (2, [4]), (3, [4]), (3, [4]), (3, [4]), (3, [4]), (5, [2, 5, 10])], .done [(-1, []), (-1, []), (2, [4]), (3, [4]), (2, [4]), (3, [4]), (3, [4]), (3, [4]), (3, [4]), (5, [2, 5, 10])]] (by kernel_rfl) (by decide) rfl ?_ h23 hW hG0 ?_ ?_
  · exact done_at (by kernel_rfl)
  · intro i o ho a w' hA hG hp
    have he2 : a.eval (.tmp 2) = .pointer (some ⟨w.heap.size, 0, none⟩) := same_eval hA 2 (by kernel_rfl) rfl
    have he3 : a.eval (.tmp 3) = .pointer (some ⟨w1.heap.size, 0, none⟩) := same_eval hA 3 (by kernel_rfl) rfl
    have hi : i < 20 := (Array.getElem?_eq_some_iff.1 ho).1
    rcases (show i = 0 ∨ i = 1 ∨ i = 2 ∨ i = 3 ∨ i = 4 ∨ i = 5 ∨ i = 6 ∨ i = 7 ∨ i = 8 ∨ i = 9 ∨ i = 10 ∨ i = 11 ∨ i = 12 ∨ i = 13 ∨ i = 14 ∨ i = 15 ∨ i = 16 ∨ i = 17 ∨ i = 18 ∨ i = 19 by omega) with rfl | rfl | rfl | rfl | rfl | rfl | rfl | rfl | rfl | rfl | rfl | rfl | rfl | rfl | rfl | rfl | rfl | rfl | rfl | rfl
    · obtain rfl := Option.some.inj ho
      exact st_load 3 117 rfl rfl hG he3
    · obtain rfl := Option.some.inj ho
      exact st_load 3 118 rfl rfl hG he3
    · obtain rfl := Option.some.inj ho
      exact st_lit1 4 119 rfl rfl hG
    · obtain rfl := Option.some.inj ho
      exact st_toT 2 119 120 [4] rfl rfl hG (hp 2 (by kernel_rfl))
    · obtain rfl := Option.some.inj ho
      exact st_lit1 4 121 rfl rfl hG
    · obtain rfl := Option.some.inj ho
      exact st_toT 3 121 122 [4] rfl rfl hG (hp 4 (by kernel_rfl))
    · obtain rfl := Option.some.inj ho
      exact st_lit1 4 123 rfl rfl hG
    · obtain rfl := Option.some.inj ho
      exact st_toT 2 123 124 [4] rfl rfl hG (hp 6 (by kernel_rfl))
    · obtain rfl := Option.some.inj ho
      exact st_lit1 4 125 rfl rfl hG
    · obtain rfl := Option.some.inj ho
      exact st_toT 3 125 126 [4] rfl rfl hG (hp 8 (by kernel_rfl))
    · obtain rfl := Option.some.inj ho
      exact st_lit1 4 127 rfl rfl hG
    · obtain rfl := Option.some.inj ho
      exact st_toT 3 127 128 [4] rfl rfl hG (hp 10 (by kernel_rfl))
    · obtain rfl := Option.some.inj ho
      exact st_lit1 4 129 rfl rfl hG
    · obtain rfl := Option.some.inj ho
      exact st_toT 3 129 130 [4] rfl rfl hG (hp 12 (by kernel_rfl))
    · obtain rfl := Option.some.inj ho
      exact st_lit1 4 131 rfl rfl hG
    · obtain rfl := Option.some.inj ho
      exact st_toT 3 131 132 [4] rfl rfl hG (hp 14 (by kernel_rfl))
    · obtain rfl := Option.some.inj ho
      exact st_lit3 2 5 10 133 rfl rfl hG
    · obtain rfl := Option.some.inj ho
      exact st_toT 5 133 134 [2, 5, 10] rfl rfl hG (hp 16 (by kernel_rfl))
    · obtain rfl := Option.some.inj ho
      exact st_build 117 118 120 122 124 126 128 130 132 134 135 (-1) (-1) 2 3 2 3 3 3 3 5 [] [] [4] [4] [4] [4] [4] [4] [4] [2, 5, 10] rfl rfl hG (hp 0 (by kernel_rfl)) (hp 1 (by kernel_rfl)) (hp 3 (by kernel_rfl)) (hp 5 (by kernel_rfl)) (hp 7 (by kernel_rfl)) (hp 9 (by kernel_rfl)) (hp 11 (by kernel_rfl)) (hp 13 (by kernel_rfl)) (hp 15 (by kernel_rfl)) (hp 17 (by kernel_rfl))
    · obtain rfl := Option.some.inj ho
      exact st_store 2 135 [(-1, []), (-1, []), (2, [4]), (3, [4]), (2, [4]), (3, [4]), (3, [4]), (3, [4]), (3, [4]), (5, [2, 5, 10])] rfl rfl rfl h23 hW rfl hG he2 (hp 18 (by kernel_rfl))
  · intro a w' cs hA hh hT hB
    have he2 : a.eval (.tmp 2) = .pointer (some ⟨w.heap.size, 0, none⟩) := same_eval hA 2 (by kernel_rfl) rfl
    go_wp2
    exact bodyPost_ret (v := .agg cs.toArray) (results_cell_row rfl _ _ w.heap.size 62 _ (0, 0) _ he2 hh Try.underlying62 rfl (by rw [info62]; simp [hT.one.1])) hA.defers ⟨⟨cs, rfl, hT.weak (by omega)⟩, hB⟩
set_option maxRecDepth 100000 in
set_option maxHeartbeats 4000000 in
theorem later_15 (w : World) : Calls Try.prog 47 #[.int .i64 15] w (RowR [(-1, []), (-1, []), (2, []), (3, []), (4, []), (5, []), (6, []), (7, []), (8, []), (9, [13])] w) := by
  go_enter Try.func47, Try.ntmps47
  go_wp2_with (go_at_call 45; refine (never45 _).mono ?_; rintro e w1 ⟨rfl, hb⟩)
  have h23 : w.heap.size < w1.heap.size := by have := hb.size; simp at this; omega
  have hW : w.heap.size ≤ w.heap.size := Nat.le_refl _
  have hG0 := gd_start hb rfl
  clear hb
  refine tab_region w.heap.size w1.heap.size 12 [(-1, []), (-1, []), (2, []), (3, []), (4, []), (5, []), (6, []), (7, []), (8, []), (9, [13])] [.ent (-1) [], .ent (-1) [], .ent 2 [], .ent 3 [], .ent 4 [], .ent 5 [], .ent 6 [], .ent 7 [], .ent 8 [], .row [13], .ent 9 [13], .tab [(-1, []), (-1, []), (2, []), (3, []), (4, []), (5, []), (6, []), (7, []), (8, []), (9, [13])], .done [(-1, []), (-1, []), (2, []), (3, []), (4, []), (5, []), (6, []), (7, []), (8, []), (9, [13])]] (by kernel_rfl) (by decide) rfl ?_ h23 hW hG0 ?_ ?_
  · exact done_at (by kernel_rfl)
  · intro i o ho a w' hA hG hp
    have he2 : a.eval (.tmp 2) = .pointer (some ⟨w.heap.size, 0, none⟩) := same_eval hA 2 (by kernel_rfl) rfl
    have he3 : a.eval (.tmp 3) = .pointer (some ⟨w1.heap.size, 0, none⟩) := same_eval hA 3 (by kernel_rfl) rfl
    have hi : i < 13 := (Array.getElem?_eq_some_iff.1 ho).1
    rcases (show i = 0 ∨ i = 1 ∨ i = 2 ∨ i = 3 ∨ i = 4 ∨ i = 5 ∨ i = 6 ∨ i = 7 ∨ i = 8 ∨ i = 9 ∨ i = 10 ∨ i = 11 ∨ i = 12 by omega) with rfl | rfl | rfl | rfl | rfl | rfl | rfl | rfl | rfl | rfl | rfl | rfl | rfl
    · obtain rfl := Option.some.inj ho
      exact st_load 3 136 rfl rfl hG he3
    · obtain rfl := Option.some.inj ho
      exact st_load 3 137 rfl rfl hG he3
    · obtain rfl := Option.some.inj ho
      exact st_to0 2 138 rfl rfl hG
    · obtain rfl := Option.some.inj ho
      exact st_to0 3 139 rfl rfl hG
    · obtain rfl := Option.some.inj ho
      exact st_to0 4 140 rfl rfl hG
    · obtain rfl := Option.some.inj ho
      exact st_to0 5 141 rfl rfl hG
    · obtain rfl := Option.some.inj ho
      exact st_to0 6 142 rfl rfl hG
    · obtain rfl := Option.some.inj ho
      exact st_to0 7 143 rfl rfl hG
    · obtain rfl := Option.some.inj ho
      exact st_to0 8 144 rfl rfl hG
    · obtain rfl := Option.some.inj ho
      exact st_lit1 13 145 rfl rfl hG
    · obtain rfl := Option.some.inj ho
      exact st_toT 9 145 146 [13] rfl rfl hG (hp 9 (by kernel_rfl))
    · obtain rfl := Option.some.inj ho
      exact st_build 136 137 138 139 140 141 142 143 144 146 147 (-1) (-1) 2 3 4 5 6 7 8 9 [] [] [] [] [] [] [] [] [] [13] rfl rfl hG (hp 0 (by kernel_rfl)) (hp 1 (by kernel_rfl)) (hp 2 (by kernel_rfl)) (hp 3 (by kernel_rfl)) (hp 4 (by kernel_rfl)) (hp 5 (by kernel_rfl)) (hp 6 (by kernel_rfl)) (hp 7 (by kernel_rfl)) (hp 8 (by kernel_rfl)) (hp 10 (by kernel_rfl))
    · obtain rfl := Option.some.inj ho
      exact st_store 2 147 [(-1, []), (-1, []), (2, []), (3, []), (4, []), (5, []), (6, []), (7, []), (8, []), (9, [13])] rfl rfl rfl h23 hW rfl hG he2 (hp 11 (by kernel_rfl))
  · intro a w' cs hA hh hT hB
    have he2 : a.eval (.tmp 2) = .pointer (some ⟨w.heap.size, 0, none⟩) := same_eval hA 2 (by kernel_rfl) rfl
    go_wp2
    exact bodyPost_ret (v := .agg cs.toArray) (results_cell_row rfl _ _ w.heap.size 62 _ (0, 0) _ he2 hh Try.underlying62 rfl (by rw [info62]; simp [hT.one.1])) hA.defers ⟨⟨cs, rfl, hT.weak (by omega)⟩, hB⟩
end Go.Proofs.Ytjgndagejogfnaa.F
