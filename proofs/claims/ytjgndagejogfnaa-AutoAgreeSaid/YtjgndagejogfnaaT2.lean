import Derived.Test.YtjgndagejogfnaaT1
import Derived.Deep.RegionWith
import Derived.Deep.RegionHeld3
import Derived.Deep.CutBlock
import Derived.Deep.Cut
import Derived.Deep.CutRange
set_option linter.unusedVariables false
set_option linter.unusedSimpArgs false
namespace Go.Proofs.Ytjgndagejogfnaa.F
open Go.RowKit Go.Proofs.Ytjgndagejogfnaa.K
theorem Own.weak {B B' : Nat} {w : World} {v : Value} {l : List Int} (h : Own B w v l) (hb : B' ≤ B) : Own B' w v l := own_weak h hb
theorem TabR.weak {B B' : Nat} {w : World} {es : List (Int × List Int)} {cs : List Value} (h : TabR B w es cs) (hb : B' ≤ B) : TabR B' w es cs := by
  induction h with
  | nil => exact .nil
  | cons h _ ih => exact .cons (h.weak hb) ih
structure RowR (es : List (Int × List Int)) (w : World) (e : Ending) (w' : World) : Prop where
  ret : ∃ cs, e = .returned (.agg cs.toArray) ∧ TabR w.heap.size w' es cs
  bel : Below w.heap.size w w'
theorem same_eval {ops : Array Oper} {a0 a : Act} (h : SameA ops a0 a) (t : Nat) (hn : (ops.all fun o => o.dst != some t) = true) {v : Value} (hv : a0.eval (.tmp t) = v) : a.eval (.tmp t) = v := by
  rw [← hv]
  simp only [Act.eval]
  have := h.tmps t (fun i o ho e => by
    rw [Array.all_eq_true'] at hn
    have h1 := hn o (Array.mem_of_getElem? ho)
    rw [e] at h1
    simp at h1)
  simp [this]
def Sp.isDone : Sp → Bool
  | .done _ => true
  | _ => false
theorem done_at {sps : List Sp} {st : Nat} (h : ((List.range sps.length).all fun i => !(sps.getD i .any).isDone || i == st) = true) : ∀ i es, sps.getD i .any = .done es → i = st := by
  intro i es he
  rw [List.all_eq_true] at h
  by_cases hi : i < sps.length
  · have := h i (by simpa using hi)
    rw [he] at this
    simpa [Sp.isDone] using this
  · rw [List.getD_eq_getElem?_getD, List.getElem?_eq_none (by omega)] at he
    cases he
def Z62 : Array Value := #[.int .i64 0, .slice none 0 0, .int .i64 0, .slice none 0 0, .int .i64 0, .slice none 0 0, .int .i64 0, .slice none 0 0, .int .i64 0, .slice none 0 0, .int .i64 0, .slice none 0 0, .int .i64 0, .slice none 0 0, .int .i64 0, .slice none 0 0, .int .i64 0, .slice none 0 0, .int .i64 0, .slice none 0 0]
theorem gd_start {w w1 : World} {cs : Array Value} (hb : Below (w.alloc (.cells cs 62)).heap.size (w.alloc (.cells cs 62)) w1) (hs : cs.size = 20) : Gd w.heap.size w1.heap.size w (w1.alloc (.cells #[.int .i64 (-1), .slice none 0 0] 61)) :=
  have hl : w.heap.size < w1.heap.size := by have := hb.size; simp at this; omega
  ⟨⟨cs, (heap_alloc_old _ _ hl).trans ((hb.block _ (by simp)).trans (heap_alloc_new _ _)), hs⟩, heap_alloc_new _ _, below_then ((Below.refl _ w).alloc (Nat.le_refl _) _) (below_then hb ((Below.refl _ w1).alloc (Nat.le_refl _) _))⟩
set_option maxRecDepth 100000 in
set_option maxHeartbeats 4000000 in
theorem row_0 (w : World) : Calls Try.prog 38 #[.int .i64 0] w (RowR [(2, []), (6, [5, 7]), (-1, []), (-1, []), (-1, []), (-1, []), (-1, []), (-1, []), (-1, []), (-1, [])] w) := by
  go_enter Try.func38, Try.ntmps38
  go_wp2_with (go_at_call 45; refine (never45 _).mono ?_; rintro e w1 ⟨rfl, hb⟩)
  have h23 : w.heap.size < w1.heap.size := by have := hb.size; simp at this; omega
  have hW : w.heap.size ≤ w.heap.size := Nat.le_refl _
  have hG0 := gd_start hb rfl
  clear hb
  refine tab_region w.heap.size w1.heap.size 12 [(2, []), (6, [5, 7]), (-1, []), (-1, []), (-1, []), (-1, []), (-1, []), (-1, []), (-1, []), (-1, [])] [.ent 2 [], .row [5, 7], .ent 6 [5, 7], .ent (-1) [], .ent (-1) [], .ent (-1) [], .ent (-1) [], .ent (-1) [], .ent (-1) [], .ent (-1) [], .ent (-1) [], .tab [(2, []), (6, [5, 7]), (-1, []), (-1, []), (-1, []), (-1, []), (-1, []), (-1, []), (-1, []), (-1, [])], .done [(2, []), (6, [5, 7]), (-1, []), (-1, []), (-1, []), (-1, []), (-1, []), (-1, []), (-1, []), (-1, [])]] (by kernel_rfl) (by decide) rfl ?_ h23 hW hG0 ?_ ?_
  · exact done_at (by kernel_rfl)
  · intro i o ho a w' hA hG hp
    have he2 : a.eval (.tmp 2) = .pointer (some ⟨w.heap.size, 0, none⟩) := same_eval hA 2 (by kernel_rfl) rfl
    have he3 : a.eval (.tmp 3) = .pointer (some ⟨w1.heap.size, 0, none⟩) := same_eval hA 3 (by kernel_rfl) rfl
    have hi : i < 13 := (Array.getElem?_eq_some_iff.1 ho).1
    rcases (show i = 0 ∨ i = 1 ∨ i = 2 ∨ i = 3 ∨ i = 4 ∨ i = 5 ∨ i = 6 ∨ i = 7 ∨ i = 8 ∨ i = 9 ∨ i = 10 ∨ i = 11 ∨ i = 12 by omega) with rfl | rfl | rfl | rfl | rfl | rfl | rfl | rfl | rfl | rfl | rfl | rfl | rfl
    · obtain rfl := Option.some.inj ho
      exact st_to0 2 8 rfl rfl hG
    · obtain rfl := Option.some.inj ho
      exact st_lit2 5 7 9 rfl rfl hG
    · obtain rfl := Option.some.inj ho
      exact st_toT 6 9 10 [5, 7] rfl rfl hG (hp 1 (by kernel_rfl))
    · obtain rfl := Option.some.inj ho
      exact st_load 3 11 rfl rfl hG he3
    · obtain rfl := Option.some.inj ho
      exact st_load 3 12 rfl rfl hG he3
    · obtain rfl := Option.some.inj ho
      exact st_load 3 13 rfl rfl hG he3
    · obtain rfl := Option.some.inj ho
      exact st_load 3 14 rfl rfl hG he3
    · obtain rfl := Option.some.inj ho
      exact st_load 3 15 rfl rfl hG he3
    · obtain rfl := Option.some.inj ho
      exact st_load 3 16 rfl rfl hG he3
    · obtain rfl := Option.some.inj ho
      exact st_load 3 17 rfl rfl hG he3
    · obtain rfl := Option.some.inj ho
      exact st_load 3 18 rfl rfl hG he3
    · obtain rfl := Option.some.inj ho
      exact st_build 8 10 11 12 13 14 15 16 17 18 19 2 6 (-1) (-1) (-1) (-1) (-1) (-1) (-1) (-1) [] [5, 7] [] [] [] [] [] [] [] [] rfl rfl hG (hp 0 (by kernel_rfl)) (hp 2 (by kernel_rfl)) (hp 3 (by kernel_rfl)) (hp 4 (by kernel_rfl)) (hp 5 (by kernel_rfl)) (hp 6 (by kernel_rfl)) (hp 7 (by kernel_rfl)) (hp 8 (by kernel_rfl)) (hp 9 (by kernel_rfl)) (hp 10 (by kernel_rfl))
    · obtain rfl := Option.some.inj ho
      exact st_store 2 19 [(2, []), (6, [5, 7]), (-1, []), (-1, []), (-1, []), (-1, []), (-1, []), (-1, []), (-1, []), (-1, [])] rfl rfl rfl h23 hW rfl hG he2 (hp 11 (by kernel_rfl))
  · intro a w' cs hA hh hT hB
    have he2 : a.eval (.tmp 2) = .pointer (some ⟨w.heap.size, 0, none⟩) := same_eval hA 2 (by kernel_rfl) rfl
    go_wp2
    exact bodyPost_ret (v := .agg cs.toArray) (results_cell_row rfl _ _ w.heap.size 62 _ (0, 0) _ he2 hh Try.underlying62 rfl (by rw [info62]; simp [hT.one.1])) hA.defers ⟨⟨cs, rfl, hT.weak (by omega)⟩, hB⟩
set_option maxRecDepth 100000 in
set_option maxHeartbeats 4000000 in
theorem row_1 (w : World) : Calls Try.prog 38 #[.int .i64 1] w (RowR [(-1, []), (-1, []), (0, []), (1, [3]), (0, []), (1, []), (1, []), (1, []), (1, []), (1, [2])] w) := by
  go_enter Try.func38, Try.ntmps38
  go_wp2_with (go_at_call 45; refine (never45 _).mono ?_; rintro e w1 ⟨rfl, hb⟩)
  have h23 : w.heap.size < w1.heap.size := by have := hb.size; simp at this; omega
  have hW : w.heap.size ≤ w.heap.size := Nat.le_refl _
  have hG0 := gd_start hb rfl
  clear hb
  refine tab_region w.heap.size w1.heap.size 13 [(-1, []), (-1, []), (0, []), (1, [3]), (0, []), (1, []), (1, []), (1, []), (1, []), (1, [2])] [.ent (-1) [], .ent (-1) [], .ent 0 [], .row [3], .ent 1 [3], .ent 0 [], .ent 1 [], .ent 1 [], .ent 1 [], .ent 1 [], .row [2], .ent 1 [2], .tab [(-1, []), (-1, []), (0, []), (1, [3]), (0, []), (1, []), (1, []), (1, []), (1, []), (1, [2])], .done [(-1, []), (-1, []), (0, []), (1, [3]), (0, []), (1, []), (1, []), (1, []), (1, []), (1, [2])]] (by kernel_rfl) (by decide) rfl ?_ h23 hW hG0 ?_ ?_
  · exact done_at (by kernel_rfl)
  · intro i o ho a w' hA hG hp
    have he2 : a.eval (.tmp 2) = .pointer (some ⟨w.heap.size, 0, none⟩) := same_eval hA 2 (by kernel_rfl) rfl
    have he3 : a.eval (.tmp 3) = .pointer (some ⟨w1.heap.size, 0, none⟩) := same_eval hA 3 (by kernel_rfl) rfl
    have hi : i < 14 := (Array.getElem?_eq_some_iff.1 ho).1
    rcases (show i = 0 ∨ i = 1 ∨ i = 2 ∨ i = 3 ∨ i = 4 ∨ i = 5 ∨ i = 6 ∨ i = 7 ∨ i = 8 ∨ i = 9 ∨ i = 10 ∨ i = 11 ∨ i = 12 ∨ i = 13 by omega) with rfl | rfl | rfl | rfl | rfl | rfl | rfl | rfl | rfl | rfl | rfl | rfl | rfl | rfl
    · obtain rfl := Option.some.inj ho
      exact st_load 3 22 rfl rfl hG he3
    · obtain rfl := Option.some.inj ho
      exact st_load 3 23 rfl rfl hG he3
    · obtain rfl := Option.some.inj ho
      exact st_to0 0 24 rfl rfl hG
    · obtain rfl := Option.some.inj ho
      exact st_lit1 3 25 rfl rfl hG
    · obtain rfl := Option.some.inj ho
      exact st_toT 1 25 26 [3] rfl rfl hG (hp 3 (by kernel_rfl))
    · obtain rfl := Option.some.inj ho
      exact st_to0 0 27 rfl rfl hG
    · obtain rfl := Option.some.inj ho
      exact st_to0 1 28 rfl rfl hG
    · obtain rfl := Option.some.inj ho
      exact st_to0 1 29 rfl rfl hG
    · obtain rfl := Option.some.inj ho
      exact st_to0 1 30 rfl rfl hG
    · obtain rfl := Option.some.inj ho
      exact st_to0 1 31 rfl rfl hG
    · obtain rfl := Option.some.inj ho
      exact st_lit1 2 32 rfl rfl hG
    · obtain rfl := Option.some.inj ho
      exact st_toT 1 32 33 [2] rfl rfl hG (hp 10 (by kernel_rfl))
    · obtain rfl := Option.some.inj ho
      exact st_build 22 23 24 26 27 28 29 30 31 33 34 (-1) (-1) 0 1 0 1 1 1 1 1 [] [] [] [3] [] [] [] [] [] [2] rfl rfl hG (hp 0 (by kernel_rfl)) (hp 1 (by kernel_rfl)) (hp 2 (by kernel_rfl)) (hp 4 (by kernel_rfl)) (hp 5 (by kernel_rfl)) (hp 6 (by kernel_rfl)) (hp 7 (by kernel_rfl)) (hp 8 (by kernel_rfl)) (hp 9 (by kernel_rfl)) (hp 11 (by kernel_rfl))
    · obtain rfl := Option.some.inj ho
      exact st_store 2 34 [(-1, []), (-1, []), (0, []), (1, [3]), (0, []), (1, []), (1, []), (1, []), (1, []), (1, [2])] rfl rfl rfl h23 hW rfl hG he2 (hp 12 (by kernel_rfl))
  · intro a w' cs hA hh hT hB
    have he2 : a.eval (.tmp 2) = .pointer (some ⟨w.heap.size, 0, none⟩) := same_eval hA 2 (by kernel_rfl) rfl
    go_wp2
    exact bodyPost_ret (v := .agg cs.toArray) (results_cell_row rfl _ _ w.heap.size 62 _ (0, 0) _ he2 hh Try.underlying62 rfl (by rw [info62]; simp [hT.one.1])) hA.defers ⟨⟨cs, rfl, hT.weak (by omega)⟩, hB⟩
set_option maxRecDepth 100000 in
set_option maxHeartbeats 4000000 in
theorem row_2 (w : World) : Calls Try.prog 38 #[.int .i64 2] w (RowR [(1, [3]), (1, []), (6, [5, 7]), (3, []), (5, []), (5, []), (6, []), (7, []), (8, []), (9, [])] w) := by
  go_enter Try.func38, Try.ntmps38
  go_upto_region 8 with (go_at_call 45; refine (never45 _).mono ?_; rintro e w1 ⟨rfl, hb⟩)
  have h23 : w.heap.size < w1.heap.size := by have := hb.size; simp at this; omega
  have hW : w.heap.size ≤ w.heap.size := Nat.le_refl _
  have hG0 := gd_start hb rfl
  clear hb
  refine tab_line w.heap.size w1.heap.size 13 [(1, [3]), (1, []), (6, [5, 7]), (3, []), (5, []), (5, []), (6, []), (7, []), (8, []), (9, [])] [.row [3], .ent 1 [3], .ent 1 [], .row [5, 7], .ent 6 [5, 7], .ent 3 [], .ent 5 [], .ent 5 [], .ent 6 [], .ent 7 [], .ent 8 [], .ent 9 [], .tab [(1, [3]), (1, []), (6, [5, 7]), (3, []), (5, []), (5, []), (6, []), (7, []), (8, []), (9, [])], .done [(1, [3]), (1, []), (6, [5, 7]), (3, []), (5, []), (5, []), (6, []), (7, []), (8, []), (9, [])]] (by kernel_rfl) (by decide) rfl ?_ h23 hW hG0 ?_ ?_
  · exact done_at (by kernel_rfl)
  · intro i o ho a w' hA hG hp
    have he2 : a.eval (.tmp 2) = .pointer (some ⟨w.heap.size, 0, none⟩) := same_eval hA 2 (by kernel_rfl) rfl
    have he3 : a.eval (.tmp 3) = .pointer (some ⟨w1.heap.size, 0, none⟩) := same_eval hA 3 (by kernel_rfl) rfl
    have hi : i < 14 := (Array.getElem?_eq_some_iff.1 ho).1
    rcases (show i = 0 ∨ i = 1 ∨ i = 2 ∨ i = 3 ∨ i = 4 ∨ i = 5 ∨ i = 6 ∨ i = 7 ∨ i = 8 ∨ i = 9 ∨ i = 10 ∨ i = 11 ∨ i = 12 ∨ i = 13 by omega) with rfl | rfl | rfl | rfl | rfl | rfl | rfl | rfl | rfl | rfl | rfl | rfl | rfl | rfl
    · obtain rfl := Option.some.inj ho
      exact st_lit1 3 37 rfl rfl hG
    · obtain rfl := Option.some.inj ho
      exact st_toT 1 37 38 [3] rfl rfl hG (hp 0 (by decide))
    · obtain rfl := Option.some.inj ho
      exact st_to0 1 39 rfl rfl hG
    · obtain rfl := Option.some.inj ho
      exact st_lit2 5 7 40 rfl rfl hG
    · obtain rfl := Option.some.inj ho
      exact st_toT 6 40 41 [5, 7] rfl rfl hG (hp 3 (by decide))
    · obtain rfl := Option.some.inj ho
      exact st_to0 3 42 rfl rfl hG
    · obtain rfl := Option.some.inj ho
      exact st_to0 5 43 rfl rfl hG
    · obtain rfl := Option.some.inj ho
      exact st_to0 5 44 rfl rfl hG
    · obtain rfl := Option.some.inj ho
      exact st_to0 6 45 rfl rfl hG
    · obtain rfl := Option.some.inj ho
      exact st_to0 7 46 rfl rfl hG
    · obtain rfl := Option.some.inj ho
      exact st_to0 8 47 rfl rfl hG
    · obtain rfl := Option.some.inj ho
      exact st_to0 9 48 rfl rfl hG
    · obtain rfl := Option.some.inj ho
      exact st_build 38 39 41 42 43 44 45 46 47 48 49 1 1 6 3 5 5 6 7 8 9 [3] [] [5, 7] [] [] [] [] [] [] [] rfl rfl hG (hp 1 (by decide)) (hp 2 (by decide)) (hp 4 (by decide)) (hp 5 (by decide)) (hp 6 (by decide)) (hp 7 (by decide)) (hp 8 (by decide)) (hp 9 (by decide)) (hp 10 (by decide)) (hp 11 (by decide))
    · obtain rfl := Option.some.inj ho
      exact st_store 2 49 [(1, [3]), (1, []), (6, [5, 7]), (3, []), (5, []), (5, []), (6, []), (7, []), (8, []), (9, [])] rfl rfl rfl h23 hW rfl hG he2 (hp 12 (by decide))
  · intro a w' cs hA hh hT hB
    have he2 : a.eval (.tmp 2) = .pointer (some ⟨w.heap.size, 0, none⟩) := same_eval hA 2 (by kernel_rfl) rfl
    go_wp2
    exact bodyPost_ret (v := .agg cs.toArray) (results_cell_row rfl _ _ w.heap.size 62 _ (0, 0) _ he2 hh Try.underlying62 rfl (by rw [info62]; simp [hT.one.1])) hA.defers ⟨⟨cs, rfl, hT.weak (by omega)⟩, hB⟩
set_option maxRecDepth 100000 in
set_option maxHeartbeats 4000000 in
theorem row_3 (w : World) : Calls Try.prog 38 #[.int .i64 3] w (RowR [(0, []), (0, [4]), (2, []), (2, []), (4, []), (4, []), (4, [5, 10]), (4, [5, 10]), (4, [5, 10]), (4, [2, 5, 10])] w) := by
  go_enter Try.func38, Try.ntmps38
  go_upto_region 10 with (go_at_call 45; refine (never45 _).mono ?_; rintro e w1 ⟨rfl, hb⟩)
  have h23 : w.heap.size < w1.heap.size := by have := hb.size; simp at this; omega
  have hW : w.heap.size ≤ w.heap.size := Nat.le_refl _
  have hG0 := gd_start hb rfl
  clear hb
  refine tab_line w.heap.size w1.heap.size 16 [(0, []), (0, [4]), (2, []), (2, []), (4, []), (4, []), (4, [5, 10]), (4, [5, 10]), (4, [5, 10]), (4, [2, 5, 10])] [.ent 0 [], .row [4], .ent 0 [4], .ent 2 [], .ent 2 [], .ent 4 [], .ent 4 [], .row [5, 10], .ent 4 [5, 10], .row [5, 10], .ent 4 [5, 10], .row [5, 10], .ent 4 [5, 10], .row [2, 5, 10], .ent 4 [2, 5, 10], .tab [(0, []), (0, [4]), (2, []), (2, []), (4, []), (4, []), (4, [5, 10]), (4, [5, 10]), (4, [5, 10]), (4, [2, 5, 10])], .done [(0, []), (0, [4]), (2, []), (2, []), (4, []), (4, []), (4, [5, 10]), (4, [5, 10]), (4, [5, 10]), (4, [2, 5, 10])]] (by kernel_rfl) (by decide) rfl ?_ h23 hW hG0 ?_ ?_
  · exact done_at (by kernel_rfl)
  · intro i o ho a w' hA hG hp
    have he2 : a.eval (.tmp 2) = .pointer (some ⟨w.heap.size, 0, none⟩) := same_eval hA 2 (by kernel_rfl) rfl
    have he3 : a.eval (.tmp 3) = .pointer (some ⟨w1.heap.size, 0, none⟩) := same_eval hA 3 (by kernel_rfl) rfl
    have hi : i < 17 := (Array.getElem?_eq_some_iff.1 ho).1
    rcases (show i = 0 ∨ i = 1 ∨ i = 2 ∨ i = 3 ∨ i = 4 ∨ i = 5 ∨ i = 6 ∨ i = 7 ∨ i = 8 ∨ i = 9 ∨ i = 10 ∨ i = 11 ∨ i = 12 ∨ i = 13 ∨ i = 14 ∨ i = 15 ∨ i = 16 by omega) with rfl | rfl | rfl | rfl | rfl | rfl | rfl | rfl | rfl | rfl | rfl | rfl | rfl | rfl | rfl | rfl | rfl
    · obtain rfl := Option.some.inj ho
      exact st_to0 0 52 rfl rfl hG
    · obtain rfl := Option.some.inj ho
      exact st_lit1 4 53 rfl rfl hG
    · obtain rfl := Option.some.inj ho
      exact st_toT 0 53 54 [4] rfl rfl hG (hp 1 (by decide))
    · obtain rfl := Option.some.inj ho
      exact st_to0 2 55 rfl rfl hG
    · obtain rfl := Option.some.inj ho
      exact st_to0 2 56 rfl rfl hG
    · obtain rfl := Option.some.inj ho
      exact st_to0 4 57 rfl rfl hG
    · obtain rfl := Option.some.inj ho
      exact st_to0 4 58 rfl rfl hG
    · obtain rfl := Option.some.inj ho
      exact st_lit2 5 10 59 rfl rfl hG
    · obtain rfl := Option.some.inj ho
      exact st_toT 4 59 60 [5, 10] rfl rfl hG (hp 7 (by decide))
    · obtain rfl := Option.some.inj ho
      exact st_lit2 5 10 61 rfl rfl hG
    · obtain rfl := Option.some.inj ho
      exact st_toT 4 61 62 [5, 10] rfl rfl hG (hp 9 (by decide))
    · obtain rfl := Option.some.inj ho
      exact st_lit2 5 10 63 rfl rfl hG
    · obtain rfl := Option.some.inj ho
      exact st_toT 4 63 64 [5, 10] rfl rfl hG (hp 11 (by decide))
    · obtain rfl := Option.some.inj ho
      exact st_lit3 2 5 10 65 rfl rfl hG
    · obtain rfl := Option.some.inj ho
      exact st_toT 4 65 66 [2, 5, 10] rfl rfl hG (hp 13 (by decide))
    · obtain rfl := Option.some.inj ho
      exact st_build 52 54 55 56 57 58 60 62 64 66 67 0 0 2 2 4 4 4 4 4 4 [] [4] [] [] [] [] [5, 10] [5, 10] [5, 10] [2, 5, 10] rfl rfl hG (hp 0 (by decide)) (hp 2 (by decide)) (hp 3 (by decide)) (hp 4 (by decide)) (hp 5 (by decide)) (hp 6 (by decide)) (hp 8 (by decide)) (hp 10 (by decide)) (hp 12 (by decide)) (hp 14 (by decide))
    · obtain rfl := Option.some.inj ho
      exact st_store 2 67 [(0, []), (0, [4]), (2, []), (2, []), (4, []), (4, []), (4, [5, 10]), (4, [5, 10]), (4, [5, 10]), (4, [2, 5, 10])] rfl rfl rfl h23 hW rfl hG he2 (hp 15 (by decide))
  · intro a w' cs hA hh hT hB
    have he2 : a.eval (.tmp 2) = .pointer (some ⟨w.heap.size, 0, none⟩) := same_eval hA 2 (by kernel_rfl) rfl
    go_wp2
    exact bodyPost_ret (v := .agg cs.toArray) (results_cell_row rfl _ _ w.heap.size 62 _ (0, 0) _ he2 hh Try.underlying62 rfl (by rw [info62]; simp [hT.one.1])) hA.defers ⟨⟨cs, rfl, hT.weak (by omega)⟩, hB⟩
end Go.Proofs.Ytjgndagejogfnaa.F
