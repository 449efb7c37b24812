import Derived.Test.YtjgndagejogfnaaT2
import Derived.Test.YtjgndagejogfnaaT3
import Derived.Test.YtjgndagejogfnaaT4
import Derived.Test.YtjgndagejogfnaaT5
set_option linter.unusedVariables false
set_option linter.unusedSimpArgs false
namespace Go.Proofs.Ytjgndagejogfnaa.F
open Go.RowKit Go.Proofs.Ytjgndagejogfnaa.K
theorem run_store62 {W : World} {g : Nat} {cs : Array Value} {es : List (Int × List Int)} {B : Nat} {w : World} {cs' : List Value} (hg : W.heap[g]? = some (.cells cs 62 (0, 0))) (hs : cs.size = 20) (hT : TabR B w es cs') (hl : es.length = 10) : (storeCells ⟨g, 0, none⟩ cs' 0).run Try.prog W = .ok () (W.setRow g cs'.toArray) := by
  have h4 := hT.one
  have hr := run_storeCells_at (P := Try.prog) g 0 62 cs' 0 cs W hg (by simp [hs, h4.1, hl]) h4.2
  have hl2 : (cs.toList.take (0 + 0) ++ cs' ++ cs.toList.drop (0 + 0 + cs'.length)).toArray = cs'.toArray := by
    have : cs.toList.drop 20 = [] := List.drop_eq_nil_of_le (by simp [hs])
    simp [h4.1, hl, this]
  rw [hl2] at hr
  exact hr
set_option maxRecDepth 100000 in
set_option maxHeartbeats 4000000 in
theorem row_8 (w : World) : Calls Try.prog 38 #[.int .i64 8] w (RowR [(-1, []), (-1, []), (2, [11]), (3, [11]), (4, []), (5, []), (7, [5]), (6, [7]), (9, [5, 1]), (6, [2, 7])] w) := by
  go_enter Try.func38, Try.ntmps38
  go_wp2_with (go_at_call 45; refine (never45 _).mono ?_; rintro e w1 ⟨rfl, hb⟩)
  have hG0 := gd_start hb rfl
  have hl : w.heap.size < w1.heap.size := by have := hb.size; simp at this; omega
  clear hb
  refine (later_8 _).mono ?_
  rintro e w2 ⟨⟨cs, rfl, hT⟩, h2⟩
  have hG := hG0.below h2
  obtain ⟨cs0, h3, h4⟩ := hG.res
  have hr := run_store62 h3 h4 hT rfl
  have h5 := hT.one.1
  simp only [List.length_cons, List.length_nil] at h5
  have hK := Lib.hid hT
  clear hT
  go_wp2
  have hg : w2.grownBy (w2.setRow w.heap.size cs.toArray) (some w.heap.size) := ⟨rfl, rfl, rfl, by simp, fun k hk hne => setRow_other _ _ _ _ (fun e => hne (by rw [e]))⟩
  exact bodyPost_ret (v := .agg cs.toArray) (results_cell_row rfl _ _ w.heap.size 62 _ (0, 0) _ rfl (setRow_heap w2 _ _ _ 62 _ h3) Try.underlying62 rfl (by rw [info62]; simp [hK.out.one.1])) rfl ⟨⟨cs, rfl, (hK.out.kept hg (fun g e => by cases e; simp; omega)).weak (by simp; omega)⟩, below_setRow hG.bel (Nat.le_refl _) _⟩
set_option maxRecDepth 100000 in
set_option maxHeartbeats 4000000 in
theorem row_9 (w : World) : Calls Try.prog 38 #[.int .i64 9] w (RowR [(-1, []), (-1, []), (2, [11]), (3, [11]), (4, []), (5, []), (6, [5, 7]), (6, [7]), (8, [5, 7]), (6, [2, 7])] w) := by
  go_enter Try.func38, Try.ntmps38
  go_wp2_with (go_at_call 45; refine (never45 _).mono ?_; rintro e w1 ⟨rfl, hb⟩)
  have hG0 := gd_start hb rfl
  have hl : w.heap.size < w1.heap.size := by have := hb.size; simp at this; omega
  clear hb
  refine (later_9 _).mono ?_
  rintro e w2 ⟨⟨cs, rfl, hT⟩, h2⟩
  have hG := hG0.below h2
  obtain ⟨cs0, h3, h4⟩ := hG.res
  have hr := run_store62 h3 h4 hT rfl
  have h5 := hT.one.1
  simp only [List.length_cons, List.length_nil] at h5
  have hK := Lib.hid hT
  clear hT
  go_wp2
  have hg : w2.grownBy (w2.setRow w.heap.size cs.toArray) (some w.heap.size) := ⟨rfl, rfl, rfl, by simp, fun k hk hne => setRow_other _ _ _ _ (fun e => hne (by rw [e]))⟩
  exact bodyPost_ret (v := .agg cs.toArray) (results_cell_row rfl _ _ w.heap.size 62 _ (0, 0) _ rfl (setRow_heap w2 _ _ _ 62 _ h3) Try.underlying62 rfl (by rw [info62]; simp [hK.out.one.1])) rfl ⟨⟨cs, rfl, (hK.out.kept hg (fun g e => by cases e; simp; omega)).weak (by simp; omega)⟩, below_setRow hG.bel (Nat.le_refl _) _⟩
set_option maxRecDepth 100000 in
set_option maxHeartbeats 4000000 in
theorem row_10 (w : World) : Calls Try.prog 38 #[.int .i64 10] w (RowR [(-1, []), (-1, []), (2, [11]), (3, [11]), (4, [11]), (5, [11]), (6, [11]), (6, [11]), (6, [11]), (5, [2, 6, 11])] w) := by
  go_enter Try.func38, Try.ntmps38
  go_wp2_with (go_at_call 45; refine (never45 _).mono ?_; rintro e w1 ⟨rfl, hb⟩)
  have hG0 := gd_start hb rfl
  have hl : w.heap.size < w1.heap.size := by have := hb.size; simp at this; omega
  clear hb
  refine (later_10 _).mono ?_
  rintro e w2 ⟨⟨cs, rfl, hT⟩, h2⟩
  have hG := hG0.below h2
  obtain ⟨cs0, h3, h4⟩ := hG.res
  have hr := run_store62 h3 h4 hT rfl
  have h5 := hT.one.1
  simp only [List.length_cons, List.length_nil] at h5
  have hK := Lib.hid hT
  clear hT
  go_wp2
  have hg : w2.grownBy (w2.setRow w.heap.size cs.toArray) (some w.heap.size) := ⟨rfl, rfl, rfl, by simp, fun k hk hne => setRow_other _ _ _ _ (fun e => hne (by rw [e]))⟩
  exact bodyPost_ret (v := .agg cs.toArray) (results_cell_row rfl _ _ w.heap.size 62 _ (0, 0) _ rfl (setRow_heap w2 _ _ _ 62 _ h3) Try.underlying62 rfl (by rw [info62]; simp [hK.out.one.1])) rfl ⟨⟨cs, rfl, (hK.out.kept hg (fun g e => by cases e; simp; omega)).weak (by simp; omega)⟩, below_setRow hG.bel (Nat.le_refl _) _⟩
set_option maxRecDepth 100000 in
set_option maxHeartbeats 4000000 in
theorem row_11 (w : World) : Calls Try.prog 38 #[.int .i64 11] w (RowR [(-1, []), (-1, []), (2, []), (3, []), (2, [4]), (3, [4]), (6, []), (6, []), (8, []), (6, [2, 7])] w) := by
  go_enter Try.func38, Try.ntmps38
  go_wp2_with (go_at_call 45; refine (never45 _).mono ?_; rintro e w1 ⟨rfl, hb⟩)
  have hG0 := gd_start hb rfl
  have hl : w.heap.size < w1.heap.size := by have := hb.size; simp at this; omega
  clear hb
  refine (later_11 _).mono ?_
  rintro e w2 ⟨⟨cs, rfl, hT⟩, h2⟩
  have hG := hG0.below h2
  obtain ⟨cs0, h3, h4⟩ := hG.res
  have hr := run_store62 h3 h4 hT rfl
  have h5 := hT.one.1
  simp only [List.length_cons, List.length_nil] at h5
  have hK := Lib.hid hT
  clear hT
  go_wp2
  have hg : w2.grownBy (w2.setRow w.heap.size cs.toArray) (some w.heap.size) := ⟨rfl, rfl, rfl, by simp, fun k hk hne => setRow_other _ _ _ _ (fun e => hne (by rw [e]))⟩
  exact bodyPost_ret (v := .agg cs.toArray) (results_cell_row rfl _ _ w.heap.size 62 _ (0, 0) _ rfl (setRow_heap w2 _ _ _ 62 _ h3) Try.underlying62 rfl (by rw [info62]; simp [hK.out.one.1])) rfl ⟨⟨cs, rfl, (hK.out.kept hg (fun g e => by cases e; simp; omega)).weak (by simp; omega)⟩, below_setRow hG.bel (Nat.le_refl _) _⟩
set_option maxRecDepth 100000 in
set_option maxHeartbeats 4000000 in
theorem row_12 (w : World) : Calls Try.prog 38 #[.int .i64 12] w (RowR [(-1, []), (-1, []), (2, [12]), (3, [12]), (4, [12]), (5, [12]), (6, [12]), (7, [12]), (8, [12]), (9, [12])] w) := by
  go_enter Try.func38, Try.ntmps38
  go_wp2_with (go_at_call 45; refine (never45 _).mono ?_; rintro e w1 ⟨rfl, hb⟩)
  have hG0 := gd_start hb rfl
  have hl : w.heap.size < w1.heap.size := by have := hb.size; simp at this; omega
  clear hb
  refine (later_12 _).mono ?_
  rintro e w2 ⟨⟨cs, rfl, hT⟩, h2⟩
  have hG := hG0.below h2
  obtain ⟨cs0, h3, h4⟩ := hG.res
  have hr := run_store62 h3 h4 hT rfl
  have h5 := hT.one.1
  simp only [List.length_cons, List.length_nil] at h5
  have hK := Lib.hid hT
  clear hT
  go_wp2
  have hg : w2.grownBy (w2.setRow w.heap.size cs.toArray) (some w.heap.size) := ⟨rfl, rfl, rfl, by simp, fun k hk hne => setRow_other _ _ _ _ (fun e => hne (by rw [e]))⟩
  exact bodyPost_ret (v := .agg cs.toArray) (results_cell_row rfl _ _ w.heap.size 62 _ (0, 0) _ rfl (setRow_heap w2 _ _ _ 62 _ h3) Try.underlying62 rfl (by rw [info62]; simp [hK.out.one.1])) rfl ⟨⟨cs, rfl, (hK.out.kept hg (fun g e => by cases e; simp; omega)).weak (by simp; omega)⟩, below_setRow hG.bel (Nat.le_refl _) _⟩
set_option maxRecDepth 100000 in
set_option maxHeartbeats 4000000 in
theorem row_13 (w : World) : Calls Try.prog 38 #[.int .i64 13] w (RowR [(-1, []), (-1, []), (2, []), (3, []), (4, []), (5, []), (6, []), (6, []), (8, []), (9, [])] w) := by
  go_enter Try.func38, Try.ntmps38
  go_wp2_with (go_at_call 45; refine (never45 _).mono ?_; rintro e w1 ⟨rfl, hb⟩)
  have hG0 := gd_start hb rfl
  have hl : w.heap.size < w1.heap.size := by have := hb.size; simp at this; omega
  clear hb
  refine (later_13 _).mono ?_
  rintro e w2 ⟨⟨cs, rfl, hT⟩, h2⟩
  have hG := hG0.below h2
  obtain ⟨cs0, h3, h4⟩ := hG.res
  have hr := run_store62 h3 h4 hT rfl
  have h5 := hT.one.1
  simp only [List.length_cons, List.length_nil] at h5
  have hK := Lib.hid hT
  clear hT
  go_wp2
  have hg : w2.grownBy (w2.setRow w.heap.size cs.toArray) (some w.heap.size) := ⟨rfl, rfl, rfl, by simp, fun k hk hne => setRow_other _ _ _ _ (fun e => hne (by rw [e]))⟩
  exact bodyPost_ret (v := .agg cs.toArray) (results_cell_row rfl _ _ w.heap.size 62 _ (0, 0) _ rfl (setRow_heap w2 _ _ _ 62 _ h3) Try.underlying62 rfl (by rw [info62]; simp [hK.out.one.1])) rfl ⟨⟨cs, rfl, (hK.out.kept hg (fun g e => by cases e; simp; omega)).weak (by simp; omega)⟩, below_setRow hG.bel (Nat.le_refl _) _⟩
set_option maxRecDepth 100000 in
set_option maxHeartbeats 4000000 in
theorem row_14 (w : World) : Calls Try.prog 38 #[.int .i64 14] w (RowR [(-1, []), (-1, []), (2, [4]), (3, [4]), (2, [4]), (3, [4]), (3, [4]), (3, [4]), (3, [4]), (5, [2, 5, 10])] w) := by
  go_enter Try.func38, Try.ntmps38
  go_wp2_with (go_at_call 45; refine (never45 _).mono ?_; rintro e w1 ⟨rfl, hb⟩)
  have hG0 := gd_start hb rfl
  have hl : w.heap.size < w1.heap.size := by have := hb.size; simp at this; omega
  clear hb
  refine (later_14 _).mono ?_
  rintro e w2 ⟨⟨cs, rfl, hT⟩, h2⟩
  have hG := hG0.below h2
  obtain ⟨cs0, h3, h4⟩ := hG.res
  have hr := run_store62 h3 h4 hT rfl
  have h5 := hT.one.1
  simp only [List.length_cons, List.length_nil] at h5
  have hK := Lib.hid hT
  clear hT
  go_wp2
  have hg : w2.grownBy (w2.setRow w.heap.size cs.toArray) (some w.heap.size) := ⟨rfl, rfl, rfl, by simp, fun k hk hne => setRow_other _ _ _ _ (fun e => hne (by rw [e]))⟩
  exact bodyPost_ret (v := .agg cs.toArray) (results_cell_row rfl _ _ w.heap.size 62 _ (0, 0) _ rfl (setRow_heap w2 _ _ _ 62 _ h3) Try.underlying62 rfl (by rw [info62]; simp [hK.out.one.1])) rfl ⟨⟨cs, rfl, (hK.out.kept hg (fun g e => by cases e; simp; omega)).weak (by simp; omega)⟩, below_setRow hG.bel (Nat.le_refl _) _⟩
set_option maxRecDepth 100000 in
set_option maxHeartbeats 4000000 in
theorem row_15 (w : World) : Calls Try.prog 38 #[.int .i64 15] w (RowR [(-1, []), (-1, []), (2, []), (3, []), (4, []), (5, []), (6, []), (7, []), (8, []), (9, [13])] w) := by
  go_enter Try.func38, Try.ntmps38
  go_wp2_with (go_at_call 45; refine (never45 _).mono ?_; rintro e w1 ⟨rfl, hb⟩)
  have hG0 := gd_start hb rfl
  have hl : w.heap.size < w1.heap.size := by have := hb.size; simp at this; omega
  clear hb
  refine (later_15 _).mono ?_
  rintro e w2 ⟨⟨cs, rfl, hT⟩, h2⟩
  have hG := hG0.below h2
  obtain ⟨cs0, h3, h4⟩ := hG.res
  have hr := run_store62 h3 h4 hT rfl
  have h5 := hT.one.1
  simp only [List.length_cons, List.length_nil] at h5
  have hK := Lib.hid hT
  clear hT
  go_wp2
  have hg : w2.grownBy (w2.setRow w.heap.size cs.toArray) (some w.heap.size) := ⟨rfl, rfl, rfl, by simp, fun k hk hne => setRow_other _ _ _ _ (fun e => hne (by rw [e]))⟩
  exact bodyPost_ret (v := .agg cs.toArray) (results_cell_row rfl _ _ w.heap.size 62 _ (0, 0) _ rfl (setRow_heap w2 _ _ _ 62 _ h3) Try.underlying62 rfl (by rw [info62]; simp [hK.out.one.1])) rfl ⟨⟨cs, rfl, (hK.out.kept hg (fun g e => by cases e; simp; omega)).weak (by simp; omega)⟩, below_setRow hG.bel (Nat.le_refl _) _⟩
end Go.Proofs.Ytjgndagejogfnaa.F
