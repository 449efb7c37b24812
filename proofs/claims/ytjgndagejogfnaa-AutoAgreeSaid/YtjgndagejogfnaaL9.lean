import Derived.Test.YtjgndagejogfnaaL8
import Derived.Test.YtjgndagejogfnaaL4
set_option linter.unusedVariables false
set_option linter.unusedSimpArgs false
namespace Go.Proofs.Ytjgndagejogfnaa.F
open Go.RowKit Go.Proofs.Ytjgndagejogfnaa.K
theorem own_lit4 {w : World} (a b c d : Int) : Own w.heap.size (w.alloc (.cells #[.int .i64 a, .int .i64 b, .int .i64 c, .int .i64 d] 3)) (.slice (some ⟨w.heap.size, 0, none⟩) 4 4) [a, b, c, d] := own_lit (Nat.le_refl _) [a, b, c, d] (by simp [maxLen])
theorem awake_run : runFull 10 2 [2, 0, 6, 8] = (9, 10, [3, 5, 7, 8, 5, 1], 0, 0) := by decide +kernel
theorem awake (w : World) : Calls Try.prog 15 #[] w fun e w' => e = .returned (.bool true) ∧ Below w.heap.size w w' := by
  have hb0 : Below w.heap.size w (w.alloc (.cells #[.int .i64 2, .int .i64 0, .int .i64 6, .int .i64 8] 3)) := (Below.refl _ _).alloc (Nat.le_refl _) _
  go_enter Try.func15, Try.ntmps15
  go_wp2_with fail
  refine (run16 10 2 [2, 0, 6, 8] _ _ (own_lit4 2 0 6 8).ints (by decide)).mono ?_
  rintro e w1 ⟨⟨v, rfl, hv⟩, hb⟩
  rw [awake_run] at hv ⊢
  have hB := below_then hb0 hb
  obtain ⟨A, cap, rfl, k1, -, k3, k4⟩ := (Own.ints hv).at_
  obtain ⟨ad, rfl⟩ := some_of k3 (k := 0) (by decide)
  obtain ⟨b, o, rfl, c0⟩ := k4 ad rfl 0 (by decide)
  obtain ⟨b', o', e5, c5⟩ := k4 _ rfl 5 (by decide)
  cases e5
  simp only [Nat.add_zero, List.getElem_cons_zero, List.getElem_cons_succ] at c0 c5
  clear k1 k3 k4 hv hb0 hb
  go_wp2_with fail
  refine (next12 0 1 _).mono ?_
  rintro e w2 ⟨⟨v, rfl, -⟩, hb⟩
  have hn : nx 0 1 = (0, [], 290) := by decide +kernel
  rw [hn]
  have d0 := (hb.cell (World.block_lt_of_cell? _ _ c0)).trans c0
  have d5 := (hb.cell (World.block_lt_of_cell? _ _ c5)).trans c5
  replace hB := below_then hB hb
  clear c0 c5 hn hb
  have hs : stName 6 = ⟨#[82, 101, 113, 45, 83, 101, 110, 116]⟩ := rfl
  go_wp2_with fail
  refine (stName18 6 _).mono ?_
  rintro e w3 ⟨rfl, hb⟩
  rw [hs]
  go_wp2
  go_ret
  exact ⟨rfl, below_then hB hb⟩
end Go.Proofs.Ytjgndagejogfnaa.F
