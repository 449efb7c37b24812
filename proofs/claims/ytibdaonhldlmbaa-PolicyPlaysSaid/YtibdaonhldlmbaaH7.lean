import Derived.Test.YtibdaonhldlmbaaH6
import Derived.Test.YtibdaonhldlmbaaE3b
set_option linter.unusedVariables false
set_option linter.unusedSimpArgs false
namespace Go.Proofs.Ytibdaonhldlmbaa.F
open Go.RowKit Go.Proofs.Ytibdaonhldlmbaa.K
theorem span29 (n : Int) (w : World) : Calls Try.prog 29 #[.int .i64 n] w fun e w' => e = .returned (.bool (spanOk n)) ∧ w' = w := by
  unfold spanOk
  by_cases h : 0 ≤ n
  · have h1 : decide (0 ≤ n) = true := by simpa using h
    rw [h1]
    go_enter Try.func29, Try.ntmps29
    go_wp2
    go_ret
    exact ⟨by simp, rfl⟩
  · have h1 : decide (0 ≤ n) = false := by simpa using h
    rw [h1]
    go_enter Try.func29, Try.ntmps29
    go_wp2
    go_ret
    exact ⟨by simp, rfl⟩
structure RNewR (c : Cf) (w : World) (e : Ending) (w' : World) : Prop where
  ret : e = .returned (.tuple #[.pointer (some ⟨w.heap.size + 1, 0, none⟩), .int .i64 0])
  obj : RefAt w' (w.heap.size + 1) c c.pol
  bel : Below w.heap.size w w'
set_option maxHeartbeats 4000000 in
set_option maxRecDepth 100000 in
theorem new14_bad (c : Cf) (w : World) (h : c.ok = false) : Calls Try.prog 14 #[c.v] w fun e w' => e = .returned (.tuple #[.pointer none, .int .i64 1]) ∧ Below w.heap.size w w' := by
  have hb : Below w.heap.size w (w.alloc (.cells c.cells 25)) := (Below.refl _ _).alloc (Nat.le_refl _) _
  simp only [Cf.v, Cf.cells] at hb ⊢
  have S1 := Lib.hid (span29 c.ho)
  have S2 := Lib.hid (span29 c.id)
  have S3 := Lib.hid (span29 c.se)
  unfold Cf.ok at h
  cases h1 : spanOk c.ho
  · rw [h1] at S1
    clear h h1
    go_enter Try.func14, Try.ntmps14
    go_wp2_with fail
    refine (S1.out _).mono ?_
    rintro e w1 ⟨rfl, rfl⟩
    go_wp2_with fail
    go_ret2
    exact ⟨rfl, hb⟩
  · rw [h1] at S1
    cases h2 : spanOk c.id
    · rw [h2] at S2
      clear h h1 h2
      go_enter Try.func14, Try.ntmps14
      go_wp2_with fail
      refine (S1.out _).mono ?_
      rintro e w1 ⟨rfl, rfl⟩
      go_wp2_with fail
      refine (S2.out _).mono ?_
      rintro e w1 ⟨rfl, rfl⟩
      go_wp2_with fail
      go_ret2
      exact ⟨rfl, hb⟩
    · rw [h2] at S2
      cases h3 : spanOk c.se
      · rw [h3] at S3
        clear h h1 h2 h3
        go_enter Try.func14, Try.ntmps14
        go_wp2_with fail
        refine (S1.out _).mono ?_
        rintro e w1 ⟨rfl, rfl⟩
        go_wp2_with fail
        refine (S2.out _).mono ?_
        rintro e w1 ⟨rfl, rfl⟩
        go_wp2_with fail
        refine (S3.out _).mono ?_
        rintro e w1 ⟨rfl, rfl⟩
        go_wp2_with fail
        go_ret2
        exact ⟨rfl, hb⟩
      · rw [h3] at S3
        by_cases h4 : c.mf < 0
        · clear h h1 h2 h3
          go_enter Try.func14, Try.ntmps14
          go_wp2_with fail
          refine (S1.out _).mono ?_
          rintro e w1 ⟨rfl, rfl⟩
          go_wp2_with fail
          refine (S2.out _).mono ?_
          rintro e w1 ⟨rfl, rfl⟩
          go_wp2_with fail
          refine (S3.out _).mono ?_
          rintro e w1 ⟨rfl, rfl⟩
          go_wp2_with fail
          go_ret2
          exact ⟨rfl, hb⟩
        · have h5 : 65535 < c.mf := by
            simp [h1, h2, h3] at h
            omega
          clear h h1 h2 h3
          go_enter Try.func14, Try.ntmps14
          go_wp2_with fail
          refine (S1.out _).mono ?_
          rintro e w1 ⟨rfl, rfl⟩
          go_wp2_with fail
          refine (S2.out _).mono ?_
          rintro e w1 ⟨rfl, rfl⟩
          go_wp2_with fail
          refine (S3.out _).mono ?_
          rintro e w1 ⟨rfl, rfl⟩
          go_wp2_with fail
          go_ret2
          exact ⟨rfl, hb⟩
set_option maxHeartbeats 4000000 in
set_option maxRecDepth 100000 in
theorem new14 (c : Cf) (w : World) (h : c.ok = true) : Calls Try.prog 14 #[c.v] w (RNewR c w) := by
  have hb : Below w.heap.size w ((w.alloc (.cells c.cells 25)).alloc (.cells (rcells c c.pol) 62)) := below_a2 w _ _
  have hp : RefAt ((w.alloc (.cells c.cells 25)).alloc (.cells (rcells c c.pol) 62)) (w.heap.size + 1) c c.pol := ⟨by
    have := heap_alloc_new (w.alloc (.cells c.cells 25)) (.cells (rcells c c.pol) 62)
    simpa using this⟩
  simp only [Cf.v, Cf.cells, Cf.pol, rcells] at hb ⊢
  have HP := Lib.hid hp
  clear hp
  have hx : (w.alloc (.cells c.cells 25)).heap[w.heap.size]? = some (.cells c.cells 25 (0, 0)) := heap_alloc_new _ _
  simp only [Cf.cells] at hx
  have HX := Lib.hid hx
  clear hx
  have S1 := Lib.hid (span29 c.ho)
  have S2 := Lib.hid (span29 c.id)
  have S3 := Lib.hid (span29 c.se)
  unfold Cf.ok at h
  simp only [Bool.and_eq_true, decide_eq_true_eq] at h
  obtain ⟨⟨⟨⟨h1, h2⟩, h3⟩, h4⟩, h5⟩ := h
  rw [h1] at S1
  rw [h2] at S2
  rw [h3] at S3
  clear h1 h2 h3
  have h6 : ¬ c.mf < 0 := by omega
  have h7 : ¬ 65535 < c.mf := by omega
  go_enter Try.func14, Try.ntmps14
  go_wp2_with fail
  refine (S1.out _).mono ?_
  rintro e w1 ⟨rfl, rfl⟩
  go_wp2_with fail
  refine (S2.out _).mono ?_
  rintro e w1 ⟨rfl, rfl⟩
  go_wp2_with fail
  refine (S3.out _).mono ?_
  rintro e w1 ⟨rfl, rfl⟩
  go_wp2_with (refine wpList_load_row rfl 25 (.tmp 1) rfl w.heap.size rfl 25 _ (0, 0) _ HX.out Try.underlying25 rfl (by kernel_rfl) ?_)
  go_ret2
  exact ⟨rfl, HP.out, hb⟩
end Go.Proofs.Ytibdaonhldlmbaa.F
