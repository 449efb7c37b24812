import Derived.Test.YtibdaonhldlmbaaB3
set_option linter.unusedVariables false
set_option linter.unusedSimpArgs false
namespace Go.Proofs.Ytibdaonhldlmbaa.F
open Go.RowKit Go.Proofs.Ytibdaonhldlmbaa.K
variable (g : Nat) (p : Pol) (w : World)
set_option maxHeartbeats 1000000 in
theorem up47 (hP : PolAt w g p) : Calls Try.prog 47 #[.pointer (some ⟨g, 0, none⟩)] w (ActR g p.up1 w) := by
  have c0 := hP.cst
  have c1 := hP.cwa
  have c2 := hP.cfa
  have f0 := hP.free 10
  have f1 := hP.free 11
  have f2 := hP.free 12
  have hq := (hP.sfa 0).swa true
  have hg := grown_setCell (grown_setCell (grownBy_refl w (some g)) 12 (.int .i64 0)) 11 (.bool true)
  unfold Pol.up1
  by_cases h0 : p.st = 0
  · have e0 : (p.st == 0) = true := by simpa using h0
    rw [if_pos h0]
    clear h0
    go_enter Try.func47, Try.ntmps47
    go_wp2_with fail
    refine (dial48 g _ _ hq).mono ?_
    rintro e w2 ⟨⟨v, rfl, q1⟩, q2, q3⟩
    go_wp2
    go_ret
    exact ⟨⟨_, rfl, q1.weak hg.size⟩, q2, grown_trans hg q3⟩
  · have e0 : (p.st == 0) = false := by simpa using h0
    rw [if_neg h0]
    clear h0
    by_cases h5 : p.st = 5
    · have e5 : (p.st == 5) = true := by simpa using h5
      rw [if_pos h5]
      clear h5
      have hq2 := hq.sst 1
      have hg2 := grown_setCell hg 10 (.int .i64 1)
      have O := Lib.hid (over49 p.now p.en p.ho)
      have hB2 : ∀ W : World, Below W.heap.size W W.drew := fun W => below_drewN (Below.refl _ W) 1
      by_cases ho : ovr p.now p.en p.ho = true
      · rw [if_pos ho]
        rw [ho] at O
        clear ho
        go_enter Try.func47, Try.ntmps47
        go_wp2_with fail
        clear c0 c1 c2 f0 f1 f2
        generalize ((w.setCell ⟨g, 12, none⟩ (.int .i64 0)).setCell ⟨g, 11, none⟩ (.bool true)).setCell ⟨g, 10, none⟩ (.int .i64 1) = W at *
        have c2 := hq2.cho
        have c6 := hq2.cnow
        have c9 := hq2.cen
        simp only at c2 c6 c9
        go_still_tail 15, (by kernel_rfl)
        go_wp2_with fail
        refine (O.out _).mono ?_
        rintro e w1 ⟨rfl, rfl⟩
        go_wp2_with fail
        refine (held45 g _ _ (hq2.below (hB2 W))).mono ?_
        rintro e w2 ⟨⟨v, rfl, q1⟩, q2, q3⟩
        go_wp2
        go_ret
        exact ⟨⟨_, rfl, q1.weak hg2.size⟩, q2, grown_trans (grown_below hg2 (hB2 W)) q3⟩
      · rw [if_neg ho]
        simp only [Bool.not_eq_true] at ho
        rw [ho] at O
        clear ho
        go_enter Try.func47, Try.ntmps47
        go_wp2_with fail
        clear c0 c1 c2 f0 f1 f2
        generalize ((w.setCell ⟨g, 12, none⟩ (.int .i64 0)).setCell ⟨g, 11, none⟩ (.bool true)).setCell ⟨g, 10, none⟩ (.int .i64 1) = W at *
        have c2 := hq2.cho
        have c6 := hq2.cnow
        have c9 := hq2.cen
        simp only at c2 c6 c9
        go_still_tail 15, (by kernel_rfl)
        go_wp2_with fail
        refine (O.out _).mono ?_
        rintro e w1 ⟨rfl, rfl⟩
        go_wp2_with fail
        go_ret
        exact ⟨⟨_, rfl, own_nil _ _⟩, hq2.below (hB2 W), grown_below hg2 (hB2 W)⟩
    · have e5 : (p.st == 5) = false := by simpa using h5
      rw [if_neg h5]
      clear h5
      go_enter Try.func47, Try.ntmps47
      go_wp2_with fail
      go_ret
      exact ⟨⟨_, rfl, own_nil _ _⟩, hq, hg⟩
end Go.Proofs.Ytibdaonhldlmbaa.F
