import Derived.Test.YtibdaonhldlmbaaB4
set_option linter.unusedVariables false
set_option linter.unusedSimpArgs false
namespace Go.Proofs.Ytibdaonhldlmbaa.F
open Go.RowKit Go.Proofs.Ytibdaonhldlmbaa.K
theorem why_down (n : Nat) : ((whyS n).toList == [100, 111, 119, 110]) = (n == 3) := by
  match n with
  | 0 => decide +kernel
  | 1 => decide +kernel
  | 2 => decide +kernel
  | 3 => decide +kernel
  | 4 => decide +kernel
  | n + 5 =>
    have h1 : ((whyS (n + 5)).toList == [100, 111, 119, 110]) = false := by show ((whyS 5).toList == [100, 111, 119, 110]) = false; decide +kernel
    rw [h1]
    simp
variable (g : Nat) (p : Pol) (w : World)
theorem fin_held (q : Pol) (h : q.ho = 0) : q.fin = ({ q with st := 1 } : Pol).held := by unfold Pol.fin; rw [if_pos h]
theorem fin_rest (q : Pol) (h : q.ho ≠ 0) : q.fin = (({ q with st := 1 } : Pol), []) := by unfold Pol.fin; rw [if_neg h]
set_option maxHeartbeats 4000000 in
theorem ldown44 (hP : PolAt w g p) (hst : p.st = 2 ∨ p.st = 3 ∨ p.st = 4) (hfa : 0 ≤ p.fa ∧ p.fa ≤ 2147483647) : Calls Try.prog 44 #[.pointer (some ⟨g, 0, none⟩)] w (ActR g p.ldown1 w) := by
  have c0 := hP.cst
  have c1 := hP.cwa
  have c2 := hP.cfa
  have c3 := hP.cwy
  have c4 := hP.cen
  have c5 := hP.cnow
  have c6 := hP.cmf
  have c7 := hP.cpe
  have c8 := hP.cho
  have f0 := hP.free 10
  have f1 := hP.free 11
  have f2 := hP.free 12
  have f3 := hP.free 13
  have f4 := hP.free 9
  have hq := hP.sen p.now
  have hg := grown_setCell (grownBy_refl w (some g)) 9 (.int .i64 p.now)
  rcases hst with hs | hs | hs
  · rw [hs] at c0
    have hd : p.ldown1 = if 0 < p.mf ∧ p.mf ≤ min (p.fa + 1) 2147483647 then ({ ({ p with en := p.now, fa := min (p.fa + 1) 2147483647, wy := 4 } : Pol) with st := 5, wa := false }, []) else ({ p with en := p.now, fa := min (p.fa + 1) 2147483647, wy := 4 } : Pol).fin := by unfold Pol.ldown1; rw [if_pos hs]; rfl
    rw [hd]
    clear hd hs
    by_cases hm : p.fa + 1 ≤ 2147483647
    · rw [show min (p.fa + 1) 2147483647 = p.fa + 1 by omega]
      have hm2 : p.fa + 1 < 2147483648 := by omega
      have hm3 : -9223372036854775808 ≤ p.fa + 1 ∧ p.fa + 1 ≤ 9223372036854775807 := by omega
      have hq1 := (hq.sfa (p.fa + 1)).swy 4
      have hg1 := grown_setCell (grown_setCell hg 12 (.int .i64 (p.fa + 1))) 13 (.string (whyS 4))
      have h4 : whyS 4 = { data := #[102, 97, 105, 108, 101, 100] } := rfl
      rw [h4] at hq1 hg1
      clear h4
      by_cases hmf : 0 < p.mf
      · by_cases hle : p.mf ≤ p.fa + 1
        · rw [if_pos ⟨hmf, hle⟩]
          go_enter Try.func44, Try.ntmps44
          go_wp2_with fail
          clear c0 c1 c2 c3 c4 c5 c6 c7 c8 f0 f1 f2 f3 f4
          generalize ((w.setCell ⟨g, 9, none⟩ (.int .i64 p.now)).setCell ⟨g, 12, none⟩ (.int .i64 (p.fa + 1))).setCell ⟨g, 13, none⟩ (.string { data := #[102, 97, 105, 108, 101, 100] }) = U at *
          have c6 := hq1.cmf
          have c2 := hq1.cfa
          simp only at c6 c2
          go_quiet (fail)
          have hBU : Below U.heap.size U (U.drewN nq) := below_drewN (Below.refl _ U) nq
          replace hq1 := hq1.below hBU
          replace hg1 := grown_below hg1 hBU
          generalize U.drewN nq = W at *
          have c0 := hq1.cst
          have c1 := hq1.cwa
          have c8 := hq1.cho
          have f0 := hq1.free 10
          have f1 := hq1.free 11
          simp only at c0 c1 c8

          go_wp2_with fail
          go_ret
          exact ⟨⟨_, rfl, own_nil _ _⟩, (hq1.sst 5).swa false, grown_setCell (grown_setCell hg1 10 (.int .i64 5)) 11 (.bool false)⟩
        · rw [if_neg (fun h => hle h.2)]
          by_cases hz : p.ho = 0
          · have ez : (p.ho == 0) = true := by simpa using hz
            rw [fin_held ({ p with en := p.now, fa := p.fa + 1, wy := 4 }) hz]
            clear hz
            go_enter Try.func44, Try.ntmps44
            go_wp2_with fail
            clear c0 c1 c2 c3 c4 c5 c6 c7 c8 f0 f1 f2 f3 f4
            generalize ((w.setCell ⟨g, 9, none⟩ (.int .i64 p.now)).setCell ⟨g, 12, none⟩ (.int .i64 (p.fa + 1))).setCell ⟨g, 13, none⟩ (.string { data := #[102, 97, 105, 108, 101, 100] }) = U at *
            have c6 := hq1.cmf
            have c2 := hq1.cfa
            simp only at c6 c2
            go_quiet (fail)
            have hBU : Below U.heap.size U (U.drewN nq) := below_drewN (Below.refl _ U) nq
            replace hq1 := hq1.below hBU
            replace hg1 := grown_below hg1 hBU
            generalize U.drewN nq = W at *
            have c0 := hq1.cst
            have c1 := hq1.cwa
            have c8 := hq1.cho
            have f0 := hq1.free 10
            have f1 := hq1.free 11
            simp only at c0 c1 c8

            go_wp2_with fail
            refine (held45 g _ _ (hq1.sst 1)).mono ?_
            rintro e w2 ⟨⟨v, rfl, q1⟩, q2, q3⟩
            go_wp2
            go_ret
            exact ⟨⟨_, rfl, q1.weak (grown_setCell hg1 10 (.int .i64 1)).size⟩, q2, grown_trans (grown_setCell hg1 10 (.int .i64 1)) q3⟩
          · have ez : (p.ho == 0) = false := by simpa using hz
            rw [fin_rest ({ p with en := p.now, fa := p.fa + 1, wy := 4 }) hz]
            clear hz
            go_enter Try.func44, Try.ntmps44
            go_wp2_with fail
            clear c0 c1 c2 c3 c4 c5 c6 c7 c8 f0 f1 f2 f3 f4
            generalize ((w.setCell ⟨g, 9, none⟩ (.int .i64 p.now)).setCell ⟨g, 12, none⟩ (.int .i64 (p.fa + 1))).setCell ⟨g, 13, none⟩ (.string { data := #[102, 97, 105, 108, 101, 100] }) = U at *
            have c6 := hq1.cmf
            have c2 := hq1.cfa
            simp only at c6 c2
            go_quiet (fail)
            have hBU : Below U.heap.size U (U.drewN nq) := below_drewN (Below.refl _ U) nq
            replace hq1 := hq1.below hBU
            replace hg1 := grown_below hg1 hBU
            generalize U.drewN nq = W at *
            have c0 := hq1.cst
            have c1 := hq1.cwa
            have c8 := hq1.cho
            have f0 := hq1.free 10
            have f1 := hq1.free 11
            simp only at c0 c1 c8

            go_wp2_with fail
            go_ret
            exact ⟨⟨_, rfl, own_nil _ _⟩, hq1.sst 1, grown_setCell hg1 10 (.int .i64 1)⟩

      · rw [if_neg (fun h => hmf h.1)]
        by_cases hz : p.ho = 0
        · have ez : (p.ho == 0) = true := by simpa using hz
          rw [fin_held ({ p with en := p.now, fa := p.fa + 1, wy := 4 }) hz]
          clear hz
          go_enter Try.func44, Try.ntmps44
          go_wp2_with fail
          clear c0 c1 c2 c3 c4 c5 c6 c7 c8 f0 f1 f2 f3 f4
          generalize ((w.setCell ⟨g, 9, none⟩ (.int .i64 p.now)).setCell ⟨g, 12, none⟩ (.int .i64 (p.fa + 1))).setCell ⟨g, 13, none⟩ (.string { data := #[102, 97, 105, 108, 101, 100] }) = U at *
          have c6 := hq1.cmf
          have c2 := hq1.cfa
          simp only at c6 c2
          have hmf2 : ¬ 0 < p.mf := by omega
          have hmf3 : decide (0 < p.mf) = false := by simpa using hmf2
          go_quiet (fail)
          have hBU : Below U.heap.size U (U.drewN nq) := below_drewN (Below.refl _ U) nq
          replace hq1 := hq1.below hBU
          replace hg1 := grown_below hg1 hBU
          generalize U.drewN nq = W at *
          have c0 := hq1.cst
          have c1 := hq1.cwa
          have c8 := hq1.cho
          have f0 := hq1.free 10
          have f1 := hq1.free 11
          simp only at c0 c1 c8

          go_wp2_with fail
          refine (held45 g _ _ (hq1.sst 1)).mono ?_
          rintro e w2 ⟨⟨v, rfl, q1⟩, q2, q3⟩
          go_wp2
          go_ret
          exact ⟨⟨_, rfl, q1.weak (grown_setCell hg1 10 (.int .i64 1)).size⟩, q2, grown_trans (grown_setCell hg1 10 (.int .i64 1)) q3⟩
        · have ez : (p.ho == 0) = false := by simpa using hz
          rw [fin_rest ({ p with en := p.now, fa := p.fa + 1, wy := 4 }) hz]
          clear hz
          go_enter Try.func44, Try.ntmps44
          go_wp2_with fail
          clear c0 c1 c2 c3 c4 c5 c6 c7 c8 f0 f1 f2 f3 f4
          generalize ((w.setCell ⟨g, 9, none⟩ (.int .i64 p.now)).setCell ⟨g, 12, none⟩ (.int .i64 (p.fa + 1))).setCell ⟨g, 13, none⟩ (.string { data := #[102, 97, 105, 108, 101, 100] }) = U at *
          have c6 := hq1.cmf
          have c2 := hq1.cfa
          simp only at c6 c2
          have hmf2 : ¬ 0 < p.mf := by omega
          have hmf3 : decide (0 < p.mf) = false := by simpa using hmf2
          go_quiet (fail)
          have hBU : Below U.heap.size U (U.drewN nq) := below_drewN (Below.refl _ U) nq
          replace hq1 := hq1.below hBU
          replace hg1 := grown_below hg1 hBU
          generalize U.drewN nq = W at *
          have c0 := hq1.cst
          have c1 := hq1.cwa
          have c8 := hq1.cho
          have f0 := hq1.free 10
          have f1 := hq1.free 11
          simp only at c0 c1 c8

          go_wp2_with fail
          go_ret
          exact ⟨⟨_, rfl, own_nil _ _⟩, hq1.sst 1, grown_setCell hg1 10 (.int .i64 1)⟩

    · rw [show min (p.fa + 1) 2147483647 = 2147483647 by omega]
      have hfe : p.fa = 2147483647 := by omega
      rw [hfe] at c2
      have hq1 := (hq.sfa (2147483647)).swy 4
      have hg1 := grown_setCell (grown_setCell hg 12 (.int .i64 (2147483647))) 13 (.string (whyS 4))
      have h4 : whyS 4 = { data := #[102, 97, 105, 108, 101, 100] } := rfl
      rw [h4] at hq1 hg1
      clear h4
      by_cases hmf : 0 < p.mf
      · by_cases hle : p.mf ≤ 2147483647
        · rw [if_pos ⟨hmf, hle⟩]
          go_enter Try.func44, Try.ntmps44
          go_wp2_with fail
          clear c0 c1 c2 c3 c4 c5 c6 c7 c8 f0 f1 f2 f3 f4
          generalize ((w.setCell ⟨g, 9, none⟩ (.int .i64 p.now)).setCell ⟨g, 12, none⟩ (.int .i64 (2147483647))).setCell ⟨g, 13, none⟩ (.string { data := #[102, 97, 105, 108, 101, 100] }) = U at *
          have c6 := hq1.cmf
          have c2 := hq1.cfa
          simp only at c6 c2
          go_quiet (fail)
          have hBU : Below U.heap.size U (U.drewN nq) := below_drewN (Below.refl _ U) nq
          replace hq1 := hq1.below hBU
          replace hg1 := grown_below hg1 hBU
          generalize U.drewN nq = W at *
          have c0 := hq1.cst
          have c1 := hq1.cwa
          have c8 := hq1.cho
          have f0 := hq1.free 10
          have f1 := hq1.free 11
          simp only at c0 c1 c8

          go_wp2_with fail
          go_ret
          exact ⟨⟨_, rfl, own_nil _ _⟩, (hq1.sst 5).swa false, grown_setCell (grown_setCell hg1 10 (.int .i64 5)) 11 (.bool false)⟩
        · rw [if_neg (fun h => hle h.2)]
          by_cases hz : p.ho = 0
          · have ez : (p.ho == 0) = true := by simpa using hz
            rw [fin_held ({ p with en := p.now, fa := 2147483647, wy := 4 }) hz]
            clear hz
            go_enter Try.func44, Try.ntmps44
            go_wp2_with fail
            clear c0 c1 c2 c3 c4 c5 c6 c7 c8 f0 f1 f2 f3 f4
            generalize ((w.setCell ⟨g, 9, none⟩ (.int .i64 p.now)).setCell ⟨g, 12, none⟩ (.int .i64 (2147483647))).setCell ⟨g, 13, none⟩ (.string { data := #[102, 97, 105, 108, 101, 100] }) = U at *
            have c6 := hq1.cmf
            have c2 := hq1.cfa
            simp only at c6 c2
            go_quiet (fail)
            have hBU : Below U.heap.size U (U.drewN nq) := below_drewN (Below.refl _ U) nq
            replace hq1 := hq1.below hBU
            replace hg1 := grown_below hg1 hBU
            generalize U.drewN nq = W at *
            have c0 := hq1.cst
            have c1 := hq1.cwa
            have c8 := hq1.cho
            have f0 := hq1.free 10
            have f1 := hq1.free 11
            simp only at c0 c1 c8

            go_wp2_with fail
            refine (held45 g _ _ (hq1.sst 1)).mono ?_
            rintro e w2 ⟨⟨v, rfl, q1⟩, q2, q3⟩
            go_wp2
            go_ret
            exact ⟨⟨_, rfl, q1.weak (grown_setCell hg1 10 (.int .i64 1)).size⟩, q2, grown_trans (grown_setCell hg1 10 (.int .i64 1)) q3⟩
          · have ez : (p.ho == 0) = false := by simpa using hz
            rw [fin_rest ({ p with en := p.now, fa := 2147483647, wy := 4 }) hz]
            clear hz
            go_enter Try.func44, Try.ntmps44
            go_wp2_with fail
            clear c0 c1 c2 c3 c4 c5 c6 c7 c8 f0 f1 f2 f3 f4
            generalize ((w.setCell ⟨g, 9, none⟩ (.int .i64 p.now)).setCell ⟨g, 12, none⟩ (.int .i64 (2147483647))).setCell ⟨g, 13, none⟩ (.string { data := #[102, 97, 105, 108, 101, 100] }) = U at *
            have c6 := hq1.cmf
            have c2 := hq1.cfa
            simp only at c6 c2
            go_quiet (fail)
            have hBU : Below U.heap.size U (U.drewN nq) := below_drewN (Below.refl _ U) nq
            replace hq1 := hq1.below hBU
            replace hg1 := grown_below hg1 hBU
            generalize U.drewN nq = W at *
            have c0 := hq1.cst
            have c1 := hq1.cwa
            have c8 := hq1.cho
            have f0 := hq1.free 10
            have f1 := hq1.free 11
            simp only at c0 c1 c8

            go_wp2_with fail
            go_ret
            exact ⟨⟨_, rfl, own_nil _ _⟩, hq1.sst 1, grown_setCell hg1 10 (.int .i64 1)⟩

      · rw [if_neg (fun h => hmf h.1)]
        by_cases hz : p.ho = 0
        · have ez : (p.ho == 0) = true := by simpa using hz
          rw [fin_held ({ p with en := p.now, fa := 2147483647, wy := 4 }) hz]
          clear hz
          go_enter Try.func44, Try.ntmps44
          go_wp2_with fail
          clear c0 c1 c2 c3 c4 c5 c6 c7 c8 f0 f1 f2 f3 f4
          generalize ((w.setCell ⟨g, 9, none⟩ (.int .i64 p.now)).setCell ⟨g, 12, none⟩ (.int .i64 (2147483647))).setCell ⟨g, 13, none⟩ (.string { data := #[102, 97, 105, 108, 101, 100] }) = U at *
          have c6 := hq1.cmf
          have c2 := hq1.cfa
          simp only at c6 c2
          have hmf2 : ¬ 0 < p.mf := by omega
          have hmf3 : decide (0 < p.mf) = false := by simpa using hmf2
          go_quiet (fail)
          have hBU : Below U.heap.size U (U.drewN nq) := below_drewN (Below.refl _ U) nq
          replace hq1 := hq1.below hBU
          replace hg1 := grown_below hg1 hBU
          generalize U.drewN nq = W at *
          have c0 := hq1.cst
          have c1 := hq1.cwa
          have c8 := hq1.cho
          have f0 := hq1.free 10
          have f1 := hq1.free 11
          simp only at c0 c1 c8

          go_wp2_with fail
          refine (held45 g _ _ (hq1.sst 1)).mono ?_
          rintro e w2 ⟨⟨v, rfl, q1⟩, q2, q3⟩
          go_wp2
          go_ret
          exact ⟨⟨_, rfl, q1.weak (grown_setCell hg1 10 (.int .i64 1)).size⟩, q2, grown_trans (grown_setCell hg1 10 (.int .i64 1)) q3⟩
        · have ez : (p.ho == 0) = false := by simpa using hz
          rw [fin_rest ({ p with en := p.now, fa := 2147483647, wy := 4 }) hz]
          clear hz
          go_enter Try.func44, Try.ntmps44
          go_wp2_with fail
          clear c0 c1 c2 c3 c4 c5 c6 c7 c8 f0 f1 f2 f3 f4
          generalize ((w.setCell ⟨g, 9, none⟩ (.int .i64 p.now)).setCell ⟨g, 12, none⟩ (.int .i64 (2147483647))).setCell ⟨g, 13, none⟩ (.string { data := #[102, 97, 105, 108, 101, 100] }) = U at *
          have c6 := hq1.cmf
          have c2 := hq1.cfa
          simp only at c6 c2
          have hmf2 : ¬ 0 < p.mf := by omega
          have hmf3 : decide (0 < p.mf) = false := by simpa using hmf2
          go_quiet (fail)
          have hBU : Below U.heap.size U (U.drewN nq) := below_drewN (Below.refl _ U) nq
          replace hq1 := hq1.below hBU
          replace hg1 := grown_below hg1 hBU
          generalize U.drewN nq = W at *
          have c0 := hq1.cst
          have c1 := hq1.cwa
          have c8 := hq1.cho
          have f0 := hq1.free 10
          have f1 := hq1.free 11
          simp only at c0 c1 c8

          go_wp2_with fail
          go_ret
          exact ⟨⟨_, rfl, own_nil _ _⟩, hq1.sst 1, grown_setCell hg1 10 (.int .i64 1)⟩

  · have hd : p.ldown1 = ({ p with en := p.now, wy := 5, wa := p.pe } : Pol).fin := by unfold Pol.ldown1; rw [if_neg (by omega), if_pos hs]
    rw [hd]
    rw [hs] at c0
    clear hd hs
    have hq2 := ((hq.swy 5).swa p.pe).sst 1
    have hg2 := grown_setCell (grown_setCell (grown_setCell hg 13 (.string (whyS 5))) 11 (.bool p.pe)) 10 (.int .i64 1)
    by_cases hz : p.ho = 0
    · have ez : (p.ho == 0) = true := by simpa using hz
      rw [fin_held ({ p with en := p.now, wy := 5, wa := p.pe }) hz]
      clear hz
      go_enter Try.func44, Try.ntmps44
      go_wp2_with fail
      refine (held45 g _ _ (hq2)).mono ?_
      rintro e w2 ⟨⟨v, rfl, q1⟩, q2, q3⟩
      go_wp2
      go_ret
      exact ⟨⟨_, rfl, q1.weak (hg2).size⟩, q2, grown_trans (hg2) q3⟩
    · have ez : (p.ho == 0) = false := by simpa using hz
      rw [fin_rest ({ p with en := p.now, wy := 5, wa := p.pe }) hz]
      clear hz
      go_enter Try.func44, Try.ntmps44
      go_wp2_with fail
      go_ret
      exact ⟨⟨_, rfl, own_nil _ _⟩, hq2, hg2⟩
  · have hd : p.ldown1 = ({ p with en := p.now, wa := p.wa || (p.pe && (p.wy != 3)) } : Pol).fin := by unfold Pol.ldown1; rw [if_neg (by omega), if_neg (by omega), if_pos hs]
    rw [hd]
    rw [hs] at c0
    clear hd hs
    have hw := why_down p.wy
    by_cases hwa : p.wa = true
    · rw [hwa] at c1
      have hv : (p.wa || (p.pe && (p.wy != 3))) = true := by simp [hwa]
      rw [hv]
      clear hv hwa
      have hq2 := (hq.swa true).sst 1
      have hg2 := grown_setCell (grown_setCell hg 11 (.bool true)) 10 (.int .i64 1)
      by_cases hz : p.ho = 0
      · have ez : (p.ho == 0) = true := by simpa using hz
        rw [fin_held ({ p with en := p.now, wa := true }) hz]
        clear hz
        go_enter Try.func44, Try.ntmps44
        go_wp2_with fail
        refine (held45 g _ _ (hq2)).mono ?_
        rintro e w2 ⟨⟨v, rfl, q1⟩, q2, q3⟩
        go_wp2
        go_ret
        exact ⟨⟨_, rfl, q1.weak (hg2).size⟩, q2, grown_trans (hg2) q3⟩
      · have ez : (p.ho == 0) = false := by simpa using hz
        rw [fin_rest ({ p with en := p.now, wa := true }) hz]
        clear hz
        go_enter Try.func44, Try.ntmps44
        go_wp2_with fail
        go_ret
        exact ⟨⟨_, rfl, own_nil _ _⟩, hq2, hg2⟩
    · simp only [Bool.not_eq_true] at hwa
      rw [hwa] at c1
      by_cases hpe : p.pe = true
      · rw [hpe] at c7
        by_cases h3 : p.wy = 3
        · have e3 : (p.wy == 3) = true := by simpa using h3
          rw [e3] at hw
          clear e3
          have hv : (p.wa || (p.pe && (p.wy != 3))) = false := by simp [hwa, hpe, h3]
          rw [hv]
          clear hv hwa hpe h3
          have hq2 := (hq.swa false).sst 1
          have hg2 := grown_setCell (grown_setCell hg 11 (.bool false)) 10 (.int .i64 1)
          by_cases hz : p.ho = 0
          · have ez : (p.ho == 0) = true := by simpa using hz
            rw [fin_held ({ p with en := p.now, wa := false }) hz]
            clear hz
            go_enter Try.func44, Try.ntmps44
            go_wp2_with fail
            refine (held45 g _ _ (hq2)).mono ?_
            rintro e w2 ⟨⟨v, rfl, q1⟩, q2, q3⟩
            go_wp2
            go_ret
            exact ⟨⟨_, rfl, q1.weak (hg2).size⟩, q2, grown_trans (hg2) q3⟩
          · have ez : (p.ho == 0) = false := by simpa using hz
            rw [fin_rest ({ p with en := p.now, wa := false }) hz]
            clear hz
            go_enter Try.func44, Try.ntmps44
            go_wp2_with fail
            go_ret
            exact ⟨⟨_, rfl, own_nil _ _⟩, hq2, hg2⟩
        · have e3 : (p.wy == 3) = false := by simpa using h3
          rw [e3] at hw
          clear e3
          have hv : (p.wa || (p.pe && (p.wy != 3))) = true := by simp [hwa, hpe, h3]
          rw [hv]
          clear hv hwa hpe h3
          have hq2 := (hq.swa true).sst 1
          have hg2 := grown_setCell (grown_setCell hg 11 (.bool true)) 10 (.int .i64 1)
          by_cases hz : p.ho = 0
          · have ez : (p.ho == 0) = true := by simpa using hz
            rw [fin_held ({ p with en := p.now, wa := true }) hz]
            clear hz
            go_enter Try.func44, Try.ntmps44
            go_wp2_with fail
            refine (held45 g _ _ (hq2)).mono ?_
            rintro e w2 ⟨⟨v, rfl, q1⟩, q2, q3⟩
            go_wp2
            go_ret
            exact ⟨⟨_, rfl, q1.weak (hg2).size⟩, q2, grown_trans (hg2) q3⟩
          · have ez : (p.ho == 0) = false := by simpa using hz
            rw [fin_rest ({ p with en := p.now, wa := true }) hz]
            clear hz
            go_enter Try.func44, Try.ntmps44
            go_wp2_with fail
            go_ret
            exact ⟨⟨_, rfl, own_nil _ _⟩, hq2, hg2⟩
      · simp only [Bool.not_eq_true] at hpe
        rw [hpe] at c7
        have hv : (p.wa || (p.pe && (p.wy != 3))) = false := by simp [hwa, hpe]
        rw [hv]
        clear hv hwa hpe
        have hq2 := (hq.swa false).sst 1
        have hg2 := grown_setCell (grown_setCell hg 11 (.bool false)) 10 (.int .i64 1)
        by_cases hz : p.ho = 0
        · have ez : (p.ho == 0) = true := by simpa using hz
          rw [fin_held ({ p with en := p.now, wa := false }) hz]
          clear hz
          go_enter Try.func44, Try.ntmps44
          go_wp2_with fail
          refine (held45 g _ _ (hq2)).mono ?_
          rintro e w2 ⟨⟨v, rfl, q1⟩, q2, q3⟩
          go_wp2
          go_ret
          exact ⟨⟨_, rfl, q1.weak (hg2).size⟩, q2, grown_trans (hg2) q3⟩
        · have ez : (p.ho == 0) = false := by simpa using hz
          rw [fin_rest ({ p with en := p.now, wa := false }) hz]
          clear hz
          go_enter Try.func44, Try.ntmps44
          go_wp2_with fail
          go_ret
          exact ⟨⟨_, rfl, own_nil _ _⟩, hq2, hg2⟩
end Go.Proofs.Ytibdaonhldlmbaa.F
