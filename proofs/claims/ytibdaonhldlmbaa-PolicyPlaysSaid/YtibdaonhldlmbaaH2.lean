import Derived.Test.YtibdaonhldlmbaaH1
import Derived.Test.YtibdaonhldlmbaaB5
set_option linter.unusedVariables false
set_option linter.unusedSimpArgs false
namespace Go.Proofs.Ytibdaonhldlmbaa.F
open Go.RowKit Go.Proofs.Ytibdaonhldlmbaa.K
variable (g : Nat) (c : Cf) (p : Pol) (w : World)
set_option maxHeartbeats 4000000 in
theorem rup33 (m : Bool) (h : RefAt w g c p) : Calls Try.prog 33 #[.pointer (some ⟨g, 0, none⟩)] w (RActR g c (mv 2 m p) w) := by
  have c_st := h.cst
  have c_wa := h.cwa
  have c_fa := h.cfa
  have c_wy := h.cwy
  have c_now := h.cnow
  have c_up := h.cup
  have c_la := h.cla
  have c_en := h.cen
  have c_id := h.cid
  have c_se := h.cse
  have c_ho := h.cho
  have c_pe := h.cpe
  have c_de := h.cde
  have c_mf := h.cmf
  have f_st := h.free 33
  have f_wa := h.free 34
  have f_fa := h.free 35
  have f_wy := h.free 36
  have f_now := h.free 37
  have f_up := h.free 38
  have f_la := h.free 39
  have f_en := h.free 40
  unfold mv
  rw [if_neg (by decide), if_neg (by decide), if_pos rfl]
  by_cases s0 : p.st = 0 ∨ p.st = 1 ∨ p.st = 4 ∨ p.st = 5
  · rw [if_pos s0]
    unfold Pol.up1
    rcases s0 with s0 | s0 | s0 | s0
    · skip
      have x0 : (p.st == 0) = true := beq_iff_eq.2 (by omega)
      have x1 : (p.st == 1) = false := beq_eq_false_iff_ne.2 (by omega)
      have x4 : (p.st == 4) = false := beq_eq_false_iff_ne.2 (by omega)
      have x5 : (p.st == 5) = false := beq_eq_false_iff_ne.2 (by omega)
      rw [if_pos s0]
      clear s0
      go_enter Try.func33, Try.ntmps33
      go_wp2_with fail
      refine (rdial55 g c _ _ ((h.swa true).sfa 0)).mono ?_
      rintro e w' ⟨⟨v, rfl, h1⟩, h2, h3⟩
      go_wp2
      go_ret
      exact ⟨⟨_, rfl, h1.weak (by simp)⟩, h2, grown_trans (grown_setCell (grown_setCell (grownBy_refl _ _) _ _) _ _) h3⟩
    · skip
      have x0 : (p.st == 0) = false := beq_eq_false_iff_ne.2 (by omega)
      have x1 : (p.st == 1) = true := beq_iff_eq.2 (by omega)
      have x4 : (p.st == 4) = false := beq_eq_false_iff_ne.2 (by omega)
      have x5 : (p.st == 5) = false := beq_eq_false_iff_ne.2 (by omega)
      rw [if_neg (by omega), if_neg (by omega)]
      clear s0
      go_enter Try.func33, Try.ntmps33
      go_wp2
      go_ret
      exact ⟨⟨_, rfl, own_nil _ _⟩, ((h.swa true).sfa 0), (grown_setCell (grown_setCell (grownBy_refl _ _) _ _) _ _)⟩
    · skip
      have x0 : (p.st == 0) = false := beq_eq_false_iff_ne.2 (by omega)
      have x1 : (p.st == 1) = false := beq_eq_false_iff_ne.2 (by omega)
      have x4 : (p.st == 4) = true := beq_iff_eq.2 (by omega)
      have x5 : (p.st == 5) = false := beq_eq_false_iff_ne.2 (by omega)
      rw [if_neg (by omega), if_neg (by omega)]
      clear s0
      go_enter Try.func33, Try.ntmps33
      go_wp2
      go_ret
      exact ⟨⟨_, rfl, own_nil _ _⟩, ((h.swa true).sfa 0), (grown_setCell (grown_setCell (grownBy_refl _ _) _ _) _ _)⟩
    · skip
      have x0 : (p.st == 0) = false := beq_eq_false_iff_ne.2 (by omega)
      have x1 : (p.st == 1) = false := beq_eq_false_iff_ne.2 (by omega)
      have x4 : (p.st == 4) = false := beq_eq_false_iff_ne.2 (by omega)
      have x5 : (p.st == 5) = true := beq_iff_eq.2 (by omega)
      rw [if_neg (by omega), if_pos s0]
      clear s0
      unfold ovr
      by_cases ho : p.ho ≤ wrap64 (p.now - p.en)
      · rw [if_pos (by simpa using ho)]
        go_enter Try.func33, Try.ntmps33
        go_wp2_with fail
        have q1 : RefAt (((w.setCell ⟨g, 34, none⟩ (.bool true)).setCell ⟨g, 35, none⟩ (.int .i64 0)).setCell ⟨g, 33, none⟩ (.int .i64 1)) g c ({ p with wa := true, fa := 0, st := 1 } : Pol) := (((h.swa true).sfa 0).sst 1)
        have g1 : w.grownBy (((w.setCell ⟨g, 34, none⟩ (.bool true)).setCell ⟨g, 35, none⟩ (.int .i64 0)).setCell ⟨g, 33, none⟩ (.int .i64 1)) (some g) := (grown_setCell (grown_setCell (grown_setCell (grownBy_refl w (some g)) _ _) _ _) _ _)
        clear c_st c_wa c_fa c_wy c_now c_up c_la c_en c_id c_se c_ho c_pe c_de c_mf f_st f_wa f_fa f_wy f_now f_up f_la f_en
        generalize ((w.setCell ⟨g, 34, none⟩ (.bool true)).setCell ⟨g, 35, none⟩ (.int .i64 0)).setCell ⟨g, 33, none⟩ (.int .i64 1) = U1 at *
        have c_st := q1.cst
        have c_wa := q1.cwa
        have c_fa := q1.cfa
        have c_wy := q1.cwy
        have c_now := q1.cnow
        have c_up := q1.cup
        have c_la := q1.cla
        have c_en := q1.cen
        have c_id := q1.cid
        have c_se := q1.cse
        have c_ho := q1.cho
        have c_pe := q1.cpe
        have c_de := q1.cde
        have c_mf := q1.cmf
        have f_st := q1.free 33
        have f_wa := q1.free 34
        have f_fa := q1.free 35
        have f_wy := q1.free 36
        have f_now := q1.free 37
        have f_up := q1.free 38
        have f_la := q1.free 39
        have f_en := q1.free 40
        simp only at c_st c_wa c_fa c_wy c_now c_up c_la c_en c_id c_se c_ho c_pe c_de c_mf
        go_quiet (fail)
        have hBU : Below U1.heap.size U1 (U1.drewN nq) := below_drewN (Below.refl _ _) nq
        replace q1 := q1.below hBU
        replace g1 := grown_below g1 hBU
        clear c_st c_wa c_fa c_wy c_now c_up c_la c_en c_id c_se c_ho c_pe c_de c_mf f_st f_wa f_fa f_wy f_now f_up f_la f_en
        clear hBU
        generalize U1.drewN nq = V1 at *
        have c_st := q1.cst
        have c_wa := q1.cwa
        have c_fa := q1.cfa
        have c_wy := q1.cwy
        have c_now := q1.cnow
        have c_up := q1.cup
        have c_la := q1.cla
        have c_en := q1.cen
        have c_id := q1.cid
        have c_se := q1.cse
        have c_ho := q1.cho
        have c_pe := q1.cpe
        have c_de := q1.cde
        have c_mf := q1.cmf
        have f_st := q1.free 33
        have f_wa := q1.free 34
        have f_fa := q1.free 35
        have f_wy := q1.free 36
        have f_now := q1.free 37
        have f_up := q1.free 38
        have f_la := q1.free 39
        have f_en := q1.free 40
        simp only at c_st c_wa c_fa c_wy c_now c_up c_la c_en c_id c_se c_ho c_pe c_de c_mf
        go_wp2_with fail
        refine (rheld54 g c _ _ q1).mono ?_
        rintro e w' ⟨⟨v, rfl, h1⟩, h2, h3⟩
        go_wp2
        go_ret
        exact ⟨⟨_, rfl, h1.weak g1.size⟩, h2, grown_trans g1 h3⟩
      · rw [if_neg (by simpa using ho)]
        go_enter Try.func33, Try.ntmps33
        go_wp2_with fail
        have q1 : RefAt (((w.setCell ⟨g, 34, none⟩ (.bool true)).setCell ⟨g, 35, none⟩ (.int .i64 0)).setCell ⟨g, 33, none⟩ (.int .i64 1)) g c ({ p with wa := true, fa := 0, st := 1 } : Pol) := (((h.swa true).sfa 0).sst 1)
        have g1 : w.grownBy (((w.setCell ⟨g, 34, none⟩ (.bool true)).setCell ⟨g, 35, none⟩ (.int .i64 0)).setCell ⟨g, 33, none⟩ (.int .i64 1)) (some g) := (grown_setCell (grown_setCell (grown_setCell (grownBy_refl w (some g)) _ _) _ _) _ _)
        clear c_st c_wa c_fa c_wy c_now c_up c_la c_en c_id c_se c_ho c_pe c_de c_mf f_st f_wa f_fa f_wy f_now f_up f_la f_en
        generalize ((w.setCell ⟨g, 34, none⟩ (.bool true)).setCell ⟨g, 35, none⟩ (.int .i64 0)).setCell ⟨g, 33, none⟩ (.int .i64 1) = U1 at *
        have c_st := q1.cst
        have c_wa := q1.cwa
        have c_fa := q1.cfa
        have c_wy := q1.cwy
        have c_now := q1.cnow
        have c_up := q1.cup
        have c_la := q1.cla
        have c_en := q1.cen
        have c_id := q1.cid
        have c_se := q1.cse
        have c_ho := q1.cho
        have c_pe := q1.cpe
        have c_de := q1.cde
        have c_mf := q1.cmf
        have f_st := q1.free 33
        have f_wa := q1.free 34
        have f_fa := q1.free 35
        have f_wy := q1.free 36
        have f_now := q1.free 37
        have f_up := q1.free 38
        have f_la := q1.free 39
        have f_en := q1.free 40
        simp only at c_st c_wa c_fa c_wy c_now c_up c_la c_en c_id c_se c_ho c_pe c_de c_mf
        go_quiet (fail)
        have hBU : Below U1.heap.size U1 (U1.drewN nq) := below_drewN (Below.refl _ _) nq
        replace q1 := q1.below hBU
        replace g1 := grown_below g1 hBU
        clear c_st c_wa c_fa c_wy c_now c_up c_la c_en c_id c_se c_ho c_pe c_de c_mf f_st f_wa f_fa f_wy f_now f_up f_la f_en
        clear hBU
        generalize U1.drewN nq = V1 at *
        have c_st := q1.cst
        have c_wa := q1.cwa
        have c_fa := q1.cfa
        have c_wy := q1.cwy
        have c_now := q1.cnow
        have c_up := q1.cup
        have c_la := q1.cla
        have c_en := q1.cen
        have c_id := q1.cid
        have c_se := q1.cse
        have c_ho := q1.cho
        have c_pe := q1.cpe
        have c_de := q1.cde
        have c_mf := q1.cmf
        have f_st := q1.free 33
        have f_wa := q1.free 34
        have f_fa := q1.free 35
        have f_wy := q1.free 36
        have f_now := q1.free 37
        have f_up := q1.free 38
        have f_la := q1.free 39
        have f_en := q1.free 40
        simp only at c_st c_wa c_fa c_wy c_now c_up c_la c_en c_id c_se c_ho c_pe c_de c_mf
        go_wp2_with fail
        go_ret
        exact ⟨⟨_, rfl, own_nil _ _⟩, q1, g1⟩
  · rw [if_neg s0]
    have x0 : (p.st == 0) = false := beq_eq_false_iff_ne.2 (by omega)
    have x1 : (p.st == 1) = false := beq_eq_false_iff_ne.2 (by omega)
    have x4 : (p.st == 4) = false := beq_eq_false_iff_ne.2 (by omega)
    have x5 : (p.st == 5) = false := beq_eq_false_iff_ne.2 (by omega)
    clear s0
    go_enter Try.func33, Try.ntmps33
    go_wp2
    go_ret
    exact ⟨⟨_, rfl, own_nil _ _⟩, h, (grownBy_refl _ _)⟩
set_option maxHeartbeats 8000000 in
theorem rldown36 (m : Bool) (hfa : 0 ≤ p.fa ∧ p.fa ≤ 2147483647) (h : RefAt w g c p) : Calls Try.prog 36 #[.pointer (some ⟨g, 0, none⟩)] w (RActR g c (mv 5 m p) w) := by
  have c_st := h.cst
  have c_wa := h.cwa
  have c_fa := h.cfa
  have c_wy := h.cwy
  have c_now := h.cnow
  have c_up := h.cup
  have c_la := h.cla
  have c_en := h.cen
  have c_id := h.cid
  have c_se := h.cse
  have c_ho := h.cho
  have c_pe := h.cpe
  have c_de := h.cde
  have c_mf := h.cmf
  have f_st := h.free 33
  have f_wa := h.free 34
  have f_fa := h.free 35
  have f_wy := h.free 36
  have f_now := h.free 37
  have f_up := h.free 38
  have f_la := h.free 39
  have f_en := h.free 40
  unfold mv
  rw [if_neg (by decide), if_neg (by decide), if_neg (by decide), if_neg (by decide), if_neg (by decide), if_pos rfl]
  by_cases s2 : p.st = 2
  · rw [if_pos (by omega)]
    have hd : p.ldown1 = if 0 < p.mf ∧ p.mf ≤ min (p.fa + 1) 2147483647 then ({ ({ p with en := p.now, fa := min (p.fa + 1) 2147483647, wy := 4 } : Pol) with st := 5, wa := false }, []) else ({ p with en := p.now, fa := min (p.fa + 1) 2147483647, wy := 4 } : Pol).fin := by unfold Pol.ldown1; rw [if_pos s2]; rfl
    rw [hd]
    clear hd
    have x2 : (p.st == 2) = true := beq_iff_eq.2 (by omega)
    have x3 : (p.st == 3) = false := beq_eq_false_iff_ne.2 (by omega)
    have x4 : (p.st == 4) = false := beq_eq_false_iff_ne.2 (by omega)
    clear s2
    by_cases hm : p.fa < 2147483647
    · rw [show min (p.fa + 1) 2147483647 = (p.fa + 1) by omega]
      by_cases hmf : 0 < p.mf
      · by_cases hle : p.mf ≤ (p.fa + 1)
        · rw [if_pos ⟨hmf, hle⟩]
          go_enter Try.func36, Try.ntmps36
          go_wp2_with fail
          have q1 : RefAt ((w.setCell ⟨g, 35, none⟩ (.int .i64 (p.fa + 1))).setCell ⟨g, 36, none⟩ (.string { data := #[102, 97, 105, 108, 101, 100] })) g c ({ p with fa := (p.fa + 1), wy := 4 } : Pol) := ((h.sfa (p.fa + 1)).swy 4)
          have g1 : w.grownBy ((w.setCell ⟨g, 35, none⟩ (.int .i64 (p.fa + 1))).setCell ⟨g, 36, none⟩ (.string { data := #[102, 97, 105, 108, 101, 100] })) (some g) := (grown_setCell (grown_setCell (grownBy_refl w (some g)) _ _) _ _)
          clear c_st c_wa c_fa c_wy c_now c_up c_la c_en c_id c_se c_ho c_pe c_de c_mf f_st f_wa f_fa f_wy f_now f_up f_la f_en
          generalize (w.setCell ⟨g, 35, none⟩ (.int .i64 (p.fa + 1))).setCell ⟨g, 36, none⟩ (.string { data := #[102, 97, 105, 108, 101, 100] }) = U1 at *
          have c_st := q1.cst
          have c_wa := q1.cwa
          have c_fa := q1.cfa
          have c_wy := q1.cwy
          have c_now := q1.cnow
          have c_up := q1.cup
          have c_la := q1.cla
          have c_en := q1.cen
          have c_id := q1.cid
          have c_se := q1.cse
          have c_ho := q1.cho
          have c_pe := q1.cpe
          have c_de := q1.cde
          have c_mf := q1.cmf
          have f_st := q1.free 33
          have f_wa := q1.free 34
          have f_fa := q1.free 35
          have f_wy := q1.free 36
          have f_now := q1.free 37
          have f_up := q1.free 38
          have f_la := q1.free 39
          have f_en := q1.free 40
          simp only at c_st c_wa c_fa c_wy c_now c_up c_la c_en c_id c_se c_ho c_pe c_de c_mf
          go_quiet (fail)
          have hBU : Below U1.heap.size U1 (U1.drewN nq) := below_drewN (Below.refl _ _) nq
          replace q1 := q1.below hBU
          replace g1 := grown_below g1 hBU
          clear c_st c_wa c_fa c_wy c_now c_up c_la c_en c_id c_se c_ho c_pe c_de c_mf f_st f_wa f_fa f_wy f_now f_up f_la f_en
          clear hBU
          generalize U1.drewN nq = V1 at *
          have c_st := q1.cst
          have c_wa := q1.cwa
          have c_fa := q1.cfa
          have c_wy := q1.cwy
          have c_now := q1.cnow
          have c_up := q1.cup
          have c_la := q1.cla
          have c_en := q1.cen
          have c_id := q1.cid
          have c_se := q1.cse
          have c_ho := q1.cho
          have c_pe := q1.cpe
          have c_de := q1.cde
          have c_mf := q1.cmf
          have f_st := q1.free 33
          have f_wa := q1.free 34
          have f_fa := q1.free 35
          have f_wy := q1.free 36
          have f_now := q1.free 37
          have f_up := q1.free 38
          have f_la := q1.free 39
          have f_en := q1.free 40
          simp only at c_st c_wa c_fa c_wy c_now c_up c_la c_en c_id c_se c_ho c_pe c_de c_mf
          go_wp2_with fail
          go_ret
          exact ⟨⟨_, rfl, own_nil _ _⟩, (((q1.sst 5).swa false).sen p.now), (grown_setCell (grown_setCell (grown_setCell g1 _ _) _ _) _ _)⟩
        · rw [if_neg (fun hh => hle hh.2)]
          by_cases hz : p.ho = 0
          · have ez : (p.ho == 0) = true := beq_iff_eq.2 hz
            rw [fin_held ({ p with en := p.now, fa := (p.fa + 1), wy := 4 } : Pol) hz]
            clear hz
            go_enter Try.func36, Try.ntmps36
            go_wp2_with fail
            have q1 : RefAt ((w.setCell ⟨g, 35, none⟩ (.int .i64 (p.fa + 1))).setCell ⟨g, 36, none⟩ (.string { data := #[102, 97, 105, 108, 101, 100] })) g c ({ p with fa := (p.fa + 1), wy := 4 } : Pol) := ((h.sfa (p.fa + 1)).swy 4)
            have g1 : w.grownBy ((w.setCell ⟨g, 35, none⟩ (.int .i64 (p.fa + 1))).setCell ⟨g, 36, none⟩ (.string { data := #[102, 97, 105, 108, 101, 100] })) (some g) := (grown_setCell (grown_setCell (grownBy_refl w (some g)) _ _) _ _)
            clear c_st c_wa c_fa c_wy c_now c_up c_la c_en c_id c_se c_ho c_pe c_de c_mf f_st f_wa f_fa f_wy f_now f_up f_la f_en
            generalize (w.setCell ⟨g, 35, none⟩ (.int .i64 (p.fa + 1))).setCell ⟨g, 36, none⟩ (.string { data := #[102, 97, 105, 108, 101, 100] }) = U1 at *
            have c_st := q1.cst
            have c_wa := q1.cwa
            have c_fa := q1.cfa
            have c_wy := q1.cwy
            have c_now := q1.cnow
            have c_up := q1.cup
            have c_la := q1.cla
            have c_en := q1.cen
            have c_id := q1.cid
            have c_se := q1.cse
            have c_ho := q1.cho
            have c_pe := q1.cpe
            have c_de := q1.cde
            have c_mf := q1.cmf
            have f_st := q1.free 33
            have f_wa := q1.free 34
            have f_fa := q1.free 35
            have f_wy := q1.free 36
            have f_now := q1.free 37
            have f_up := q1.free 38
            have f_la := q1.free 39
            have f_en := q1.free 40
            simp only at c_st c_wa c_fa c_wy c_now c_up c_la c_en c_id c_se c_ho c_pe c_de c_mf
            go_quiet (fail)
            have hBU : Below U1.heap.size U1 (U1.drewN nq) := below_drewN (Below.refl _ _) nq
            replace q1 := q1.below hBU
            replace g1 := grown_below g1 hBU
            clear c_st c_wa c_fa c_wy c_now c_up c_la c_en c_id c_se c_ho c_pe c_de c_mf f_st f_wa f_fa f_wy f_now f_up f_la f_en
            clear hBU
            generalize U1.drewN nq = V1 at *
            have c_st := q1.cst
            have c_wa := q1.cwa
            have c_fa := q1.cfa
            have c_wy := q1.cwy
            have c_now := q1.cnow
            have c_up := q1.cup
            have c_la := q1.cla
            have c_en := q1.cen
            have c_id := q1.cid
            have c_se := q1.cse
            have c_ho := q1.cho
            have c_pe := q1.cpe
            have c_de := q1.cde
            have c_mf := q1.cmf
            have f_st := q1.free 33
            have f_wa := q1.free 34
            have f_fa := q1.free 35
            have f_wy := q1.free 36
            have f_now := q1.free 37
            have f_up := q1.free 38
            have f_la := q1.free 39
            have f_en := q1.free 40
            simp only at c_st c_wa c_fa c_wy c_now c_up c_la c_en c_id c_se c_ho c_pe c_de c_mf
            go_wp2_with fail
            refine (rheld54 g c _ _ ((q1.sst 1).sen p.now)).mono ?_
            rintro e w' ⟨⟨v, rfl, h1⟩, h2, h3⟩
            go_wp2
            go_ret
            exact ⟨⟨_, rfl, h1.weak (grown_setCell (grown_setCell g1 _ _) _ _).size⟩, h2, grown_trans (grown_setCell (grown_setCell g1 _ _) _ _) h3⟩
          · have ez : (p.ho == 0) = false := beq_eq_false_iff_ne.2 hz
            rw [fin_rest ({ p with en := p.now, fa := (p.fa + 1), wy := 4 } : Pol) hz]
            clear hz
            go_enter Try.func36, Try.ntmps36
            go_wp2_with fail
            have q1 : RefAt ((w.setCell ⟨g, 35, none⟩ (.int .i64 (p.fa + 1))).setCell ⟨g, 36, none⟩ (.string { data := #[102, 97, 105, 108, 101, 100] })) g c ({ p with fa := (p.fa + 1), wy := 4 } : Pol) := ((h.sfa (p.fa + 1)).swy 4)
            have g1 : w.grownBy ((w.setCell ⟨g, 35, none⟩ (.int .i64 (p.fa + 1))).setCell ⟨g, 36, none⟩ (.string { data := #[102, 97, 105, 108, 101, 100] })) (some g) := (grown_setCell (grown_setCell (grownBy_refl w (some g)) _ _) _ _)
            clear c_st c_wa c_fa c_wy c_now c_up c_la c_en c_id c_se c_ho c_pe c_de c_mf f_st f_wa f_fa f_wy f_now f_up f_la f_en
            generalize (w.setCell ⟨g, 35, none⟩ (.int .i64 (p.fa + 1))).setCell ⟨g, 36, none⟩ (.string { data := #[102, 97, 105, 108, 101, 100] }) = U1 at *
            have c_st := q1.cst
            have c_wa := q1.cwa
            have c_fa := q1.cfa
            have c_wy := q1.cwy
            have c_now := q1.cnow
            have c_up := q1.cup
            have c_la := q1.cla
            have c_en := q1.cen
            have c_id := q1.cid
            have c_se := q1.cse
            have c_ho := q1.cho
            have c_pe := q1.cpe
            have c_de := q1.cde
            have c_mf := q1.cmf
            have f_st := q1.free 33
            have f_wa := q1.free 34
            have f_fa := q1.free 35
            have f_wy := q1.free 36
            have f_now := q1.free 37
            have f_up := q1.free 38
            have f_la := q1.free 39
            have f_en := q1.free 40
            simp only at c_st c_wa c_fa c_wy c_now c_up c_la c_en c_id c_se c_ho c_pe c_de c_mf
            go_quiet (fail)
            have hBU : Below U1.heap.size U1 (U1.drewN nq) := below_drewN (Below.refl _ _) nq
            replace q1 := q1.below hBU
            replace g1 := grown_below g1 hBU
            clear c_st c_wa c_fa c_wy c_now c_up c_la c_en c_id c_se c_ho c_pe c_de c_mf f_st f_wa f_fa f_wy f_now f_up f_la f_en
            clear hBU
            generalize U1.drewN nq = V1 at *
            have c_st := q1.cst
            have c_wa := q1.cwa
            have c_fa := q1.cfa
            have c_wy := q1.cwy
            have c_now := q1.cnow
            have c_up := q1.cup
            have c_la := q1.cla
            have c_en := q1.cen
            have c_id := q1.cid
            have c_se := q1.cse
            have c_ho := q1.cho
            have c_pe := q1.cpe
            have c_de := q1.cde
            have c_mf := q1.cmf
            have f_st := q1.free 33
            have f_wa := q1.free 34
            have f_fa := q1.free 35
            have f_wy := q1.free 36
            have f_now := q1.free 37
            have f_up := q1.free 38
            have f_la := q1.free 39
            have f_en := q1.free 40
            simp only at c_st c_wa c_fa c_wy c_now c_up c_la c_en c_id c_se c_ho c_pe c_de c_mf
            go_wp2_with fail
            go_ret
            exact ⟨⟨_, rfl, own_nil _ _⟩, ((q1.sst 1).sen p.now), (grown_setCell (grown_setCell g1 _ _) _ _)⟩
      · rw [if_neg (fun hh => hmf hh.1)]
        have dmf : decide (0 < p.mf) = false := decide_eq_false hmf
        by_cases hz : p.ho = 0
        · have ez : (p.ho == 0) = true := beq_iff_eq.2 hz
          rw [fin_held ({ p with en := p.now, fa := (p.fa + 1), wy := 4 } : Pol) hz]
          clear hz
          go_enter Try.func36, Try.ntmps36
          go_wp2_with fail
          have q1 : RefAt ((w.setCell ⟨g, 35, none⟩ (.int .i64 (p.fa + 1))).setCell ⟨g, 36, none⟩ (.string { data := #[102, 97, 105, 108, 101, 100] })) g c ({ p with fa := (p.fa + 1), wy := 4 } : Pol) := ((h.sfa (p.fa + 1)).swy 4)
          have g1 : w.grownBy ((w.setCell ⟨g, 35, none⟩ (.int .i64 (p.fa + 1))).setCell ⟨g, 36, none⟩ (.string { data := #[102, 97, 105, 108, 101, 100] })) (some g) := (grown_setCell (grown_setCell (grownBy_refl w (some g)) _ _) _ _)
          clear c_st c_wa c_fa c_wy c_now c_up c_la c_en c_id c_se c_ho c_pe c_de c_mf f_st f_wa f_fa f_wy f_now f_up f_la f_en
          generalize (w.setCell ⟨g, 35, none⟩ (.int .i64 (p.fa + 1))).setCell ⟨g, 36, none⟩ (.string { data := #[102, 97, 105, 108, 101, 100] }) = U1 at *
          have c_st := q1.cst
          have c_wa := q1.cwa
          have c_fa := q1.cfa
          have c_wy := q1.cwy
          have c_now := q1.cnow
          have c_up := q1.cup
          have c_la := q1.cla
          have c_en := q1.cen
          have c_id := q1.cid
          have c_se := q1.cse
          have c_ho := q1.cho
          have c_pe := q1.cpe
          have c_de := q1.cde
          have c_mf := q1.cmf
          have f_st := q1.free 33
          have f_wa := q1.free 34
          have f_fa := q1.free 35
          have f_wy := q1.free 36
          have f_now := q1.free 37
          have f_up := q1.free 38
          have f_la := q1.free 39
          have f_en := q1.free 40
          simp only at c_st c_wa c_fa c_wy c_now c_up c_la c_en c_id c_se c_ho c_pe c_de c_mf
          go_quiet (fail)
          have hBU : Below U1.heap.size U1 (U1.drewN nq) := below_drewN (Below.refl _ _) nq
          replace q1 := q1.below hBU
          replace g1 := grown_below g1 hBU
          clear c_st c_wa c_fa c_wy c_now c_up c_la c_en c_id c_se c_ho c_pe c_de c_mf f_st f_wa f_fa f_wy f_now f_up f_la f_en
          clear hBU
          generalize U1.drewN nq = V1 at *
          have c_st := q1.cst
          have c_wa := q1.cwa
          have c_fa := q1.cfa
          have c_wy := q1.cwy
          have c_now := q1.cnow
          have c_up := q1.cup
          have c_la := q1.cla
          have c_en := q1.cen
          have c_id := q1.cid
          have c_se := q1.cse
          have c_ho := q1.cho
          have c_pe := q1.cpe
          have c_de := q1.cde
          have c_mf := q1.cmf
          have f_st := q1.free 33
          have f_wa := q1.free 34
          have f_fa := q1.free 35
          have f_wy := q1.free 36
          have f_now := q1.free 37
          have f_up := q1.free 38
          have f_la := q1.free 39
          have f_en := q1.free 40
          simp only at c_st c_wa c_fa c_wy c_now c_up c_la c_en c_id c_se c_ho c_pe c_de c_mf
          go_wp2_with fail
          refine (rheld54 g c _ _ ((q1.sst 1).sen p.now)).mono ?_
          rintro e w' ⟨⟨v, rfl, h1⟩, h2, h3⟩
          go_wp2
          go_ret
          exact ⟨⟨_, rfl, h1.weak (grown_setCell (grown_setCell g1 _ _) _ _).size⟩, h2, grown_trans (grown_setCell (grown_setCell g1 _ _) _ _) h3⟩
        · have ez : (p.ho == 0) = false := beq_eq_false_iff_ne.2 hz
          rw [fin_rest ({ p with en := p.now, fa := (p.fa + 1), wy := 4 } : Pol) hz]
          clear hz
          go_enter Try.func36, Try.ntmps36
          go_wp2_with fail
          have q1 : RefAt ((w.setCell ⟨g, 35, none⟩ (.int .i64 (p.fa + 1))).setCell ⟨g, 36, none⟩ (.string { data := #[102, 97, 105, 108, 101, 100] })) g c ({ p with fa := (p.fa + 1), wy := 4 } : Pol) := ((h.sfa (p.fa + 1)).swy 4)
          have g1 : w.grownBy ((w.setCell ⟨g, 35, none⟩ (.int .i64 (p.fa + 1))).setCell ⟨g, 36, none⟩ (.string { data := #[102, 97, 105, 108, 101, 100] })) (some g) := (grown_setCell (grown_setCell (grownBy_refl w (some g)) _ _) _ _)
          clear c_st c_wa c_fa c_wy c_now c_up c_la c_en c_id c_se c_ho c_pe c_de c_mf f_st f_wa f_fa f_wy f_now f_up f_la f_en
          generalize (w.setCell ⟨g, 35, none⟩ (.int .i64 (p.fa + 1))).setCell ⟨g, 36, none⟩ (.string { data := #[102, 97, 105, 108, 101, 100] }) = U1 at *
          have c_st := q1.cst
          have c_wa := q1.cwa
          have c_fa := q1.cfa
          have c_wy := q1.cwy
          have c_now := q1.cnow
          have c_up := q1.cup
          have c_la := q1.cla
          have c_en := q1.cen
          have c_id := q1.cid
          have c_se := q1.cse
          have c_ho := q1.cho
          have c_pe := q1.cpe
          have c_de := q1.cde
          have c_mf := q1.cmf
          have f_st := q1.free 33
          have f_wa := q1.free 34
          have f_fa := q1.free 35
          have f_wy := q1.free 36
          have f_now := q1.free 37
          have f_up := q1.free 38
          have f_la := q1.free 39
          have f_en := q1.free 40
          simp only at c_st c_wa c_fa c_wy c_now c_up c_la c_en c_id c_se c_ho c_pe c_de c_mf
          go_quiet (fail)
          have hBU : Below U1.heap.size U1 (U1.drewN nq) := below_drewN (Below.refl _ _) nq
          replace q1 := q1.below hBU
          replace g1 := grown_below g1 hBU
          clear c_st c_wa c_fa c_wy c_now c_up c_la c_en c_id c_se c_ho c_pe c_de c_mf f_st f_wa f_fa f_wy f_now f_up f_la f_en
          clear hBU
          generalize U1.drewN nq = V1 at *
          have c_st := q1.cst
          have c_wa := q1.cwa
          have c_fa := q1.cfa
          have c_wy := q1.cwy
          have c_now := q1.cnow
          have c_up := q1.cup
          have c_la := q1.cla
          have c_en := q1.cen
          have c_id := q1.cid
          have c_se := q1.cse
          have c_ho := q1.cho
          have c_pe := q1.cpe
          have c_de := q1.cde
          have c_mf := q1.cmf
          have f_st := q1.free 33
          have f_wa := q1.free 34
          have f_fa := q1.free 35
          have f_wy := q1.free 36
          have f_now := q1.free 37
          have f_up := q1.free 38
          have f_la := q1.free 39
          have f_en := q1.free 40
          simp only at c_st c_wa c_fa c_wy c_now c_up c_la c_en c_id c_se c_ho c_pe c_de c_mf
          go_wp2_with fail
          go_ret
          exact ⟨⟨_, rfl, own_nil _ _⟩, ((q1.sst 1).sen p.now), (grown_setCell (grown_setCell g1 _ _) _ _)⟩
    · rw [show min (p.fa + 1) 2147483647 = p.fa by omega]
      by_cases hmf : 0 < p.mf
      · by_cases hle : p.mf ≤ p.fa
        · rw [if_pos ⟨hmf, hle⟩]
          go_enter Try.func36, Try.ntmps36
          go_wp2_with fail
          have q1 : RefAt (w.setCell ⟨g, 36, none⟩ (.string { data := #[102, 97, 105, 108, 101, 100] })) g c ({ p with wy := 4 } : Pol) := (h.swy 4)
          have g1 : w.grownBy (w.setCell ⟨g, 36, none⟩ (.string { data := #[102, 97, 105, 108, 101, 100] })) (some g) := (grown_setCell (grownBy_refl w (some g)) _ _)
          clear c_st c_wa c_fa c_wy c_now c_up c_la c_en c_id c_se c_ho c_pe c_de c_mf f_st f_wa f_fa f_wy f_now f_up f_la f_en
          generalize w.setCell ⟨g, 36, none⟩ (.string { data := #[102, 97, 105, 108, 101, 100] }) = U1 at *
          have c_st := q1.cst
          have c_wa := q1.cwa
          have c_fa := q1.cfa
          have c_wy := q1.cwy
          have c_now := q1.cnow
          have c_up := q1.cup
          have c_la := q1.cla
          have c_en := q1.cen
          have c_id := q1.cid
          have c_se := q1.cse
          have c_ho := q1.cho
          have c_pe := q1.cpe
          have c_de := q1.cde
          have c_mf := q1.cmf
          have f_st := q1.free 33
          have f_wa := q1.free 34
          have f_fa := q1.free 35
          have f_wy := q1.free 36
          have f_now := q1.free 37
          have f_up := q1.free 38
          have f_la := q1.free 39
          have f_en := q1.free 40
          simp only at c_st c_wa c_fa c_wy c_now c_up c_la c_en c_id c_se c_ho c_pe c_de c_mf
          go_quiet (fail)
          have hBU : Below U1.heap.size U1 (U1.drewN nq) := below_drewN (Below.refl _ _) nq
          replace q1 := q1.below hBU
          replace g1 := grown_below g1 hBU
          clear c_st c_wa c_fa c_wy c_now c_up c_la c_en c_id c_se c_ho c_pe c_de c_mf f_st f_wa f_fa f_wy f_now f_up f_la f_en
          clear hBU
          generalize U1.drewN nq = V1 at *
          have c_st := q1.cst
          have c_wa := q1.cwa
          have c_fa := q1.cfa
          have c_wy := q1.cwy
          have c_now := q1.cnow
          have c_up := q1.cup
          have c_la := q1.cla
          have c_en := q1.cen
          have c_id := q1.cid
          have c_se := q1.cse
          have c_ho := q1.cho
          have c_pe := q1.cpe
          have c_de := q1.cde
          have c_mf := q1.cmf
          have f_st := q1.free 33
          have f_wa := q1.free 34
          have f_fa := q1.free 35
          have f_wy := q1.free 36
          have f_now := q1.free 37
          have f_up := q1.free 38
          have f_la := q1.free 39
          have f_en := q1.free 40
          simp only at c_st c_wa c_fa c_wy c_now c_up c_la c_en c_id c_se c_ho c_pe c_de c_mf
          go_wp2_with fail
          go_ret
          exact ⟨⟨_, rfl, own_nil _ _⟩, (((q1.sst 5).swa false).sen p.now), (grown_setCell (grown_setCell (grown_setCell g1 _ _) _ _) _ _)⟩
        · rw [if_neg (fun hh => hle hh.2)]
          by_cases hz : p.ho = 0
          · have ez : (p.ho == 0) = true := beq_iff_eq.2 hz
            rw [fin_held ({ p with en := p.now, fa := p.fa, wy := 4 } : Pol) hz]
            clear hz
            go_enter Try.func36, Try.ntmps36
            go_wp2_with fail
            have q1 : RefAt (w.setCell ⟨g, 36, none⟩ (.string { data := #[102, 97, 105, 108, 101, 100] })) g c ({ p with wy := 4 } : Pol) := (h.swy 4)
            have g1 : w.grownBy (w.setCell ⟨g, 36, none⟩ (.string { data := #[102, 97, 105, 108, 101, 100] })) (some g) := (grown_setCell (grownBy_refl w (some g)) _ _)
            clear c_st c_wa c_fa c_wy c_now c_up c_la c_en c_id c_se c_ho c_pe c_de c_mf f_st f_wa f_fa f_wy f_now f_up f_la f_en
            generalize w.setCell ⟨g, 36, none⟩ (.string { data := #[102, 97, 105, 108, 101, 100] }) = U1 at *
            have c_st := q1.cst
            have c_wa := q1.cwa
            have c_fa := q1.cfa
            have c_wy := q1.cwy
            have c_now := q1.cnow
            have c_up := q1.cup
            have c_la := q1.cla
            have c_en := q1.cen
            have c_id := q1.cid
            have c_se := q1.cse
            have c_ho := q1.cho
            have c_pe := q1.cpe
            have c_de := q1.cde
            have c_mf := q1.cmf
            have f_st := q1.free 33
            have f_wa := q1.free 34
            have f_fa := q1.free 35
            have f_wy := q1.free 36
            have f_now := q1.free 37
            have f_up := q1.free 38
            have f_la := q1.free 39
            have f_en := q1.free 40
            simp only at c_st c_wa c_fa c_wy c_now c_up c_la c_en c_id c_se c_ho c_pe c_de c_mf
            go_quiet (fail)
            have hBU : Below U1.heap.size U1 (U1.drewN nq) := below_drewN (Below.refl _ _) nq
            replace q1 := q1.below hBU
            replace g1 := grown_below g1 hBU
            clear c_st c_wa c_fa c_wy c_now c_up c_la c_en c_id c_se c_ho c_pe c_de c_mf f_st f_wa f_fa f_wy f_now f_up f_la f_en
            clear hBU
            generalize U1.drewN nq = V1 at *
            have c_st := q1.cst
            have c_wa := q1.cwa
            have c_fa := q1.cfa
            have c_wy := q1.cwy
            have c_now := q1.cnow
            have c_up := q1.cup
            have c_la := q1.cla
            have c_en := q1.cen
            have c_id := q1.cid
            have c_se := q1.cse
            have c_ho := q1.cho
            have c_pe := q1.cpe
            have c_de := q1.cde
            have c_mf := q1.cmf
            have f_st := q1.free 33
            have f_wa := q1.free 34
            have f_fa := q1.free 35
            have f_wy := q1.free 36
            have f_now := q1.free 37
            have f_up := q1.free 38
            have f_la := q1.free 39
            have f_en := q1.free 40
            simp only at c_st c_wa c_fa c_wy c_now c_up c_la c_en c_id c_se c_ho c_pe c_de c_mf
            go_wp2_with fail
            refine (rheld54 g c _ _ ((q1.sst 1).sen p.now)).mono ?_
            rintro e w' ⟨⟨v, rfl, h1⟩, h2, h3⟩
            go_wp2
            go_ret
            exact ⟨⟨_, rfl, h1.weak (grown_setCell (grown_setCell g1 _ _) _ _).size⟩, h2, grown_trans (grown_setCell (grown_setCell g1 _ _) _ _) h3⟩
          · have ez : (p.ho == 0) = false := beq_eq_false_iff_ne.2 hz
            rw [fin_rest ({ p with en := p.now, fa := p.fa, wy := 4 } : Pol) hz]
            clear hz
            go_enter Try.func36, Try.ntmps36
            go_wp2_with fail
            have q1 : RefAt (w.setCell ⟨g, 36, none⟩ (.string { data := #[102, 97, 105, 108, 101, 100] })) g c ({ p with wy := 4 } : Pol) := (h.swy 4)
            have g1 : w.grownBy (w.setCell ⟨g, 36, none⟩ (.string { data := #[102, 97, 105, 108, 101, 100] })) (some g) := (grown_setCell (grownBy_refl w (some g)) _ _)
            clear c_st c_wa c_fa c_wy c_now c_up c_la c_en c_id c_se c_ho c_pe c_de c_mf f_st f_wa f_fa f_wy f_now f_up f_la f_en
            generalize w.setCell ⟨g, 36, none⟩ (.string { data := #[102, 97, 105, 108, 101, 100] }) = U1 at *
            have c_st := q1.cst
            have c_wa := q1.cwa
            have c_fa := q1.cfa
            have c_wy := q1.cwy
            have c_now := q1.cnow
            have c_up := q1.cup
            have c_la := q1.cla
            have c_en := q1.cen
            have c_id := q1.cid
            have c_se := q1.cse
            have c_ho := q1.cho
            have c_pe := q1.cpe
            have c_de := q1.cde
            have c_mf := q1.cmf
            have f_st := q1.free 33
            have f_wa := q1.free 34
            have f_fa := q1.free 35
            have f_wy := q1.free 36
            have f_now := q1.free 37
            have f_up := q1.free 38
            have f_la := q1.free 39
            have f_en := q1.free 40
            simp only at c_st c_wa c_fa c_wy c_now c_up c_la c_en c_id c_se c_ho c_pe c_de c_mf
            go_quiet (fail)
            have hBU : Below U1.heap.size U1 (U1.drewN nq) := below_drewN (Below.refl _ _) nq
            replace q1 := q1.below hBU
            replace g1 := grown_below g1 hBU
            clear c_st c_wa c_fa c_wy c_now c_up c_la c_en c_id c_se c_ho c_pe c_de c_mf f_st f_wa f_fa f_wy f_now f_up f_la f_en
            clear hBU
            generalize U1.drewN nq = V1 at *
            have c_st := q1.cst
            have c_wa := q1.cwa
            have c_fa := q1.cfa
            have c_wy := q1.cwy
            have c_now := q1.cnow
            have c_up := q1.cup
            have c_la := q1.cla
            have c_en := q1.cen
            have c_id := q1.cid
            have c_se := q1.cse
            have c_ho := q1.cho
            have c_pe := q1.cpe
            have c_de := q1.cde
            have c_mf := q1.cmf
            have f_st := q1.free 33
            have f_wa := q1.free 34
            have f_fa := q1.free 35
            have f_wy := q1.free 36
            have f_now := q1.free 37
            have f_up := q1.free 38
            have f_la := q1.free 39
            have f_en := q1.free 40
            simp only at c_st c_wa c_fa c_wy c_now c_up c_la c_en c_id c_se c_ho c_pe c_de c_mf
            go_wp2_with fail
            go_ret
            exact ⟨⟨_, rfl, own_nil _ _⟩, ((q1.sst 1).sen p.now), (grown_setCell (grown_setCell g1 _ _) _ _)⟩
      · rw [if_neg (fun hh => hmf hh.1)]
        have dmf : decide (0 < p.mf) = false := decide_eq_false hmf
        by_cases hz : p.ho = 0
        · have ez : (p.ho == 0) = true := beq_iff_eq.2 hz
          rw [fin_held ({ p with en := p.now, fa := p.fa, wy := 4 } : Pol) hz]
          clear hz
          go_enter Try.func36, Try.ntmps36
          go_wp2_with fail
          have q1 : RefAt (w.setCell ⟨g, 36, none⟩ (.string { data := #[102, 97, 105, 108, 101, 100] })) g c ({ p with wy := 4 } : Pol) := (h.swy 4)
          have g1 : w.grownBy (w.setCell ⟨g, 36, none⟩ (.string { data := #[102, 97, 105, 108, 101, 100] })) (some g) := (grown_setCell (grownBy_refl w (some g)) _ _)
          clear c_st c_wa c_fa c_wy c_now c_up c_la c_en c_id c_se c_ho c_pe c_de c_mf f_st f_wa f_fa f_wy f_now f_up f_la f_en
          generalize w.setCell ⟨g, 36, none⟩ (.string { data := #[102, 97, 105, 108, 101, 100] }) = U1 at *
          have c_st := q1.cst
          have c_wa := q1.cwa
          have c_fa := q1.cfa
          have c_wy := q1.cwy
          have c_now := q1.cnow
          have c_up := q1.cup
          have c_la := q1.cla
          have c_en := q1.cen
          have c_id := q1.cid
          have c_se := q1.cse
          have c_ho := q1.cho
          have c_pe := q1.cpe
          have c_de := q1.cde
          have c_mf := q1.cmf
          have f_st := q1.free 33
          have f_wa := q1.free 34
          have f_fa := q1.free 35
          have f_wy := q1.free 36
          have f_now := q1.free 37
          have f_up := q1.free 38
          have f_la := q1.free 39
          have f_en := q1.free 40
          simp only at c_st c_wa c_fa c_wy c_now c_up c_la c_en c_id c_se c_ho c_pe c_de c_mf
          go_quiet (fail)
          have hBU : Below U1.heap.size U1 (U1.drewN nq) := below_drewN (Below.refl _ _) nq
          replace q1 := q1.below hBU
          replace g1 := grown_below g1 hBU
          clear c_st c_wa c_fa c_wy c_now c_up c_la c_en c_id c_se c_ho c_pe c_de c_mf f_st f_wa f_fa f_wy f_now f_up f_la f_en
          clear hBU
          generalize U1.drewN nq = V1 at *
          have c_st := q1.cst
          have c_wa := q1.cwa
          have c_fa := q1.cfa
          have c_wy := q1.cwy
          have c_now := q1.cnow
          have c_up := q1.cup
          have c_la := q1.cla
          have c_en := q1.cen
          have c_id := q1.cid
          have c_se := q1.cse
          have c_ho := q1.cho
          have c_pe := q1.cpe
          have c_de := q1.cde
          have c_mf := q1.cmf
          have f_st := q1.free 33
          have f_wa := q1.free 34
          have f_fa := q1.free 35
          have f_wy := q1.free 36
          have f_now := q1.free 37
          have f_up := q1.free 38
          have f_la := q1.free 39
          have f_en := q1.free 40
          simp only at c_st c_wa c_fa c_wy c_now c_up c_la c_en c_id c_se c_ho c_pe c_de c_mf
          go_wp2_with fail
          refine (rheld54 g c _ _ ((q1.sst 1).sen p.now)).mono ?_
          rintro e w' ⟨⟨v, rfl, h1⟩, h2, h3⟩
          go_wp2
          go_ret
          exact ⟨⟨_, rfl, h1.weak (grown_setCell (grown_setCell g1 _ _) _ _).size⟩, h2, grown_trans (grown_setCell (grown_setCell g1 _ _) _ _) h3⟩
        · have ez : (p.ho == 0) = false := beq_eq_false_iff_ne.2 hz
          rw [fin_rest ({ p with en := p.now, fa := p.fa, wy := 4 } : Pol) hz]
          clear hz
          go_enter Try.func36, Try.ntmps36
          go_wp2_with fail
          have q1 : RefAt (w.setCell ⟨g, 36, none⟩ (.string { data := #[102, 97, 105, 108, 101, 100] })) g c ({ p with wy := 4 } : Pol) := (h.swy 4)
          have g1 : w.grownBy (w.setCell ⟨g, 36, none⟩ (.string { data := #[102, 97, 105, 108, 101, 100] })) (some g) := (grown_setCell (grownBy_refl w (some g)) _ _)
          clear c_st c_wa c_fa c_wy c_now c_up c_la c_en c_id c_se c_ho c_pe c_de c_mf f_st f_wa f_fa f_wy f_now f_up f_la f_en
          generalize w.setCell ⟨g, 36, none⟩ (.string { data := #[102, 97, 105, 108, 101, 100] }) = U1 at *
          have c_st := q1.cst
          have c_wa := q1.cwa
          have c_fa := q1.cfa
          have c_wy := q1.cwy
          have c_now := q1.cnow
          have c_up := q1.cup
          have c_la := q1.cla
          have c_en := q1.cen
          have c_id := q1.cid
          have c_se := q1.cse
          have c_ho := q1.cho
          have c_pe := q1.cpe
          have c_de := q1.cde
          have c_mf := q1.cmf
          have f_st := q1.free 33
          have f_wa := q1.free 34
          have f_fa := q1.free 35
          have f_wy := q1.free 36
          have f_now := q1.free 37
          have f_up := q1.free 38
          have f_la := q1.free 39
          have f_en := q1.free 40
          simp only at c_st c_wa c_fa c_wy c_now c_up c_la c_en c_id c_se c_ho c_pe c_de c_mf
          go_quiet (fail)
          have hBU : Below U1.heap.size U1 (U1.drewN nq) := below_drewN (Below.refl _ _) nq
          replace q1 := q1.below hBU
          replace g1 := grown_below g1 hBU
          clear c_st c_wa c_fa c_wy c_now c_up c_la c_en c_id c_se c_ho c_pe c_de c_mf f_st f_wa f_fa f_wy f_now f_up f_la f_en
          clear hBU
          generalize U1.drewN nq = V1 at *
          have c_st := q1.cst
          have c_wa := q1.cwa
          have c_fa := q1.cfa
          have c_wy := q1.cwy
          have c_now := q1.cnow
          have c_up := q1.cup
          have c_la := q1.cla
          have c_en := q1.cen
          have c_id := q1.cid
          have c_se := q1.cse
          have c_ho := q1.cho
          have c_pe := q1.cpe
          have c_de := q1.cde
          have c_mf := q1.cmf
          have f_st := q1.free 33
          have f_wa := q1.free 34
          have f_fa := q1.free 35
          have f_wy := q1.free 36
          have f_now := q1.free 37
          have f_up := q1.free 38
          have f_la := q1.free 39
          have f_en := q1.free 40
          simp only at c_st c_wa c_fa c_wy c_now c_up c_la c_en c_id c_se c_ho c_pe c_de c_mf
          go_wp2_with fail
          go_ret
          exact ⟨⟨_, rfl, own_nil _ _⟩, ((q1.sst 1).sen p.now), (grown_setCell (grown_setCell g1 _ _) _ _)⟩
  by_cases s3 : p.st = 3
  · rw [if_pos (by omega)]
    have hd : p.ldown1 = ({ p with en := p.now, wy := 5, wa := p.pe } : Pol).fin := by unfold Pol.ldown1; rw [if_neg (by omega), if_pos s3]
    rw [hd]
    clear hd
    have x2 : (p.st == 2) = false := beq_eq_false_iff_ne.2 (by omega)
    have x3 : (p.st == 3) = true := beq_iff_eq.2 (by omega)
    have x4 : (p.st == 4) = false := beq_eq_false_iff_ne.2 (by omega)
    clear s2 s3
    by_cases hz : p.ho = 0
    · have ez : (p.ho == 0) = true := beq_iff_eq.2 hz
      rw [fin_held ({ p with en := p.now, wy := 5, wa := p.pe } : Pol) hz]
      clear hz
      go_enter Try.func36, Try.ntmps36
      go_wp2_with fail
      refine (rheld54 g c _ _ ((((h.swy 5).swa p.pe).sst 1).sen p.now)).mono ?_
      rintro e w' ⟨⟨v, rfl, h1⟩, h2, h3⟩
      go_wp2
      go_ret
      exact ⟨⟨_, rfl, h1.weak (by simp)⟩, h2, grown_trans (grown_setCell (grown_setCell (grown_setCell (grown_setCell (grownBy_refl _ _) _ _) _ _) _ _) _ _) h3⟩
    · have ez : (p.ho == 0) = false := beq_eq_false_iff_ne.2 hz
      rw [fin_rest ({ p with en := p.now, wy := 5, wa := p.pe } : Pol) hz]
      clear hz
      go_enter Try.func36, Try.ntmps36
      go_wp2
      go_ret
      exact ⟨⟨_, rfl, own_nil _ _⟩, ((((h.swy 5).swa p.pe).sst 1).sen p.now), (grown_setCell (grown_setCell (grown_setCell (grown_setCell (grownBy_refl _ _) _ _) _ _) _ _) _ _)⟩
  by_cases s4 : p.st = 4
  · rw [if_pos (by omega)]
    have hd : p.ldown1 = ({ p with en := p.now, wa := p.wa || (p.pe && (p.wy != 3)) } : Pol).fin := by unfold Pol.ldown1; rw [if_neg (by omega), if_neg (by omega), if_pos s4]
    rw [hd]
    clear hd
    have x2 : (p.st == 2) = false := beq_eq_false_iff_ne.2 (by omega)
    have x3 : (p.st == 3) = false := beq_eq_false_iff_ne.2 (by omega)
    have x4 : (p.st == 4) = true := beq_iff_eq.2 (by omega)
    clear s2 s3 s4
    have hw := why_down p.wy
    by_cases hwa : p.wa = true
    · rw [hwa] at c_wa
      have hv : (p.wa || (p.pe && (p.wy != 3))) = true := by simp [hwa]
      rw [hv]
      clear hv hwa
      by_cases hz : p.ho = 0
      · have ez : (p.ho == 0) = true := beq_iff_eq.2 hz
        rw [fin_held ({ p with en := p.now, wa := true } : Pol) hz]
        clear hz
        go_enter Try.func36, Try.ntmps36
        go_wp2_with fail
        refine (rheld54 g c _ _ (((h.swa true).sst 1).sen p.now)).mono ?_
        rintro e w' ⟨⟨v, rfl, h1⟩, h2, h3⟩
        go_wp2
        go_ret
        exact ⟨⟨_, rfl, h1.weak (by simp)⟩, h2, grown_trans (grown_setCell (grown_setCell (grown_setCell (grownBy_refl _ _) _ _) _ _) _ _) h3⟩
      · have ez : (p.ho == 0) = false := beq_eq_false_iff_ne.2 hz
        rw [fin_rest ({ p with en := p.now, wa := true } : Pol) hz]
        clear hz
        go_enter Try.func36, Try.ntmps36
        go_wp2
        go_ret
        exact ⟨⟨_, rfl, own_nil _ _⟩, (((h.swa true).sst 1).sen p.now), (grown_setCell (grown_setCell (grown_setCell (grownBy_refl _ _) _ _) _ _) _ _)⟩
    · simp only [Bool.not_eq_true] at hwa
      rw [hwa] at c_wa
      by_cases hpe : p.pe = true
      · rw [hpe] at c_pe
        by_cases h3 : p.wy = 3
        · have e3 : (p.wy == 3) = true := by simpa using h3
          rw [e3] at hw
          clear e3
          have hv : (p.wa || (p.pe && (p.wy != 3))) = false := by simp [hwa, hpe, h3]
          rw [hv]
          clear hv hwa hpe h3
          by_cases hz : p.ho = 0
          · have ez : (p.ho == 0) = true := beq_iff_eq.2 hz
            rw [fin_held ({ p with en := p.now, wa := false } : Pol) hz]
            clear hz
            go_enter Try.func36, Try.ntmps36
            go_wp2_with fail
            refine (rheld54 g c _ _ (((h.swa false).sst 1).sen p.now)).mono ?_
            rintro e w' ⟨⟨v, rfl, h1⟩, h2, h3⟩
            go_wp2
            go_ret
            exact ⟨⟨_, rfl, h1.weak (by simp)⟩, h2, grown_trans (grown_setCell (grown_setCell (grown_setCell (grownBy_refl _ _) _ _) _ _) _ _) h3⟩
          · have ez : (p.ho == 0) = false := beq_eq_false_iff_ne.2 hz
            rw [fin_rest ({ p with en := p.now, wa := false } : Pol) hz]
            clear hz
            go_enter Try.func36, Try.ntmps36
            go_wp2
            go_ret
            exact ⟨⟨_, rfl, own_nil _ _⟩, (((h.swa false).sst 1).sen p.now), (grown_setCell (grown_setCell (grown_setCell (grownBy_refl _ _) _ _) _ _) _ _)⟩
        · have e3 : (p.wy == 3) = false := by simpa using h3
          rw [e3] at hw
          clear e3
          have hv : (p.wa || (p.pe && (p.wy != 3))) = true := by simp [hwa, hpe, h3]
          rw [hv]
          clear hv hwa hpe h3
          by_cases hz : p.ho = 0
          · have ez : (p.ho == 0) = true := beq_iff_eq.2 hz
            rw [fin_held ({ p with en := p.now, wa := true } : Pol) hz]
            clear hz
            go_enter Try.func36, Try.ntmps36
            go_wp2_with fail
            refine (rheld54 g c _ _ (((h.swa true).sst 1).sen p.now)).mono ?_
            rintro e w' ⟨⟨v, rfl, h1⟩, h2, h3⟩
            go_wp2
            go_ret
            exact ⟨⟨_, rfl, h1.weak (by simp)⟩, h2, grown_trans (grown_setCell (grown_setCell (grown_setCell (grownBy_refl _ _) _ _) _ _) _ _) h3⟩
          · have ez : (p.ho == 0) = false := beq_eq_false_iff_ne.2 hz
            rw [fin_rest ({ p with en := p.now, wa := true } : Pol) hz]
            clear hz
            go_enter Try.func36, Try.ntmps36
            go_wp2
            go_ret
            exact ⟨⟨_, rfl, own_nil _ _⟩, (((h.swa true).sst 1).sen p.now), (grown_setCell (grown_setCell (grown_setCell (grownBy_refl _ _) _ _) _ _) _ _)⟩
      · simp only [Bool.not_eq_true] at hpe
        rw [hpe] at c_pe
        have hv : (p.wa || (p.pe && (p.wy != 3))) = false := by simp [hwa, hpe]
        rw [hv]
        clear hv hwa hpe
        by_cases hz : p.ho = 0
        · have ez : (p.ho == 0) = true := beq_iff_eq.2 hz
          rw [fin_held ({ p with en := p.now, wa := false } : Pol) hz]
          clear hz
          go_enter Try.func36, Try.ntmps36
          go_wp2_with fail
          refine (rheld54 g c _ _ (((h.swa false).sst 1).sen p.now)).mono ?_
          rintro e w' ⟨⟨v, rfl, h1⟩, h2, h3⟩
          go_wp2
          go_ret
          exact ⟨⟨_, rfl, h1.weak (by simp)⟩, h2, grown_trans (grown_setCell (grown_setCell (grown_setCell (grownBy_refl _ _) _ _) _ _) _ _) h3⟩
        · have ez : (p.ho == 0) = false := beq_eq_false_iff_ne.2 hz
          rw [fin_rest ({ p with en := p.now, wa := false } : Pol) hz]
          clear hz
          go_enter Try.func36, Try.ntmps36
          go_wp2
          go_ret
          exact ⟨⟨_, rfl, own_nil _ _⟩, (((h.swa false).sst 1).sen p.now), (grown_setCell (grown_setCell (grown_setCell (grownBy_refl _ _) _ _) _ _) _ _)⟩
  rw [if_neg (by omega)]
  have x2 : (p.st == 2) = false := beq_eq_false_iff_ne.2 (by omega)
  have x3 : (p.st == 3) = false := beq_eq_false_iff_ne.2 (by omega)
  have x4 : (p.st == 4) = false := beq_eq_false_iff_ne.2 (by omega)
  clear s2 s3 s4
  go_enter Try.func36, Try.ntmps36
  go_wp2
  go_ret
  exact ⟨⟨_, rfl, own_nil _ _⟩, h, (grownBy_refl _ _)⟩
end Go.Proofs.Ytibdaonhldlmbaa.F
