import Derived.Test.YtibdaonhldlmbaaH2
set_option linter.unusedVariables false
set_option linter.unusedSimpArgs false
namespace Go.Proofs.Ytibdaonhldlmbaa.F
open Go.RowKit Go.Proofs.Ytibdaonhldlmbaa.K
variable (g : Nat) (c : Cf) (p : Pol) (w : World)
def beg (now : Int) (p : Pol) : Pol × List Int × Int :=
  if now < 0 ∨ 1099511627776 < now ∨ now < p.now then (p, [], 1) else (({ p with now := now } : Pol).due.1, ({ p with now := now } : Pol).due.2, 0)
structure RAtR (g : Nat) (c : Cf) (r : Pol × List Int × Int) (w : World) (e : Ending) (w' : World) : Prop where
  ret : ∃ v, e = .returned (.tuple #[v, .int .i64 r.2.2]) ∧ Own w.heap.size w' v r.2.1
  obj : RefAt w' g c r.1
  grow : w.grownBy w' (some g)
theorem due_tired (q : Pol) (k : Nat) (h : q.st = 3) (ht : q.tired = k) (hk : k ≠ 0) : q.due = q.hang k := by
  unfold Pol.due
  rw [if_pos h]
  unfold Pol.due1
  rw [ht, if_neg hk]
theorem due_fresh (q : Pol) (h : q.st = 3) (ht : q.tired = 0) : q.due = (q, []) := by
  unfold Pol.due
  rw [if_pos h]
  unfold Pol.due1
  rw [ht, if_pos rfl]
theorem due_held (q : Pol) (h : q.st = 1) (ht : ovr q.now q.en q.ho = true) : q.due = q.held := by
  unfold Pol.due
  rw [if_neg (by omega), if_pos h]
  unfold Pol.due2
  rw [if_pos ht]
theorem due_wait (q : Pol) (h : q.st = 1) (ht : ovr q.now q.en q.ho = false) : q.due = (q, []) := by
  unfold Pol.due
  rw [if_neg (by omega), if_pos h]
  unfold Pol.due2
  rw [ht]
  rfl
theorem due_none (q : Pol) (h : q.st ≠ 3) (h1 : q.st ≠ 1) : q.due = (q, []) := by
  unfold Pol.due
  rw [if_neg h, if_neg h1]
set_option maxHeartbeats 16000000 in
theorem rbegin30 (now : Int) (h : RefAt w g c p) : Calls Try.prog 30 #[.pointer (some ⟨g, 0, none⟩), .int .i64 now] w (RAtR g c (beg now p) w) := by
  have c_st := h.cst
  have c_wa := h.cwa
  have c_fa := h.cfa
  have c_wy := h.cwy
  have c_now := h.cnow
  have c_up := h.cup
  have c_la := h.cla
  have c_en := h.cen
  have c_id := h.cid
  have c_se := h.cse
  have c_ho := h.cho
  have c_pe := h.cpe
  have c_de := h.cde
  have c_mf := h.cmf
  have f_st := h.free 33
  have f_wa := h.free 34
  have f_fa := h.free 35
  have f_wy := h.free 36
  have f_now := h.free 37
  have f_up := h.free 38
  have f_la := h.free 39
  have f_en := h.free 40
  unfold beg
  by_cases h1 : now < 0
  · rw [if_pos (.inl h1)]
    go_enter Try.func30, Try.ntmps30
    go_wp2_with fail
    go_ret2
    exact ⟨⟨_, rfl, own_nil _ _⟩, h, grownBy_refl _ _⟩
  by_cases h2 : 1099511627776 < now
  · rw [if_pos (.inr (.inl h2))]
    go_enter Try.func30, Try.ntmps30
    go_wp2_with fail
    go_ret2
    exact ⟨⟨_, rfl, own_nil _ _⟩, h, grownBy_refl _ _⟩
  by_cases h3 : now < p.now
  · rw [if_pos (.inr (.inr h3))]
    go_enter Try.func30, Try.ntmps30
    go_wp2_with fail
    go_ret2
    exact ⟨⟨_, rfl, own_nil _ _⟩, h, grownBy_refl _ _⟩
  rw [if_neg (by rintro (h | h | h); exact h1 h; exact h2 h; exact h3 h)]
  by_cases s3 : p.st = 3
  · have x3 : (p.st == 3) = true := beq_iff_eq.2 s3
    have x1 : (p.st == 1) = false := beq_eq_false_iff_ne.2 (by omega)
    by_cases a1 : 0 < p.se
    · by_cases o1x : p.se ≤ wrap64 (now - p.up)
      · skip
        have o1 : ovr now p.up p.se = true := by unfold ovr; simpa using o1x
        rw [due_tired ({ p with now := now } : Pol) 1 s3 (by unfold Pol.tired; simp [a1, o1]) (by decide)]
        clear o1 s3
        go_enter Try.func30, Try.ntmps30
        go_wp2_with fail
        have q1 : RefAt (w.setCell ⟨g, 37, none⟩ (.int .i64 now)) g c ({ p with now := now } : Pol) := (h.snow now)
        have g1 : w.grownBy (w.setCell ⟨g, 37, none⟩ (.int .i64 now)) (some g) := (grown_setCell (grownBy_refl w (some g)) _ _)
        clear c_st c_wa c_fa c_wy c_now c_up c_la c_en c_id c_se c_ho c_pe c_de c_mf f_st f_wa f_fa f_wy f_now f_up f_la f_en
        generalize w.setCell ⟨g, 37, none⟩ (.int .i64 now) = U1 at *
        have c_st := q1.cst
        have c_wa := q1.cwa
        have c_fa := q1.cfa
        have c_wy := q1.cwy
        have c_now := q1.cnow
        have c_up := q1.cup
        have c_la := q1.cla
        have c_en := q1.cen
        have c_id := q1.cid
        have c_se := q1.cse
        have c_ho := q1.cho
        have c_pe := q1.cpe
        have c_de := q1.cde
        have c_mf := q1.cmf
        have f_st := q1.free 33
        have f_wa := q1.free 34
        have f_fa := q1.free 35
        have f_wy := q1.free 36
        have f_now := q1.free 37
        have f_up := q1.free 38
        have f_la := q1.free 39
        have f_en := q1.free 40
        simp only at c_st c_wa c_fa c_wy c_now c_up c_la c_en c_id c_se c_ho c_pe c_de c_mf
        go_quiet (fail)
        have hBU : Below U1.heap.size U1 (U1.drewN nq) := below_drewN (Below.refl _ _) nq
        replace q1 := q1.below hBU
        replace g1 := grown_below g1 hBU
        clear c_st c_wa c_fa c_wy c_now c_up c_la c_en c_id c_se c_ho c_pe c_de c_mf f_st f_wa f_fa f_wy f_now f_up f_la f_en
        clear hBU
        generalize U1.drewN nq = V1 at *
        have c_st := q1.cst
        have c_wa := q1.cwa
        have c_fa := q1.cfa
        have c_wy := q1.cwy
        have c_now := q1.cnow
        have c_up := q1.cup
        have c_la := q1.cla
        have c_en := q1.cen
        have c_id := q1.cid
        have c_se := q1.cse
        have c_ho := q1.cho
        have c_pe := q1.cpe
        have c_de := q1.cde
        have c_mf := q1.cmf
        have f_st := q1.free 33
        have f_wa := q1.free 34
        have f_fa := q1.free 35
        have f_wy := q1.free 36
        have f_now := q1.free 37
        have f_up := q1.free 38
        have f_la := q1.free 39
        have f_en := q1.free 40
        simp only at c_st c_wa c_fa c_wy c_now c_up c_la c_en c_id c_se c_ho c_pe c_de c_mf
        go_wp2_with fail
        refine (rhang53 g c _ _ 1 q1).mono ?_
        rintro e w' ⟨⟨v, rfl, h1⟩, h2, h3⟩
        go_wp2
        go_ret2
        exact ⟨⟨_, rfl, h1.weak g1.size⟩, h2, grown_trans g1 h3⟩
      · skip
        have o1 : ovr now p.up p.se = false := by unfold ovr; simpa using o1x
        have do1 : decide (p.se ≤ wrap64 (now - p.up)) = false := decide_eq_false o1x
        by_cases a2 : 0 < p.id
        · by_cases o2x : p.id ≤ wrap64 (now - p.la)
          · skip
            have o2 : ovr now p.la p.id = true := by unfold ovr; simpa using o2x
            rw [due_tired ({ p with now := now } : Pol) 2 s3 (by unfold Pol.tired; simp [a1, o1, a2, o2]) (by decide)]
            clear o2 s3
            go_enter Try.func30, Try.ntmps30
            go_wp2_with fail
            have q1 : RefAt (w.setCell ⟨g, 37, none⟩ (.int .i64 now)) g c ({ p with now := now } : Pol) := (h.snow now)
            have g1 : w.grownBy (w.setCell ⟨g, 37, none⟩ (.int .i64 now)) (some g) := (grown_setCell (grownBy_refl w (some g)) _ _)
            clear c_st c_wa c_fa c_wy c_now c_up c_la c_en c_id c_se c_ho c_pe c_de c_mf f_st f_wa f_fa f_wy f_now f_up f_la f_en
            generalize w.setCell ⟨g, 37, none⟩ (.int .i64 now) = U1 at *
            have c_st := q1.cst
            have c_wa := q1.cwa
            have c_fa := q1.cfa
            have c_wy := q1.cwy
            have c_now := q1.cnow
            have c_up := q1.cup
            have c_la := q1.cla
            have c_en := q1.cen
            have c_id := q1.cid
            have c_se := q1.cse
            have c_ho := q1.cho
            have c_pe := q1.cpe
            have c_de := q1.cde
            have c_mf := q1.cmf
            have f_st := q1.free 33
            have f_wa := q1.free 34
            have f_fa := q1.free 35
            have f_wy := q1.free 36
            have f_now := q1.free 37
            have f_up := q1.free 38
            have f_la := q1.free 39
            have f_en := q1.free 40
            simp only at c_st c_wa c_fa c_wy c_now c_up c_la c_en c_id c_se c_ho c_pe c_de c_mf
            go_quiet (fail)
            have hBU : Below U1.heap.size U1 (U1.drewN nq) := below_drewN (Below.refl _ _) nq
            replace q1 := q1.below hBU
            replace g1 := grown_below g1 hBU
            clear c_st c_wa c_fa c_wy c_now c_up c_la c_en c_id c_se c_ho c_pe c_de c_mf f_st f_wa f_fa f_wy f_now f_up f_la f_en
            clear hBU
            generalize U1.drewN nq = V1 at *
            have c_st := q1.cst
            have c_wa := q1.cwa
            have c_fa := q1.cfa
            have c_wy := q1.cwy
            have c_now := q1.cnow
            have c_up := q1.cup
            have c_la := q1.cla
            have c_en := q1.cen
            have c_id := q1.cid
            have c_se := q1.cse
            have c_ho := q1.cho
            have c_pe := q1.cpe
            have c_de := q1.cde
            have c_mf := q1.cmf
            have f_st := q1.free 33
            have f_wa := q1.free 34
            have f_fa := q1.free 35
            have f_wy := q1.free 36
            have f_now := q1.free 37
            have f_up := q1.free 38
            have f_la := q1.free 39
            have f_en := q1.free 40
            simp only at c_st c_wa c_fa c_wy c_now c_up c_la c_en c_id c_se c_ho c_pe c_de c_mf
            clear c_st c_wa c_fa c_wy c_now c_up c_la c_en c_id c_se c_ho c_pe c_de c_mf f_st f_wa f_fa f_wy f_now f_up f_la f_en
            have c_st := q1.cst
            have c_wa := q1.cwa
            have c_fa := q1.cfa
            have c_wy := q1.cwy
            have c_now := q1.cnow
            have c_up := q1.cup
            have c_la := q1.cla
            have c_en := q1.cen
            have c_id := q1.cid
            have c_se := q1.cse
            have c_ho := q1.cho
            have c_pe := q1.cpe
            have c_de := q1.cde
            have c_mf := q1.cmf
            have f_st := q1.free 33
            have f_wa := q1.free 34
            have f_fa := q1.free 35
            have f_wy := q1.free 36
            have f_now := q1.free 37
            have f_up := q1.free 38
            have f_la := q1.free 39
            have f_en := q1.free 40
            simp only at c_st c_wa c_fa c_wy c_now c_up c_la c_en c_id c_se c_ho c_pe c_de c_mf
            go_wp2_with fail
            go_quiet (fail)
            have hBU : Below V1.heap.size V1 (V1.drewN nq) := below_drewN (Below.refl _ _) nq
            have q2 := q1.below hBU
            have g2 := grown_below g1 hBU
            clear c_st c_wa c_fa c_wy c_now c_up c_la c_en c_id c_se c_ho c_pe c_de c_mf f_st f_wa f_fa f_wy f_now f_up f_la f_en
            clear hBU q1 g1
            generalize V1.drewN nq = V2 at *
            have c_st := q2.cst
            have c_wa := q2.cwa
            have c_fa := q2.cfa
            have c_wy := q2.cwy
            have c_now := q2.cnow
            have c_up := q2.cup
            have c_la := q2.cla
            have c_en := q2.cen
            have c_id := q2.cid
            have c_se := q2.cse
            have c_ho := q2.cho
            have c_pe := q2.cpe
            have c_de := q2.cde
            have c_mf := q2.cmf
            have f_st := q2.free 33
            have f_wa := q2.free 34
            have f_fa := q2.free 35
            have f_wy := q2.free 36
            have f_now := q2.free 37
            have f_up := q2.free 38
            have f_la := q2.free 39
            have f_en := q2.free 40
            simp only at c_st c_wa c_fa c_wy c_now c_up c_la c_en c_id c_se c_ho c_pe c_de c_mf
            go_wp2_with fail
            refine (rhang53 g c _ _ 2 q2).mono ?_
            rintro e w' ⟨⟨v, rfl, h1⟩, h2, h3⟩
            go_wp2
            go_ret2
            exact ⟨⟨_, rfl, h1.weak g2.size⟩, h2, grown_trans g2 h3⟩
          · skip
            have o2 : ovr now p.la p.id = false := by unfold ovr; simpa using o2x
            have do2 : decide (p.id ≤ wrap64 (now - p.la)) = false := decide_eq_false o2x
            rw [due_fresh ({ p with now := now } : Pol) s3 (by unfold Pol.tired; simp [a1, o1, a2, o2])]
            clear o2 s3
            go_enter Try.func30, Try.ntmps30
            go_wp2_with fail
            have q1 : RefAt (w.setCell ⟨g, 37, none⟩ (.int .i64 now)) g c ({ p with now := now } : Pol) := (h.snow now)
            have g1 : w.grownBy (w.setCell ⟨g, 37, none⟩ (.int .i64 now)) (some g) := (grown_setCell (grownBy_refl w (some g)) _ _)
            clear c_st c_wa c_fa c_wy c_now c_up c_la c_en c_id c_se c_ho c_pe c_de c_mf f_st f_wa f_fa f_wy f_now f_up f_la f_en
            generalize w.setCell ⟨g, 37, none⟩ (.int .i64 now) = U1 at *
            have c_st := q1.cst
            have c_wa := q1.cwa
            have c_fa := q1.cfa
            have c_wy := q1.cwy
            have c_now := q1.cnow
            have c_up := q1.cup
            have c_la := q1.cla
            have c_en := q1.cen
            have c_id := q1.cid
            have c_se := q1.cse
            have c_ho := q1.cho
            have c_pe := q1.cpe
            have c_de := q1.cde
            have c_mf := q1.cmf
            have f_st := q1.free 33
            have f_wa := q1.free 34
            have f_fa := q1.free 35
            have f_wy := q1.free 36
            have f_now := q1.free 37
            have f_up := q1.free 38
            have f_la := q1.free 39
            have f_en := q1.free 40
            simp only at c_st c_wa c_fa c_wy c_now c_up c_la c_en c_id c_se c_ho c_pe c_de c_mf
            go_quiet (fail)
            have hBU : Below U1.heap.size U1 (U1.drewN nq) := below_drewN (Below.refl _ _) nq
            replace q1 := q1.below hBU
            replace g1 := grown_below g1 hBU
            clear c_st c_wa c_fa c_wy c_now c_up c_la c_en c_id c_se c_ho c_pe c_de c_mf f_st f_wa f_fa f_wy f_now f_up f_la f_en
            clear hBU
            generalize U1.drewN nq = V1 at *
            have c_st := q1.cst
            have c_wa := q1.cwa
            have c_fa := q1.cfa
            have c_wy := q1.cwy
            have c_now := q1.cnow
            have c_up := q1.cup
            have c_la := q1.cla
            have c_en := q1.cen
            have c_id := q1.cid
            have c_se := q1.cse
            have c_ho := q1.cho
            have c_pe := q1.cpe
            have c_de := q1.cde
            have c_mf := q1.cmf
            have f_st := q1.free 33
            have f_wa := q1.free 34
            have f_fa := q1.free 35
            have f_wy := q1.free 36
            have f_now := q1.free 37
            have f_up := q1.free 38
            have f_la := q1.free 39
            have f_en := q1.free 40
            simp only at c_st c_wa c_fa c_wy c_now c_up c_la c_en c_id c_se c_ho c_pe c_de c_mf
            clear c_st c_wa c_fa c_wy c_now c_up c_la c_en c_id c_se c_ho c_pe c_de c_mf f_st f_wa f_fa f_wy f_now f_up f_la f_en
            have c_st := q1.cst
            have c_wa := q1.cwa
            have c_fa := q1.cfa
            have c_wy := q1.cwy
            have c_now := q1.cnow
            have c_up := q1.cup
            have c_la := q1.cla
            have c_en := q1.cen
            have c_id := q1.cid
            have c_se := q1.cse
            have c_ho := q1.cho
            have c_pe := q1.cpe
            have c_de := q1.cde
            have c_mf := q1.cmf
            have f_st := q1.free 33
            have f_wa := q1.free 34
            have f_fa := q1.free 35
            have f_wy := q1.free 36
            have f_now := q1.free 37
            have f_up := q1.free 38
            have f_la := q1.free 39
            have f_en := q1.free 40
            simp only at c_st c_wa c_fa c_wy c_now c_up c_la c_en c_id c_se c_ho c_pe c_de c_mf
            go_wp2_with fail
            go_quiet (fail)
            have hBU : Below V1.heap.size V1 (V1.drewN nq) := below_drewN (Below.refl _ _) nq
            have q2 := q1.below hBU
            have g2 := grown_below g1 hBU
            clear c_st c_wa c_fa c_wy c_now c_up c_la c_en c_id c_se c_ho c_pe c_de c_mf f_st f_wa f_fa f_wy f_now f_up f_la f_en
            clear hBU q1 g1
            generalize V1.drewN nq = V2 at *
            have c_st := q2.cst
            have c_wa := q2.cwa
            have c_fa := q2.cfa
            have c_wy := q2.cwy
            have c_now := q2.cnow
            have c_up := q2.cup
            have c_la := q2.cla
            have c_en := q2.cen
            have c_id := q2.cid
            have c_se := q2.cse
            have c_ho := q2.cho
            have c_pe := q2.cpe
            have c_de := q2.cde
            have c_mf := q2.cmf
            have f_st := q2.free 33
            have f_wa := q2.free 34
            have f_fa := q2.free 35
            have f_wy := q2.free 36
            have f_now := q2.free 37
            have f_up := q2.free 38
            have f_la := q2.free 39
            have f_en := q2.free 40
            simp only at c_st c_wa c_fa c_wy c_now c_up c_la c_en c_id c_se c_ho c_pe c_de c_mf
            clear c_st c_wa c_fa c_wy c_now c_up c_la c_en c_id c_se c_ho c_pe c_de c_mf f_st f_wa f_fa f_wy f_now f_up f_la f_en
            have c_st := q2.cst
            have c_wa := q2.cwa
            have c_fa := q2.cfa
            have c_wy := q2.cwy
            have c_now := q2.cnow
            have c_up := q2.cup
            have c_la := q2.cla
            have c_en := q2.cen
            have c_id := q2.cid
            have c_se := q2.cse
            have c_ho := q2.cho
            have c_pe := q2.cpe
            have c_de := q2.cde
            have c_mf := q2.cmf
            have f_st := q2.free 33
            have f_wa := q2.free 34
            have f_fa := q2.free 35
            have f_wy := q2.free 36
            have f_now := q2.free 37
            have f_up := q2.free 38
            have f_la := q2.free 39
            have f_en := q2.free 40
            simp only at c_st c_wa c_fa c_wy c_now c_up c_la c_en c_id c_se c_ho c_pe c_de c_mf
            go_wp2_with fail
            go_quiet (fail)
            have hBU : Below V2.heap.size V2 (V2.drewN nq) := below_drewN (Below.refl _ _) nq
            have q3 := q2.below hBU
            have g3 := grown_below g2 hBU
            clear c_st c_wa c_fa c_wy c_now c_up c_la c_en c_id c_se c_ho c_pe c_de c_mf f_st f_wa f_fa f_wy f_now f_up f_la f_en
            clear hBU q2 g2
            generalize V2.drewN nq = V3 at *
            have c_st := q3.cst
            have c_wa := q3.cwa
            have c_fa := q3.cfa
            have c_wy := q3.cwy
            have c_now := q3.cnow
            have c_up := q3.cup
            have c_la := q3.cla
            have c_en := q3.cen
            have c_id := q3.cid
            have c_se := q3.cse
            have c_ho := q3.cho
            have c_pe := q3.cpe
            have c_de := q3.cde
            have c_mf := q3.cmf
            have f_st := q3.free 33
            have f_wa := q3.free 34
            have f_fa := q3.free 35
            have f_wy := q3.free 36
            have f_now := q3.free 37
            have f_up := q3.free 38
            have f_la := q3.free 39
            have f_en := q3.free 40
            simp only at c_st c_wa c_fa c_wy c_now c_up c_la c_en c_id c_se c_ho c_pe c_de c_mf
            go_wp2_with fail
            go_ret2
            exact ⟨⟨_, rfl, own_nil _ _⟩, q3, g3⟩
        · have da2 : decide (0 < p.id) = false := decide_eq_false a2
          rw [due_fresh ({ p with now := now } : Pol) s3 (by unfold Pol.tired; simp [a1, o1, a2])]
          clear s3
          go_enter Try.func30, Try.ntmps30
          go_wp2_with fail
          have q1 : RefAt (w.setCell ⟨g, 37, none⟩ (.int .i64 now)) g c ({ p with now := now } : Pol) := (h.snow now)
          have g1 : w.grownBy (w.setCell ⟨g, 37, none⟩ (.int .i64 now)) (some g) := (grown_setCell (grownBy_refl w (some g)) _ _)
          clear c_st c_wa c_fa c_wy c_now c_up c_la c_en c_id c_se c_ho c_pe c_de c_mf f_st f_wa f_fa f_wy f_now f_up f_la f_en
          generalize w.setCell ⟨g, 37, none⟩ (.int .i64 now) = U1 at *
          have c_st := q1.cst
          have c_wa := q1.cwa
          have c_fa := q1.cfa
          have c_wy := q1.cwy
          have c_now := q1.cnow
          have c_up := q1.cup
          have c_la := q1.cla
          have c_en := q1.cen
          have c_id := q1.cid
          have c_se := q1.cse
          have c_ho := q1.cho
          have c_pe := q1.cpe
          have c_de := q1.cde
          have c_mf := q1.cmf
          have f_st := q1.free 33
          have f_wa := q1.free 34
          have f_fa := q1.free 35
          have f_wy := q1.free 36
          have f_now := q1.free 37
          have f_up := q1.free 38
          have f_la := q1.free 39
          have f_en := q1.free 40
          simp only at c_st c_wa c_fa c_wy c_now c_up c_la c_en c_id c_se c_ho c_pe c_de c_mf
          go_quiet (fail)
          have hBU : Below U1.heap.size U1 (U1.drewN nq) := below_drewN (Below.refl _ _) nq
          replace q1 := q1.below hBU
          replace g1 := grown_below g1 hBU
          clear c_st c_wa c_fa c_wy c_now c_up c_la c_en c_id c_se c_ho c_pe c_de c_mf f_st f_wa f_fa f_wy f_now f_up f_la f_en
          clear hBU
          generalize U1.drewN nq = V1 at *
          have c_st := q1.cst
          have c_wa := q1.cwa
          have c_fa := q1.cfa
          have c_wy := q1.cwy
          have c_now := q1.cnow
          have c_up := q1.cup
          have c_la := q1.cla
          have c_en := q1.cen
          have c_id := q1.cid
          have c_se := q1.cse
          have c_ho := q1.cho
          have c_pe := q1.cpe
          have c_de := q1.cde
          have c_mf := q1.cmf
          have f_st := q1.free 33
          have f_wa := q1.free 34
          have f_fa := q1.free 35
          have f_wy := q1.free 36
          have f_now := q1.free 37
          have f_up := q1.free 38
          have f_la := q1.free 39
          have f_en := q1.free 40
          simp only at c_st c_wa c_fa c_wy c_now c_up c_la c_en c_id c_se c_ho c_pe c_de c_mf
          clear c_st c_wa c_fa c_wy c_now c_up c_la c_en c_id c_se c_ho c_pe c_de c_mf f_st f_wa f_fa f_wy f_now f_up f_la f_en
          have c_st := q1.cst
          have c_wa := q1.cwa
          have c_fa := q1.cfa
          have c_wy := q1.cwy
          have c_now := q1.cnow
          have c_up := q1.cup
          have c_la := q1.cla
          have c_en := q1.cen
          have c_id := q1.cid
          have c_se := q1.cse
          have c_ho := q1.cho
          have c_pe := q1.cpe
          have c_de := q1.cde
          have c_mf := q1.cmf
          have f_st := q1.free 33
          have f_wa := q1.free 34
          have f_fa := q1.free 35
          have f_wy := q1.free 36
          have f_now := q1.free 37
          have f_up := q1.free 38
          have f_la := q1.free 39
          have f_en := q1.free 40
          simp only at c_st c_wa c_fa c_wy c_now c_up c_la c_en c_id c_se c_ho c_pe c_de c_mf
          go_wp2_with fail
          go_quiet (fail)
          have hBU : Below V1.heap.size V1 (V1.drewN nq) := below_drewN (Below.refl _ _) nq
          have q2 := q1.below hBU
          have g2 := grown_below g1 hBU
          clear c_st c_wa c_fa c_wy c_now c_up c_la c_en c_id c_se c_ho c_pe c_de c_mf f_st f_wa f_fa f_wy f_now f_up f_la f_en
          clear hBU q1 g1
          generalize V1.drewN nq = V2 at *
          have c_st := q2.cst
          have c_wa := q2.cwa
          have c_fa := q2.cfa
          have c_wy := q2.cwy
          have c_now := q2.cnow
          have c_up := q2.cup
          have c_la := q2.cla
          have c_en := q2.cen
          have c_id := q2.cid
          have c_se := q2.cse
          have c_ho := q2.cho
          have c_pe := q2.cpe
          have c_de := q2.cde
          have c_mf := q2.cmf
          have f_st := q2.free 33
          have f_wa := q2.free 34
          have f_fa := q2.free 35
          have f_wy := q2.free 36
          have f_now := q2.free 37
          have f_up := q2.free 38
          have f_la := q2.free 39
          have f_en := q2.free 40
          simp only at c_st c_wa c_fa c_wy c_now c_up c_la c_en c_id c_se c_ho c_pe c_de c_mf
          clear c_st c_wa c_fa c_wy c_now c_up c_la c_en c_id c_se c_ho c_pe c_de c_mf f_st f_wa f_fa f_wy f_now f_up f_la f_en
          have c_st := q2.cst
          have c_wa := q2.cwa
          have c_fa := q2.cfa
          have c_wy := q2.cwy
          have c_now := q2.cnow
          have c_up := q2.cup
          have c_la := q2.cla
          have c_en := q2.cen
          have c_id := q2.cid
          have c_se := q2.cse
          have c_ho := q2.cho
          have c_pe := q2.cpe
          have c_de := q2.cde
          have c_mf := q2.cmf
          have f_st := q2.free 33
          have f_wa := q2.free 34
          have f_fa := q2.free 35
          have f_wy := q2.free 36
          have f_now := q2.free 37
          have f_up := q2.free 38
          have f_la := q2.free 39
          have f_en := q2.free 40
          simp only at c_st c_wa c_fa c_wy c_now c_up c_la c_en c_id c_se c_ho c_pe c_de c_mf
          go_wp2_with fail
          go_quiet (fail)
          have hBU : Below V2.heap.size V2 (V2.drewN nq) := below_drewN (Below.refl _ _) nq
          have q3 := q2.below hBU
          have g3 := grown_below g2 hBU
          clear c_st c_wa c_fa c_wy c_now c_up c_la c_en c_id c_se c_ho c_pe c_de c_mf f_st f_wa f_fa f_wy f_now f_up f_la f_en
          clear hBU q2 g2
          generalize V2.drewN nq = V3 at *
          have c_st := q3.cst
          have c_wa := q3.cwa
          have c_fa := q3.cfa
          have c_wy := q3.cwy
          have c_now := q3.cnow
          have c_up := q3.cup
          have c_la := q3.cla
          have c_en := q3.cen
          have c_id := q3.cid
          have c_se := q3.cse
          have c_ho := q3.cho
          have c_pe := q3.cpe
          have c_de := q3.cde
          have c_mf := q3.cmf
          have f_st := q3.free 33
          have f_wa := q3.free 34
          have f_fa := q3.free 35
          have f_wy := q3.free 36
          have f_now := q3.free 37
          have f_up := q3.free 38
          have f_la := q3.free 39
          have f_en := q3.free 40
          simp only at c_st c_wa c_fa c_wy c_now c_up c_la c_en c_id c_se c_ho c_pe c_de c_mf
          go_wp2_with fail
          go_ret2
          exact ⟨⟨_, rfl, own_nil _ _⟩, q3, g3⟩
    · have da1 : decide (0 < p.se) = false := decide_eq_false a1
      by_cases a2 : 0 < p.id
      · by_cases o2x : p.id ≤ wrap64 (now - p.la)
        · skip
          have o2 : ovr now p.la p.id = true := by unfold ovr; simpa using o2x
          rw [due_tired ({ p with now := now } : Pol) 2 s3 (by unfold Pol.tired; simp [a1, a2, o2]) (by decide)]
          clear o2 s3
          go_enter Try.func30, Try.ntmps30
          go_wp2_with fail
          have q1 : RefAt (w.setCell ⟨g, 37, none⟩ (.int .i64 now)) g c ({ p with now := now } : Pol) := (h.snow now)
          have g1 : w.grownBy (w.setCell ⟨g, 37, none⟩ (.int .i64 now)) (some g) := (grown_setCell (grownBy_refl w (some g)) _ _)
          clear c_st c_wa c_fa c_wy c_now c_up c_la c_en c_id c_se c_ho c_pe c_de c_mf f_st f_wa f_fa f_wy f_now f_up f_la f_en
          generalize w.setCell ⟨g, 37, none⟩ (.int .i64 now) = U1 at *
          have c_st := q1.cst
          have c_wa := q1.cwa
          have c_fa := q1.cfa
          have c_wy := q1.cwy
          have c_now := q1.cnow
          have c_up := q1.cup
          have c_la := q1.cla
          have c_en := q1.cen
          have c_id := q1.cid
          have c_se := q1.cse
          have c_ho := q1.cho
          have c_pe := q1.cpe
          have c_de := q1.cde
          have c_mf := q1.cmf
          have f_st := q1.free 33
          have f_wa := q1.free 34
          have f_fa := q1.free 35
          have f_wy := q1.free 36
          have f_now := q1.free 37
          have f_up := q1.free 38
          have f_la := q1.free 39
          have f_en := q1.free 40
          simp only at c_st c_wa c_fa c_wy c_now c_up c_la c_en c_id c_se c_ho c_pe c_de c_mf
          go_quiet (fail)
          have hBU : Below U1.heap.size U1 (U1.drewN nq) := below_drewN (Below.refl _ _) nq
          replace q1 := q1.below hBU
          replace g1 := grown_below g1 hBU
          clear c_st c_wa c_fa c_wy c_now c_up c_la c_en c_id c_se c_ho c_pe c_de c_mf f_st f_wa f_fa f_wy f_now f_up f_la f_en
          clear hBU
          generalize U1.drewN nq = V1 at *
          have c_st := q1.cst
          have c_wa := q1.cwa
          have c_fa := q1.cfa
          have c_wy := q1.cwy
          have c_now := q1.cnow
          have c_up := q1.cup
          have c_la := q1.cla
          have c_en := q1.cen
          have c_id := q1.cid
          have c_se := q1.cse
          have c_ho := q1.cho
          have c_pe := q1.cpe
          have c_de := q1.cde
          have c_mf := q1.cmf
          have f_st := q1.free 33
          have f_wa := q1.free 34
          have f_fa := q1.free 35
          have f_wy := q1.free 36
          have f_now := q1.free 37
          have f_up := q1.free 38
          have f_la := q1.free 39
          have f_en := q1.free 40
          simp only at c_st c_wa c_fa c_wy c_now c_up c_la c_en c_id c_se c_ho c_pe c_de c_mf
          clear c_st c_wa c_fa c_wy c_now c_up c_la c_en c_id c_se c_ho c_pe c_de c_mf f_st f_wa f_fa f_wy f_now f_up f_la f_en
          have c_st := q1.cst
          have c_wa := q1.cwa
          have c_fa := q1.cfa
          have c_wy := q1.cwy
          have c_now := q1.cnow
          have c_up := q1.cup
          have c_la := q1.cla
          have c_en := q1.cen
          have c_id := q1.cid
          have c_se := q1.cse
          have c_ho := q1.cho
          have c_pe := q1.cpe
          have c_de := q1.cde
          have c_mf := q1.cmf
          have f_st := q1.free 33
          have f_wa := q1.free 34
          have f_fa := q1.free 35
          have f_wy := q1.free 36
          have f_now := q1.free 37
          have f_up := q1.free 38
          have f_la := q1.free 39
          have f_en := q1.free 40
          simp only at c_st c_wa c_fa c_wy c_now c_up c_la c_en c_id c_se c_ho c_pe c_de c_mf
          go_wp2_with fail
          go_quiet (fail)
          have hBU : Below V1.heap.size V1 (V1.drewN nq) := below_drewN (Below.refl _ _) nq
          have q2 := q1.below hBU
          have g2 := grown_below g1 hBU
          clear c_st c_wa c_fa c_wy c_now c_up c_la c_en c_id c_se c_ho c_pe c_de c_mf f_st f_wa f_fa f_wy f_now f_up f_la f_en
          clear hBU q1 g1
          generalize V1.drewN nq = V2 at *
          have c_st := q2.cst
          have c_wa := q2.cwa
          have c_fa := q2.cfa
          have c_wy := q2.cwy
          have c_now := q2.cnow
          have c_up := q2.cup
          have c_la := q2.cla
          have c_en := q2.cen
          have c_id := q2.cid
          have c_se := q2.cse
          have c_ho := q2.cho
          have c_pe := q2.cpe
          have c_de := q2.cde
          have c_mf := q2.cmf
          have f_st := q2.free 33
          have f_wa := q2.free 34
          have f_fa := q2.free 35
          have f_wy := q2.free 36
          have f_now := q2.free 37
          have f_up := q2.free 38
          have f_la := q2.free 39
          have f_en := q2.free 40
          simp only at c_st c_wa c_fa c_wy c_now c_up c_la c_en c_id c_se c_ho c_pe c_de c_mf
          go_wp2_with fail
          refine (rhang53 g c _ _ 2 q2).mono ?_
          rintro e w' ⟨⟨v, rfl, h1⟩, h2, h3⟩
          go_wp2
          go_ret2
          exact ⟨⟨_, rfl, h1.weak g2.size⟩, h2, grown_trans g2 h3⟩
        · skip
          have o2 : ovr now p.la p.id = false := by unfold ovr; simpa using o2x
          have do2 : decide (p.id ≤ wrap64 (now - p.la)) = false := decide_eq_false o2x
          rw [due_fresh ({ p with now := now } : Pol) s3 (by unfold Pol.tired; simp [a1, a2, o2])]
          clear o2 s3
          go_enter Try.func30, Try.ntmps30
          go_wp2_with fail
          have q1 : RefAt (w.setCell ⟨g, 37, none⟩ (.int .i64 now)) g c ({ p with now := now } : Pol) := (h.snow now)
          have g1 : w.grownBy (w.setCell ⟨g, 37, none⟩ (.int .i64 now)) (some g) := (grown_setCell (grownBy_refl w (some g)) _ _)
          clear c_st c_wa c_fa c_wy c_now c_up c_la c_en c_id c_se c_ho c_pe c_de c_mf f_st f_wa f_fa f_wy f_now f_up f_la f_en
          generalize w.setCell ⟨g, 37, none⟩ (.int .i64 now) = U1 at *
          have c_st := q1.cst
          have c_wa := q1.cwa
          have c_fa := q1.cfa
          have c_wy := q1.cwy
          have c_now := q1.cnow
          have c_up := q1.cup
          have c_la := q1.cla
          have c_en := q1.cen
          have c_id := q1.cid
          have c_se := q1.cse
          have c_ho := q1.cho
          have c_pe := q1.cpe
          have c_de := q1.cde
          have c_mf := q1.cmf
          have f_st := q1.free 33
          have f_wa := q1.free 34
          have f_fa := q1.free 35
          have f_wy := q1.free 36
          have f_now := q1.free 37
          have f_up := q1.free 38
          have f_la := q1.free 39
          have f_en := q1.free 40
          simp only at c_st c_wa c_fa c_wy c_now c_up c_la c_en c_id c_se c_ho c_pe c_de c_mf
          go_quiet (fail)
          have hBU : Below U1.heap.size U1 (U1.drewN nq) := below_drewN (Below.refl _ _) nq
          replace q1 := q1.below hBU
          replace g1 := grown_below g1 hBU
          clear c_st c_wa c_fa c_wy c_now c_up c_la c_en c_id c_se c_ho c_pe c_de c_mf f_st f_wa f_fa f_wy f_now f_up f_la f_en
          clear hBU
          generalize U1.drewN nq = V1 at *
          have c_st := q1.cst
          have c_wa := q1.cwa
          have c_fa := q1.cfa
          have c_wy := q1.cwy
          have c_now := q1.cnow
          have c_up := q1.cup
          have c_la := q1.cla
          have c_en := q1.cen
          have c_id := q1.cid
          have c_se := q1.cse
          have c_ho := q1.cho
          have c_pe := q1.cpe
          have c_de := q1.cde
          have c_mf := q1.cmf
          have f_st := q1.free 33
          have f_wa := q1.free 34
          have f_fa := q1.free 35
          have f_wy := q1.free 36
          have f_now := q1.free 37
          have f_up := q1.free 38
          have f_la := q1.free 39
          have f_en := q1.free 40
          simp only at c_st c_wa c_fa c_wy c_now c_up c_la c_en c_id c_se c_ho c_pe c_de c_mf
          clear c_st c_wa c_fa c_wy c_now c_up c_la c_en c_id c_se c_ho c_pe c_de c_mf f_st f_wa f_fa f_wy f_now f_up f_la f_en
          have c_st := q1.cst
          have c_wa := q1.cwa
          have c_fa := q1.cfa
          have c_wy := q1.cwy
          have c_now := q1.cnow
          have c_up := q1.cup
          have c_la := q1.cla
          have c_en := q1.cen
          have c_id := q1.cid
          have c_se := q1.cse
          have c_ho := q1.cho
          have c_pe := q1.cpe
          have c_de := q1.cde
          have c_mf := q1.cmf
          have f_st := q1.free 33
          have f_wa := q1.free 34
          have f_fa := q1.free 35
          have f_wy := q1.free 36
          have f_now := q1.free 37
          have f_up := q1.free 38
          have f_la := q1.free 39
          have f_en := q1.free 40
          simp only at c_st c_wa c_fa c_wy c_now c_up c_la c_en c_id c_se c_ho c_pe c_de c_mf
          go_wp2_with fail
          go_quiet (fail)
          have hBU : Below V1.heap.size V1 (V1.drewN nq) := below_drewN (Below.refl _ _) nq
          have q2 := q1.below hBU
          have g2 := grown_below g1 hBU
          clear c_st c_wa c_fa c_wy c_now c_up c_la c_en c_id c_se c_ho c_pe c_de c_mf f_st f_wa f_fa f_wy f_now f_up f_la f_en
          clear hBU q1 g1
          generalize V1.drewN nq = V2 at *
          have c_st := q2.cst
          have c_wa := q2.cwa
          have c_fa := q2.cfa
          have c_wy := q2.cwy
          have c_now := q2.cnow
          have c_up := q2.cup
          have c_la := q2.cla
          have c_en := q2.cen
          have c_id := q2.cid
          have c_se := q2.cse
          have c_ho := q2.cho
          have c_pe := q2.cpe
          have c_de := q2.cde
          have c_mf := q2.cmf
          have f_st := q2.free 33
          have f_wa := q2.free 34
          have f_fa := q2.free 35
          have f_wy := q2.free 36
          have f_now := q2.free 37
          have f_up := q2.free 38
          have f_la := q2.free 39
          have f_en := q2.free 40
          simp only at c_st c_wa c_fa c_wy c_now c_up c_la c_en c_id c_se c_ho c_pe c_de c_mf
          clear c_st c_wa c_fa c_wy c_now c_up c_la c_en c_id c_se c_ho c_pe c_de c_mf f_st f_wa f_fa f_wy f_now f_up f_la f_en
          have c_st := q2.cst
          have c_wa := q2.cwa
          have c_fa := q2.cfa
          have c_wy := q2.cwy
          have c_now := q2.cnow
          have c_up := q2.cup
          have c_la := q2.cla
          have c_en := q2.cen
          have c_id := q2.cid
          have c_se := q2.cse
          have c_ho := q2.cho
          have c_pe := q2.cpe
          have c_de := q2.cde
          have c_mf := q2.cmf
          have f_st := q2.free 33
          have f_wa := q2.free 34
          have f_fa := q2.free 35
          have f_wy := q2.free 36
          have f_now := q2.free 37
          have f_up := q2.free 38
          have f_la := q2.free 39
          have f_en := q2.free 40
          simp only at c_st c_wa c_fa c_wy c_now c_up c_la c_en c_id c_se c_ho c_pe c_de c_mf
          go_wp2_with fail
          go_quiet (fail)
          have hBU : Below V2.heap.size V2 (V2.drewN nq) := below_drewN (Below.refl _ _) nq
          have q3 := q2.below hBU
          have g3 := grown_below g2 hBU
          clear c_st c_wa c_fa c_wy c_now c_up c_la c_en c_id c_se c_ho c_pe c_de c_mf f_st f_wa f_fa f_wy f_now f_up f_la f_en
          clear hBU q2 g2
          generalize V2.drewN nq = V3 at *
          have c_st := q3.cst
          have c_wa := q3.cwa
          have c_fa := q3.cfa
          have c_wy := q3.cwy
          have c_now := q3.cnow
          have c_up := q3.cup
          have c_la := q3.cla
          have c_en := q3.cen
          have c_id := q3.cid
          have c_se := q3.cse
          have c_ho := q3.cho
          have c_pe := q3.cpe
          have c_de := q3.cde
          have c_mf := q3.cmf
          have f_st := q3.free 33
          have f_wa := q3.free 34
          have f_fa := q3.free 35
          have f_wy := q3.free 36
          have f_now := q3.free 37
          have f_up := q3.free 38
          have f_la := q3.free 39
          have f_en := q3.free 40
          simp only at c_st c_wa c_fa c_wy c_now c_up c_la c_en c_id c_se c_ho c_pe c_de c_mf
          go_wp2_with fail
          go_ret2
          exact ⟨⟨_, rfl, own_nil _ _⟩, q3, g3⟩
      · have da2 : decide (0 < p.id) = false := decide_eq_false a2
        rw [due_fresh ({ p with now := now } : Pol) s3 (by unfold Pol.tired; simp [a1, a2])]
        clear s3
        go_enter Try.func30, Try.ntmps30
        go_wp2_with fail
        have q1 : RefAt (w.setCell ⟨g, 37, none⟩ (.int .i64 now)) g c ({ p with now := now } : Pol) := (h.snow now)
        have g1 : w.grownBy (w.setCell ⟨g, 37, none⟩ (.int .i64 now)) (some g) := (grown_setCell (grownBy_refl w (some g)) _ _)
        clear c_st c_wa c_fa c_wy c_now c_up c_la c_en c_id c_se c_ho c_pe c_de c_mf f_st f_wa f_fa f_wy f_now f_up f_la f_en
        generalize w.setCell ⟨g, 37, none⟩ (.int .i64 now) = U1 at *
        have c_st := q1.cst
        have c_wa := q1.cwa
        have c_fa := q1.cfa
        have c_wy := q1.cwy
        have c_now := q1.cnow
        have c_up := q1.cup
        have c_la := q1.cla
        have c_en := q1.cen
        have c_id := q1.cid
        have c_se := q1.cse
        have c_ho := q1.cho
        have c_pe := q1.cpe
        have c_de := q1.cde
        have c_mf := q1.cmf
        have f_st := q1.free 33
        have f_wa := q1.free 34
        have f_fa := q1.free 35
        have f_wy := q1.free 36
        have f_now := q1.free 37
        have f_up := q1.free 38
        have f_la := q1.free 39
        have f_en := q1.free 40
        simp only at c_st c_wa c_fa c_wy c_now c_up c_la c_en c_id c_se c_ho c_pe c_de c_mf
        go_quiet (fail)
        have hBU : Below U1.heap.size U1 (U1.drewN nq) := below_drewN (Below.refl _ _) nq
        replace q1 := q1.below hBU
        replace g1 := grown_below g1 hBU
        clear c_st c_wa c_fa c_wy c_now c_up c_la c_en c_id c_se c_ho c_pe c_de c_mf f_st f_wa f_fa f_wy f_now f_up f_la f_en
        clear hBU
        generalize U1.drewN nq = V1 at *
        have c_st := q1.cst
        have c_wa := q1.cwa
        have c_fa := q1.cfa
        have c_wy := q1.cwy
        have c_now := q1.cnow
        have c_up := q1.cup
        have c_la := q1.cla
        have c_en := q1.cen
        have c_id := q1.cid
        have c_se := q1.cse
        have c_ho := q1.cho
        have c_pe := q1.cpe
        have c_de := q1.cde
        have c_mf := q1.cmf
        have f_st := q1.free 33
        have f_wa := q1.free 34
        have f_fa := q1.free 35
        have f_wy := q1.free 36
        have f_now := q1.free 37
        have f_up := q1.free 38
        have f_la := q1.free 39
        have f_en := q1.free 40
        simp only at c_st c_wa c_fa c_wy c_now c_up c_la c_en c_id c_se c_ho c_pe c_de c_mf
        clear c_st c_wa c_fa c_wy c_now c_up c_la c_en c_id c_se c_ho c_pe c_de c_mf f_st f_wa f_fa f_wy f_now f_up f_la f_en
        have c_st := q1.cst
        have c_wa := q1.cwa
        have c_fa := q1.cfa
        have c_wy := q1.cwy
        have c_now := q1.cnow
        have c_up := q1.cup
        have c_la := q1.cla
        have c_en := q1.cen
        have c_id := q1.cid
        have c_se := q1.cse
        have c_ho := q1.cho
        have c_pe := q1.cpe
        have c_de := q1.cde
        have c_mf := q1.cmf
        have f_st := q1.free 33
        have f_wa := q1.free 34
        have f_fa := q1.free 35
        have f_wy := q1.free 36
        have f_now := q1.free 37
        have f_up := q1.free 38
        have f_la := q1.free 39
        have f_en := q1.free 40
        simp only at c_st c_wa c_fa c_wy c_now c_up c_la c_en c_id c_se c_ho c_pe c_de c_mf
        go_wp2_with fail
        go_quiet (fail)
        have hBU : Below V1.heap.size V1 (V1.drewN nq) := below_drewN (Below.refl _ _) nq
        have q2 := q1.below hBU
        have g2 := grown_below g1 hBU
        clear c_st c_wa c_fa c_wy c_now c_up c_la c_en c_id c_se c_ho c_pe c_de c_mf f_st f_wa f_fa f_wy f_now f_up f_la f_en
        clear hBU q1 g1
        generalize V1.drewN nq = V2 at *
        have c_st := q2.cst
        have c_wa := q2.cwa
        have c_fa := q2.cfa
        have c_wy := q2.cwy
        have c_now := q2.cnow
        have c_up := q2.cup
        have c_la := q2.cla
        have c_en := q2.cen
        have c_id := q2.cid
        have c_se := q2.cse
        have c_ho := q2.cho
        have c_pe := q2.cpe
        have c_de := q2.cde
        have c_mf := q2.cmf
        have f_st := q2.free 33
        have f_wa := q2.free 34
        have f_fa := q2.free 35
        have f_wy := q2.free 36
        have f_now := q2.free 37
        have f_up := q2.free 38
        have f_la := q2.free 39
        have f_en := q2.free 40
        simp only at c_st c_wa c_fa c_wy c_now c_up c_la c_en c_id c_se c_ho c_pe c_de c_mf
        clear c_st c_wa c_fa c_wy c_now c_up c_la c_en c_id c_se c_ho c_pe c_de c_mf f_st f_wa f_fa f_wy f_now f_up f_la f_en
        have c_st := q2.cst
        have c_wa := q2.cwa
        have c_fa := q2.cfa
        have c_wy := q2.cwy
        have c_now := q2.cnow
        have c_up := q2.cup
        have c_la := q2.cla
        have c_en := q2.cen
        have c_id := q2.cid
        have c_se := q2.cse
        have c_ho := q2.cho
        have c_pe := q2.cpe
        have c_de := q2.cde
        have c_mf := q2.cmf
        have f_st := q2.free 33
        have f_wa := q2.free 34
        have f_fa := q2.free 35
        have f_wy := q2.free 36
        have f_now := q2.free 37
        have f_up := q2.free 38
        have f_la := q2.free 39
        have f_en := q2.free 40
        simp only at c_st c_wa c_fa c_wy c_now c_up c_la c_en c_id c_se c_ho c_pe c_de c_mf
        go_wp2_with fail
        go_quiet (fail)
        have hBU : Below V2.heap.size V2 (V2.drewN nq) := below_drewN (Below.refl _ _) nq
        have q3 := q2.below hBU
        have g3 := grown_below g2 hBU
        clear c_st c_wa c_fa c_wy c_now c_up c_la c_en c_id c_se c_ho c_pe c_de c_mf f_st f_wa f_fa f_wy f_now f_up f_la f_en
        clear hBU q2 g2
        generalize V2.drewN nq = V3 at *
        have c_st := q3.cst
        have c_wa := q3.cwa
        have c_fa := q3.cfa
        have c_wy := q3.cwy
        have c_now := q3.cnow
        have c_up := q3.cup
        have c_la := q3.cla
        have c_en := q3.cen
        have c_id := q3.cid
        have c_se := q3.cse
        have c_ho := q3.cho
        have c_pe := q3.cpe
        have c_de := q3.cde
        have c_mf := q3.cmf
        have f_st := q3.free 33
        have f_wa := q3.free 34
        have f_fa := q3.free 35
        have f_wy := q3.free 36
        have f_now := q3.free 37
        have f_up := q3.free 38
        have f_la := q3.free 39
        have f_en := q3.free 40
        simp only at c_st c_wa c_fa c_wy c_now c_up c_la c_en c_id c_se c_ho c_pe c_de c_mf
        go_wp2_with fail
        go_ret2
        exact ⟨⟨_, rfl, own_nil _ _⟩, q3, g3⟩
  have x3 : (p.st == 3) = false := beq_eq_false_iff_ne.2 s3
  by_cases s1 : p.st = 1
  · have x1 : (p.st == 1) = true := beq_iff_eq.2 s1
    by_cases o3x : p.ho ≤ wrap64 (now - p.en)
    · skip
      have o3 : ovr now p.en p.ho = true := by unfold ovr; simpa using o3x
      rw [due_held ({ p with now := now } : Pol) s1 o3]
      clear o3 s1 s3
      go_enter Try.func30, Try.ntmps30
      go_wp2_with fail
      have q1 : RefAt (w.setCell ⟨g, 37, none⟩ (.int .i64 now)) g c ({ p with now := now } : Pol) := (h.snow now)
      have g1 : w.grownBy (w.setCell ⟨g, 37, none⟩ (.int .i64 now)) (some g) := (grown_setCell (grownBy_refl w (some g)) _ _)
      clear c_st c_wa c_fa c_wy c_now c_up c_la c_en c_id c_se c_ho c_pe c_de c_mf f_st f_wa f_fa f_wy f_now f_up f_la f_en
      generalize w.setCell ⟨g, 37, none⟩ (.int .i64 now) = U1 at *
      have c_st := q1.cst
      have c_wa := q1.cwa
      have c_fa := q1.cfa
      have c_wy := q1.cwy
      have c_now := q1.cnow
      have c_up := q1.cup
      have c_la := q1.cla
      have c_en := q1.cen
      have c_id := q1.cid
      have c_se := q1.cse
      have c_ho := q1.cho
      have c_pe := q1.cpe
      have c_de := q1.cde
      have c_mf := q1.cmf
      have f_st := q1.free 33
      have f_wa := q1.free 34
      have f_fa := q1.free 35
      have f_wy := q1.free 36
      have f_now := q1.free 37
      have f_up := q1.free 38
      have f_la := q1.free 39
      have f_en := q1.free 40
      simp only at c_st c_wa c_fa c_wy c_now c_up c_la c_en c_id c_se c_ho c_pe c_de c_mf
      go_quiet (fail)
      have hBU : Below U1.heap.size U1 (U1.drewN nq) := below_drewN (Below.refl _ _) nq
      replace q1 := q1.below hBU
      replace g1 := grown_below g1 hBU
      clear c_st c_wa c_fa c_wy c_now c_up c_la c_en c_id c_se c_ho c_pe c_de c_mf f_st f_wa f_fa f_wy f_now f_up f_la f_en
      clear hBU
      generalize U1.drewN nq = V1 at *
      have c_st := q1.cst
      have c_wa := q1.cwa
      have c_fa := q1.cfa
      have c_wy := q1.cwy
      have c_now := q1.cnow
      have c_up := q1.cup
      have c_la := q1.cla
      have c_en := q1.cen
      have c_id := q1.cid
      have c_se := q1.cse
      have c_ho := q1.cho
      have c_pe := q1.cpe
      have c_de := q1.cde
      have c_mf := q1.cmf
      have f_st := q1.free 33
      have f_wa := q1.free 34
      have f_fa := q1.free 35
      have f_wy := q1.free 36
      have f_now := q1.free 37
      have f_up := q1.free 38
      have f_la := q1.free 39
      have f_en := q1.free 40
      simp only at c_st c_wa c_fa c_wy c_now c_up c_la c_en c_id c_se c_ho c_pe c_de c_mf
      clear c_st c_wa c_fa c_wy c_now c_up c_la c_en c_id c_se c_ho c_pe c_de c_mf f_st f_wa f_fa f_wy f_now f_up f_la f_en
      have c_st := q1.cst
      have c_wa := q1.cwa
      have c_fa := q1.cfa
      have c_wy := q1.cwy
      have c_now := q1.cnow
      have c_up := q1.cup
      have c_la := q1.cla
      have c_en := q1.cen
      have c_id := q1.cid
      have c_se := q1.cse
      have c_ho := q1.cho
      have c_pe := q1.cpe
      have c_de := q1.cde
      have c_mf := q1.cmf
      have f_st := q1.free 33
      have f_wa := q1.free 34
      have f_fa := q1.free 35
      have f_wy := q1.free 36
      have f_now := q1.free 37
      have f_up := q1.free 38
      have f_la := q1.free 39
      have f_en := q1.free 40
      simp only at c_st c_wa c_fa c_wy c_now c_up c_la c_en c_id c_se c_ho c_pe c_de c_mf
      go_wp2_with fail
      go_quiet (fail)
      have hBU : Below V1.heap.size V1 (V1.drewN nq) := below_drewN (Below.refl _ _) nq
      have q2 := q1.below hBU
      have g2 := grown_below g1 hBU
      clear c_st c_wa c_fa c_wy c_now c_up c_la c_en c_id c_se c_ho c_pe c_de c_mf f_st f_wa f_fa f_wy f_now f_up f_la f_en
      clear hBU q1 g1
      generalize V1.drewN nq = V2 at *
      have c_st := q2.cst
      have c_wa := q2.cwa
      have c_fa := q2.cfa
      have c_wy := q2.cwy
      have c_now := q2.cnow
      have c_up := q2.cup
      have c_la := q2.cla
      have c_en := q2.cen
      have c_id := q2.cid
      have c_se := q2.cse
      have c_ho := q2.cho
      have c_pe := q2.cpe
      have c_de := q2.cde
      have c_mf := q2.cmf
      have f_st := q2.free 33
      have f_wa := q2.free 34
      have f_fa := q2.free 35
      have f_wy := q2.free 36
      have f_now := q2.free 37
      have f_up := q2.free 38
      have f_la := q2.free 39
      have f_en := q2.free 40
      simp only at c_st c_wa c_fa c_wy c_now c_up c_la c_en c_id c_se c_ho c_pe c_de c_mf
      clear c_st c_wa c_fa c_wy c_now c_up c_la c_en c_id c_se c_ho c_pe c_de c_mf f_st f_wa f_fa f_wy f_now f_up f_la f_en
      have c_st := q2.cst
      have c_wa := q2.cwa
      have c_fa := q2.cfa
      have c_wy := q2.cwy
      have c_now := q2.cnow
      have c_up := q2.cup
      have c_la := q2.cla
      have c_en := q2.cen
      have c_id := q2.cid
      have c_se := q2.cse
      have c_ho := q2.cho
      have c_pe := q2.cpe
      have c_de := q2.cde
      have c_mf := q2.cmf
      have f_st := q2.free 33
      have f_wa := q2.free 34
      have f_fa := q2.free 35
      have f_wy := q2.free 36
      have f_now := q2.free 37
      have f_up := q2.free 38
      have f_la := q2.free 39
      have f_en := q2.free 40
      simp only at c_st c_wa c_fa c_wy c_now c_up c_la c_en c_id c_se c_ho c_pe c_de c_mf
      go_wp2_with fail
      go_quiet (fail)
      have hBU : Below V2.heap.size V2 (V2.drewN nq) := below_drewN (Below.refl _ _) nq
      have q3 := q2.below hBU
      have g3 := grown_below g2 hBU
      clear c_st c_wa c_fa c_wy c_now c_up c_la c_en c_id c_se c_ho c_pe c_de c_mf f_st f_wa f_fa f_wy f_now f_up f_la f_en
      clear hBU q2 g2
      generalize V2.drewN nq = V3 at *
      have c_st := q3.cst
      have c_wa := q3.cwa
      have c_fa := q3.cfa
      have c_wy := q3.cwy
      have c_now := q3.cnow
      have c_up := q3.cup
      have c_la := q3.cla
      have c_en := q3.cen
      have c_id := q3.cid
      have c_se := q3.cse
      have c_ho := q3.cho
      have c_pe := q3.cpe
      have c_de := q3.cde
      have c_mf := q3.cmf
      have f_st := q3.free 33
      have f_wa := q3.free 34
      have f_fa := q3.free 35
      have f_wy := q3.free 36
      have f_now := q3.free 37
      have f_up := q3.free 38
      have f_la := q3.free 39
      have f_en := q3.free 40
      simp only at c_st c_wa c_fa c_wy c_now c_up c_la c_en c_id c_se c_ho c_pe c_de c_mf
      go_wp2_with fail
      refine (rheld54 g c _ _ q3).mono ?_
      rintro e w' ⟨⟨v, rfl, h1⟩, h2, h3⟩
      go_wp2
      go_ret2
      exact ⟨⟨_, rfl, h1.weak g3.size⟩, h2, grown_trans g3 h3⟩
    · skip
      have o3 : ovr now p.en p.ho = false := by unfold ovr; simpa using o3x
      have do3 : decide (p.ho ≤ wrap64 (now - p.en)) = false := decide_eq_false o3x
      rw [due_wait ({ p with now := now } : Pol) s1 o3]
      clear o3 s1 s3
      go_enter Try.func30, Try.ntmps30
      go_wp2_with fail
      have q1 : RefAt (w.setCell ⟨g, 37, none⟩ (.int .i64 now)) g c ({ p with now := now } : Pol) := (h.snow now)
      have g1 : w.grownBy (w.setCell ⟨g, 37, none⟩ (.int .i64 now)) (some g) := (grown_setCell (grownBy_refl w (some g)) _ _)
      clear c_st c_wa c_fa c_wy c_now c_up c_la c_en c_id c_se c_ho c_pe c_de c_mf f_st f_wa f_fa f_wy f_now f_up f_la f_en
      generalize w.setCell ⟨g, 37, none⟩ (.int .i64 now) = U1 at *
      have c_st := q1.cst
      have c_wa := q1.cwa
      have c_fa := q1.cfa
      have c_wy := q1.cwy
      have c_now := q1.cnow
      have c_up := q1.cup
      have c_la := q1.cla
      have c_en := q1.cen
      have c_id := q1.cid
      have c_se := q1.cse
      have c_ho := q1.cho
      have c_pe := q1.cpe
      have c_de := q1.cde
      have c_mf := q1.cmf
      have f_st := q1.free 33
      have f_wa := q1.free 34
      have f_fa := q1.free 35
      have f_wy := q1.free 36
      have f_now := q1.free 37
      have f_up := q1.free 38
      have f_la := q1.free 39
      have f_en := q1.free 40
      simp only at c_st c_wa c_fa c_wy c_now c_up c_la c_en c_id c_se c_ho c_pe c_de c_mf
      go_quiet (fail)
      have hBU : Below U1.heap.size U1 (U1.drewN nq) := below_drewN (Below.refl _ _) nq
      replace q1 := q1.below hBU
      replace g1 := grown_below g1 hBU
      clear c_st c_wa c_fa c_wy c_now c_up c_la c_en c_id c_se c_ho c_pe c_de c_mf f_st f_wa f_fa f_wy f_now f_up f_la f_en
      clear hBU
      generalize U1.drewN nq = V1 at *
      have c_st := q1.cst
      have c_wa := q1.cwa
      have c_fa := q1.cfa
      have c_wy := q1.cwy
      have c_now := q1.cnow
      have c_up := q1.cup
      have c_la := q1.cla
      have c_en := q1.cen
      have c_id := q1.cid
      have c_se := q1.cse
      have c_ho := q1.cho
      have c_pe := q1.cpe
      have c_de := q1.cde
      have c_mf := q1.cmf
      have f_st := q1.free 33
      have f_wa := q1.free 34
      have f_fa := q1.free 35
      have f_wy := q1.free 36
      have f_now := q1.free 37
      have f_up := q1.free 38
      have f_la := q1.free 39
      have f_en := q1.free 40
      simp only at c_st c_wa c_fa c_wy c_now c_up c_la c_en c_id c_se c_ho c_pe c_de c_mf
      clear c_st c_wa c_fa c_wy c_now c_up c_la c_en c_id c_se c_ho c_pe c_de c_mf f_st f_wa f_fa f_wy f_now f_up f_la f_en
      have c_st := q1.cst
      have c_wa := q1.cwa
      have c_fa := q1.cfa
      have c_wy := q1.cwy
      have c_now := q1.cnow
      have c_up := q1.cup
      have c_la := q1.cla
      have c_en := q1.cen
      have c_id := q1.cid
      have c_se := q1.cse
      have c_ho := q1.cho
      have c_pe := q1.cpe
      have c_de := q1.cde
      have c_mf := q1.cmf
      have f_st := q1.free 33
      have f_wa := q1.free 34
      have f_fa := q1.free 35
      have f_wy := q1.free 36
      have f_now := q1.free 37
      have f_up := q1.free 38
      have f_la := q1.free 39
      have f_en := q1.free 40
      simp only at c_st c_wa c_fa c_wy c_now c_up c_la c_en c_id c_se c_ho c_pe c_de c_mf
      go_wp2_with fail
      go_quiet (fail)
      have hBU : Below V1.heap.size V1 (V1.drewN nq) := below_drewN (Below.refl _ _) nq
      have q2 := q1.below hBU
      have g2 := grown_below g1 hBU
      clear c_st c_wa c_fa c_wy c_now c_up c_la c_en c_id c_se c_ho c_pe c_de c_mf f_st f_wa f_fa f_wy f_now f_up f_la f_en
      clear hBU q1 g1
      generalize V1.drewN nq = V2 at *
      have c_st := q2.cst
      have c_wa := q2.cwa
      have c_fa := q2.cfa
      have c_wy := q2.cwy
      have c_now := q2.cnow
      have c_up := q2.cup
      have c_la := q2.cla
      have c_en := q2.cen
      have c_id := q2.cid
      have c_se := q2.cse
      have c_ho := q2.cho
      have c_pe := q2.cpe
      have c_de := q2.cde
      have c_mf := q2.cmf
      have f_st := q2.free 33
      have f_wa := q2.free 34
      have f_fa := q2.free 35
      have f_wy := q2.free 36
      have f_now := q2.free 37
      have f_up := q2.free 38
      have f_la := q2.free 39
      have f_en := q2.free 40
      simp only at c_st c_wa c_fa c_wy c_now c_up c_la c_en c_id c_se c_ho c_pe c_de c_mf
      clear c_st c_wa c_fa c_wy c_now c_up c_la c_en c_id c_se c_ho c_pe c_de c_mf f_st f_wa f_fa f_wy f_now f_up f_la f_en
      have c_st := q2.cst
      have c_wa := q2.cwa
      have c_fa := q2.cfa
      have c_wy := q2.cwy
      have c_now := q2.cnow
      have c_up := q2.cup
      have c_la := q2.cla
      have c_en := q2.cen
      have c_id := q2.cid
      have c_se := q2.cse
      have c_ho := q2.cho
      have c_pe := q2.cpe
      have c_de := q2.cde
      have c_mf := q2.cmf
      have f_st := q2.free 33
      have f_wa := q2.free 34
      have f_fa := q2.free 35
      have f_wy := q2.free 36
      have f_now := q2.free 37
      have f_up := q2.free 38
      have f_la := q2.free 39
      have f_en := q2.free 40
      simp only at c_st c_wa c_fa c_wy c_now c_up c_la c_en c_id c_se c_ho c_pe c_de c_mf
      go_wp2_with fail
      go_quiet (fail)
      have hBU : Below V2.heap.size V2 (V2.drewN nq) := below_drewN (Below.refl _ _) nq
      have q3 := q2.below hBU
      have g3 := grown_below g2 hBU
      clear c_st c_wa c_fa c_wy c_now c_up c_la c_en c_id c_se c_ho c_pe c_de c_mf f_st f_wa f_fa f_wy f_now f_up f_la f_en
      clear hBU q2 g2
      generalize V2.drewN nq = V3 at *
      have c_st := q3.cst
      have c_wa := q3.cwa
      have c_fa := q3.cfa
      have c_wy := q3.cwy
      have c_now := q3.cnow
      have c_up := q3.cup
      have c_la := q3.cla
      have c_en := q3.cen
      have c_id := q3.cid
      have c_se := q3.cse
      have c_ho := q3.cho
      have c_pe := q3.cpe
      have c_de := q3.cde
      have c_mf := q3.cmf
      have f_st := q3.free 33
      have f_wa := q3.free 34
      have f_fa := q3.free 35
      have f_wy := q3.free 36
      have f_now := q3.free 37
      have f_up := q3.free 38
      have f_la := q3.free 39
      have f_en := q3.free 40
      simp only at c_st c_wa c_fa c_wy c_now c_up c_la c_en c_id c_se c_ho c_pe c_de c_mf
      go_wp2_with fail
      go_ret2
      exact ⟨⟨_, rfl, own_nil _ _⟩, q3, g3⟩
  · have x1 : (p.st == 1) = false := beq_eq_false_iff_ne.2 s1
    rw [due_none ({ p with now := now } : Pol) s3 s1]
    clear s1 s3
    go_enter Try.func30, Try.ntmps30
    go_wp2_with fail
    have q1 : RefAt (w.setCell ⟨g, 37, none⟩ (.int .i64 now)) g c ({ p with now := now } : Pol) := (h.snow now)
    have g1 : w.grownBy (w.setCell ⟨g, 37, none⟩ (.int .i64 now)) (some g) := (grown_setCell (grownBy_refl w (some g)) _ _)
    clear c_st c_wa c_fa c_wy c_now c_up c_la c_en c_id c_se c_ho c_pe c_de c_mf f_st f_wa f_fa f_wy f_now f_up f_la f_en
    generalize w.setCell ⟨g, 37, none⟩ (.int .i64 now) = U1 at *
    have c_st := q1.cst
    have c_wa := q1.cwa
    have c_fa := q1.cfa
    have c_wy := q1.cwy
    have c_now := q1.cnow
    have c_up := q1.cup
    have c_la := q1.cla
    have c_en := q1.cen
    have c_id := q1.cid
    have c_se := q1.cse
    have c_ho := q1.cho
    have c_pe := q1.cpe
    have c_de := q1.cde
    have c_mf := q1.cmf
    have f_st := q1.free 33
    have f_wa := q1.free 34
    have f_fa := q1.free 35
    have f_wy := q1.free 36
    have f_now := q1.free 37
    have f_up := q1.free 38
    have f_la := q1.free 39
    have f_en := q1.free 40
    simp only at c_st c_wa c_fa c_wy c_now c_up c_la c_en c_id c_se c_ho c_pe c_de c_mf
    go_quiet (fail)
    have hBU : Below U1.heap.size U1 (U1.drewN nq) := below_drewN (Below.refl _ _) nq
    replace q1 := q1.below hBU
    replace g1 := grown_below g1 hBU
    clear c_st c_wa c_fa c_wy c_now c_up c_la c_en c_id c_se c_ho c_pe c_de c_mf f_st f_wa f_fa f_wy f_now f_up f_la f_en
    clear hBU
    generalize U1.drewN nq = V1 at *
    have c_st := q1.cst
    have c_wa := q1.cwa
    have c_fa := q1.cfa
    have c_wy := q1.cwy
    have c_now := q1.cnow
    have c_up := q1.cup
    have c_la := q1.cla
    have c_en := q1.cen
    have c_id := q1.cid
    have c_se := q1.cse
    have c_ho := q1.cho
    have c_pe := q1.cpe
    have c_de := q1.cde
    have c_mf := q1.cmf
    have f_st := q1.free 33
    have f_wa := q1.free 34
    have f_fa := q1.free 35
    have f_wy := q1.free 36
    have f_now := q1.free 37
    have f_up := q1.free 38
    have f_la := q1.free 39
    have f_en := q1.free 40
    simp only at c_st c_wa c_fa c_wy c_now c_up c_la c_en c_id c_se c_ho c_pe c_de c_mf
    clear c_st c_wa c_fa c_wy c_now c_up c_la c_en c_id c_se c_ho c_pe c_de c_mf f_st f_wa f_fa f_wy f_now f_up f_la f_en
    have c_st := q1.cst
    have c_wa := q1.cwa
    have c_fa := q1.cfa
    have c_wy := q1.cwy
    have c_now := q1.cnow
    have c_up := q1.cup
    have c_la := q1.cla
    have c_en := q1.cen
    have c_id := q1.cid
    have c_se := q1.cse
    have c_ho := q1.cho
    have c_pe := q1.cpe
    have c_de := q1.cde
    have c_mf := q1.cmf
    have f_st := q1.free 33
    have f_wa := q1.free 34
    have f_fa := q1.free 35
    have f_wy := q1.free 36
    have f_now := q1.free 37
    have f_up := q1.free 38
    have f_la := q1.free 39
    have f_en := q1.free 40
    simp only at c_st c_wa c_fa c_wy c_now c_up c_la c_en c_id c_se c_ho c_pe c_de c_mf
    go_wp2_with fail
    go_quiet (fail)
    have hBU : Below V1.heap.size V1 (V1.drewN nq) := below_drewN (Below.refl _ _) nq
    have q2 := q1.below hBU
    have g2 := grown_below g1 hBU
    clear c_st c_wa c_fa c_wy c_now c_up c_la c_en c_id c_se c_ho c_pe c_de c_mf f_st f_wa f_fa f_wy f_now f_up f_la f_en
    clear hBU q1 g1
    generalize V1.drewN nq = V2 at *
    have c_st := q2.cst
    have c_wa := q2.cwa
    have c_fa := q2.cfa
    have c_wy := q2.cwy
    have c_now := q2.cnow
    have c_up := q2.cup
    have c_la := q2.cla
    have c_en := q2.cen
    have c_id := q2.cid
    have c_se := q2.cse
    have c_ho := q2.cho
    have c_pe := q2.cpe
    have c_de := q2.cde
    have c_mf := q2.cmf
    have f_st := q2.free 33
    have f_wa := q2.free 34
    have f_fa := q2.free 35
    have f_wy := q2.free 36
    have f_now := q2.free 37
    have f_up := q2.free 38
    have f_la := q2.free 39
    have f_en := q2.free 40
    simp only at c_st c_wa c_fa c_wy c_now c_up c_la c_en c_id c_se c_ho c_pe c_de c_mf
    clear c_st c_wa c_fa c_wy c_now c_up c_la c_en c_id c_se c_ho c_pe c_de c_mf f_st f_wa f_fa f_wy f_now f_up f_la f_en
    have c_st := q2.cst
    have c_wa := q2.cwa
    have c_fa := q2.cfa
    have c_wy := q2.cwy
    have c_now := q2.cnow
    have c_up := q2.cup
    have c_la := q2.cla
    have c_en := q2.cen
    have c_id := q2.cid
    have c_se := q2.cse
    have c_ho := q2.cho
    have c_pe := q2.cpe
    have c_de := q2.cde
    have c_mf := q2.cmf
    have f_st := q2.free 33
    have f_wa := q2.free 34
    have f_fa := q2.free 35
    have f_wy := q2.free 36
    have f_now := q2.free 37
    have f_up := q2.free 38
    have f_la := q2.free 39
    have f_en := q2.free 40
    simp only at c_st c_wa c_fa c_wy c_now c_up c_la c_en c_id c_se c_ho c_pe c_de c_mf
    go_wp2_with fail
    go_quiet (fail)
    have hBU : Below V2.heap.size V2 (V2.drewN nq) := below_drewN (Below.refl _ _) nq
    have q3 := q2.below hBU
    have g3 := grown_below g2 hBU
    clear c_st c_wa c_fa c_wy c_now c_up c_la c_en c_id c_se c_ho c_pe c_de c_mf f_st f_wa f_fa f_wy f_now f_up f_la f_en
    clear hBU q2 g2
    generalize V2.drewN nq = V3 at *
    have c_st := q3.cst
    have c_wa := q3.cwa
    have c_fa := q3.cfa
    have c_wy := q3.cwy
    have c_now := q3.cnow
    have c_up := q3.cup
    have c_la := q3.cla
    have c_en := q3.cen
    have c_id := q3.cid
    have c_se := q3.cse
    have c_ho := q3.cho
    have c_pe := q3.cpe
    have c_de := q3.cde
    have c_mf := q3.cmf
    have f_st := q3.free 33
    have f_wa := q3.free 34
    have f_fa := q3.free 35
    have f_wy := q3.free 36
    have f_now := q3.free 37
    have f_up := q3.free 38
    have f_la := q3.free 39
    have f_en := q3.free 40
    simp only at c_st c_wa c_fa c_wy c_now c_up c_la c_en c_id c_se c_ho c_pe c_de c_mf
    go_wp2_with fail
    go_ret2
    exact ⟨⟨_, rfl, own_nil _ _⟩, q3, g3⟩
end Go.Proofs.Ytibdaonhldlmbaa.F
