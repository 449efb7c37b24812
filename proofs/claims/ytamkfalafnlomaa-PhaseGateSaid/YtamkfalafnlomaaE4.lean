import Derived.Test.YtamkfalafnlomaaE2
set_option linter.unusedVariables false
set_option linter.unusedSimpArgs false
namespace Go.Proofs.Ytamkfalafnlomaa.F
open Go.RowKit Go.Proofs.Ytamkfalafnlomaa.K
theorem do34b (g : Nat) (T : Tk) (e N : Int) (w : World) (h : TkAt w 43 g T) (hT : T.ok N) (hN : N ≤ 1000000) (e5 : e ≠ 5) (e6 : e ≠ 6) :
  Calls Try.prog 34 #[.pointer (some ⟨g, 0, none⟩), .int .i64 e] w (Acts 43 g w (T.act e)) := by
  have c0 := h.c0
  have E0 : T.act e = if (nx T.ph e).2 = 0 then ((if e = 0 ∨ e = 1 ∨ e = 3 ∨ e = 4 then T.forget else T).to (nx T.ph e).1, 0) else (T, (nx T.ph e).2) := if_neg (by omega)
  have H := Lib.hid h
  by_cases hr : 0 ≤ e ∧ e ≤ 8
  · have hk := nx_k T.ph e
    have he := nx_e T.ph e
    have hnx := next10 T.ph e
    obtain ⟨⟨k, c⟩, hkc⟩ : ∃ r, r = nx T.ph e := ⟨_, rfl⟩
    rw [← hkc] at hk he E0 hnx
    simp only at hk he E0 hnx
    clear hkc
    have HT := Lib.hid hT
    clear h hT
    obtain ⟨p, hp⟩ : ∃ p, p = T.ph := ⟨_, rfl⟩
    rw [← hp] at c0 hnx
    clear hp
    by_cases hc : c = 0
    · subst hc
      rw [if_pos rfl] at E0
      replace hk := hk rfl
      have he' : (e = 0 ∨ e = 1 ∨ e = 3 ∨ e = 4) ∨ (e = 7 ∨ e = 8) := by have := he rfl; omega
      rcases he' with (rfl | rfl | rfl | rfl) | (rfl | rfl)
      · have E : Hid (T.act _ = (T.forget.to k, 0)) := Lib.hid (by rw [E0]; simp)
        clear E0 he e5 e6 hr
        go_enter Try.func34, Try.ntmps34
        go_wp2_with (first | (go_at_call 10; refine (hnx _).mono ?_; rintro E1 w1 ⟨rfl, rfl⟩) | (go_at_call 39; refine (forget39 g T _ H.out).mono ?_; rintro e w2 ⟨rfl, h1, hg1⟩) | (go_at_call 38; refine (to38 g T.forget k N _ h1 hk (ok_same HT.out rfl rfl rfl rfl rfl rfl) hN).mono ?_; rintro e w3 ⟨rfl, h2, hg2⟩))
        go_ret
        exact Acts.mk' E.out rfl h2 (grown_trans hg1 hg2)
      · have E : Hid (T.act _ = (T.forget.to k, 0)) := Lib.hid (by rw [E0]; simp)
        clear E0 he e5 e6 hr
        go_enter Try.func34, Try.ntmps34
        go_wp2_with (first | (go_at_call 10; refine (hnx _).mono ?_; rintro E1 w1 ⟨rfl, rfl⟩) | (go_at_call 39; refine (forget39 g T _ H.out).mono ?_; rintro e w2 ⟨rfl, h1, hg1⟩) | (go_at_call 38; refine (to38 g T.forget k N _ h1 hk (ok_same HT.out rfl rfl rfl rfl rfl rfl) hN).mono ?_; rintro e w3 ⟨rfl, h2, hg2⟩))
        go_ret
        exact Acts.mk' E.out rfl h2 (grown_trans hg1 hg2)
      · have E : Hid (T.act _ = (T.forget.to k, 0)) := Lib.hid (by rw [E0]; simp)
        clear E0 he e5 e6 hr
        go_enter Try.func34, Try.ntmps34
        go_wp2_with (first | (go_at_call 10; refine (hnx _).mono ?_; rintro E1 w1 ⟨rfl, rfl⟩) | (go_at_call 39; refine (forget39 g T _ H.out).mono ?_; rintro e w2 ⟨rfl, h1, hg1⟩) | (go_at_call 38; refine (to38 g T.forget k N _ h1 hk (ok_same HT.out rfl rfl rfl rfl rfl rfl) hN).mono ?_; rintro e w3 ⟨rfl, h2, hg2⟩))
        go_ret
        exact Acts.mk' E.out rfl h2 (grown_trans hg1 hg2)
      · have E : Hid (T.act _ = (T.forget.to k, 0)) := Lib.hid (by rw [E0]; simp)
        clear E0 he e5 e6 hr
        go_enter Try.func34, Try.ntmps34
        go_wp2_with (first | (go_at_call 10; refine (hnx _).mono ?_; rintro E1 w1 ⟨rfl, rfl⟩) | (go_at_call 39; refine (forget39 g T _ H.out).mono ?_; rintro e w2 ⟨rfl, h1, hg1⟩) | (go_at_call 38; refine (to38 g T.forget k N _ h1 hk (ok_same HT.out rfl rfl rfl rfl rfl rfl) hN).mono ?_; rintro e w3 ⟨rfl, h2, hg2⟩))
        go_ret
        exact Acts.mk' E.out rfl h2 (grown_trans hg1 hg2)
      · have E : Hid (T.act _ = (T.to k, 0)) := Lib.hid (by rw [E0]; simp)
        clear E0 he e5 e6 hr
        go_enter Try.func34, Try.ntmps34
        go_wp2_with (first | (go_at_call 10; refine (hnx _).mono ?_; rintro E1 w1 ⟨rfl, rfl⟩) | (go_at_call 38; refine (to38 g T k N _ H.out hk HT.out hN).mono ?_; rintro e w3 ⟨rfl, h2, hg2⟩))
        go_ret
        exact Acts.mk' E.out rfl h2 hg2
      · have E : Hid (T.act _ = (T.to k, 0)) := Lib.hid (by rw [E0]; simp)
        clear E0 he e5 e6 hr
        go_enter Try.func34, Try.ntmps34
        go_wp2_with (first | (go_at_call 10; refine (hnx _).mono ?_; rintro E1 w1 ⟨rfl, rfl⟩) | (go_at_call 38; refine (to38 g T k N _ H.out hk HT.out hN).mono ?_; rintro e w3 ⟨rfl, h2, hg2⟩))
        go_ret
        exact Acts.mk' E.out rfl h2 hg2
    · rw [if_neg hc] at E0
      have E := Lib.hid E0
      have q5 : (e == 5) = false := by simpa using e5
      have q6 : (e == 6) = false := by simpa using e6
      have qc : (c != 0) = true := by simpa using hc
      have r0 : decide (e < 0) = false := by simp; omega
      have r1 : decide (8 < e) = false := by simp; omega
      clear E0 he e5 e6 hk hc hr
      go_enter Try.func34, Try.ntmps34
      go_wp2_with fail
      refine (hnx _).mono ?_
      rintro E1 w1 ⟨rfl, rfl⟩
      go_wp2
      go_ret
      exact Acts.mk' E.out rfl H.out (grown_refl _ _)
  · have hn : nx T.ph e = (0, 1) := if_neg (fun hi => hr ⟨hi.2.2.1, hi.2.2.2⟩)
    rw [hn] at E0
    have E : Hid (T.act e = (T, 1)) := Lib.hid (by rw [E0]; simp)
    clear E0 hn h hT
    have hr' : e < 0 ∨ (0 ≤ e ∧ 8 < e) := by omega
    clear hr
    rcases hr' with hr | ⟨hr, hr'⟩
    all_goals
      go_enter Try.func34, Try.ntmps34
      go_wp2
      go_ret
      exact Acts.mk' E.out rfl H.out (grown_refl _ _)
theorem open35 (g : Nat) (T : Tk) (a b : Bool) (N : Int) (w : World) (h : TkAt w 43 g T) (hT : T.ok N) (hN : N ≤ 999999) :
  Calls Try.prog 35 #[.pointer (some ⟨g, 0, none⟩), .bool a, .bool b] w (Acts 43 g w (T.opened a b)) := by
  have c0 := h.c0
  have H := Lib.hid h
  by_cases p4 : T.ph = 4
  · have E := Lib.hid (show T.opened a b = (T, 0) from if_pos p4)
    rw [p4] at c0
    clear h p4 hT
    go_enter Try.func35, Try.ntmps35
    go_wp2
    go_ret
    exact Acts.mk' E.out rfl H.out (grown_refl _ _)
  · by_cases p1 : T.ph = 1
    · have e : T.opened a b = ((T.must a b).goOn 3 2, 0) := by unfold Tk.opened; rw [if_neg p4, if_pos p1]
      have HT := Lib.hid hT
      have hto : (T.must a b).to 2 = { T.must a b with ph := 2, t2 := T.t2 + 1 } := by unfold Tk.to; rw [if_neg (by simp [Tk.must, p1])]; rfl
      rw [p1] at c0
      have P1 := Lib.hid p1
      clear h p1 p4 hT
      cases hwh : (T.must a b).whole
      · have E : Hid (T.opened a b = ((T.must a b).to 2, 0)) := Lib.hid (by rw [e]; simp [Tk.goOn, hwh])
        have hwh' : ((T.must a b).to 2).whole = false := by rw [hto]; exact hwh
        clear e hto
        go_enter Try.func35, Try.ntmps35
        go_wp2_with fail
        refine (forget39 g T _ H.out).mono ?_
        rintro e w1 ⟨rfl, h1, hg1⟩
        have f1 := h1.free 1
        have f2 := h1.free 2
        have c1 := h1.c1
        have c2 := h1.c2
        have H1 : Hid (TkAt _ 43 g (T.must a b)) := Lib.hid ((h1.set 1 (T' := { T.forget with ma := a }) (.bool a) rfl).set 2 (T' := T.must a b) (.bool b) rfl)
        clear h1
        go_wp2_with (first | (go_at_call 38; refine (to38 g (T.must a b) 2 N _ H1.out (by simp) (ok_same HT.out rfl rfl rfl rfl rfl rfl) (by omega)).mono ?_; rintro e w2 ⟨rfl, h2, hg2⟩) | (go_at_call 37; refine (whole37 g _ _ h2).mono ?_; rw [hwh']; rintro e w3 ⟨rfl, rfl⟩))
        go_ret
        exact Acts.mk' E.out rfl h2 (grown_trans (grown_setCell (grown_setCell hg1 _ _) _ _) hg2)
      · have E : Hid (T.opened a b = ((T.must a b).to 3, 0)) := Lib.hid (by rw [e]; simp [Tk.goOn, hwh])
        have hwh' : ((T.must a b).to 2).whole = true := by rw [hto]; exact hwh
        have Hto := Lib.hid hto
        clear e hto
        go_enter Try.func35, Try.ntmps35
        go_wp2_with fail
        refine (forget39 g T _ H.out).mono ?_
        rintro e w1 ⟨rfl, h1, hg1⟩
        have f1 := h1.free 1
        have f2 := h1.free 2
        have c1 := h1.c1
        have c2 := h1.c2
        have H1 : Hid (TkAt _ 43 g (T.must a b)) := Lib.hid ((h1.set 1 (T' := { T.forget with ma := a }) (.bool a) rfl).set 2 (T' := T.must a b) (.bool b) rfl)
        clear h1
        go_wp2_with fail
        refine (to38 g (T.must a b) 2 N _ H1.out (by simp) (ok_same HT.out rfl rfl rfl rfl rfl rfl) (by omega)).mono ?_
        rintro e w2 ⟨rfl, h2, hg2⟩
        go_wp2_with fail
        refine (whole37 g _ _ h2).mono ?_
        rw [hwh']
        rintro e w3 ⟨rfl, rfl⟩
        rw [Hto.out] at h2
        have d0 := h2.c0
        have d7 := h2.c7
        have g0 := h2.free 0
        have g7 := h2.free 7
        have hi : wrap64 T.t2 = T.t2 := by
          obtain ⟨k0, k1, k2, k3, k4, k5, k6, k7, k8, k9, k10, k11⟩ := HT.out
          simp only [wrap64]; omega
        have H2 : Hid (TkAt _ 43 g (T.must a b)) := Lib.hid ((h2.drew.set 7 (T' := { T.must a b with ph := 2 }) (.int .i64 T.t2) rfl).set 0 (T' := T.must a b) (.int .i64 1) (by rw [← P1.out]; rfl))
        simp only at d0 d7
        clear h2
        go_wp2
        go_region
        go_wp2_with (go_at_call 38; refine (to38 g (T.must a b) 3 N _ H2.out (by simp) (ok_same HT.out rfl rfl rfl rfl rfl rfl) (by omega)).mono ?_; rintro e w4 ⟨rfl, h4, hg4⟩)
        go_ret
        exact Acts.mk' E.out rfl h4 (grown_trans (grown_setCell (grown_setCell (grown_drew (grown_trans (grown_setCell (grown_setCell hg1 _ _) _ _) hg2)) _ _) _ _) hg4)
    · have E := Lib.hid (show T.opened a b = (T, 290) by unfold Tk.opened; rw [if_neg p4, if_neg p1])
      have q1 : (T.ph == 4) = false := by simpa using p4
      have q2 : (T.ph == 1) = false := by simpa using p1
      clear h p1 p4 hT
      go_enter Try.func35, Try.ntmps35
      go_wp2
      go_ret
      exact Acts.mk' E.out rfl H.out (grown_refl _ _)
end Go.Proofs.Ytamkfalafnlomaa.F
