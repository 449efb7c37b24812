import Derived.Test.YtamkfalafnlomaaE2
set_option linter.unusedVariables false
set_option linter.unusedSimpArgs false
namespace Go.Proofs.Ytamkfalafnlomaa.F
open Go.RowKit Go.Proofs.Ytamkfalafnlomaa.K
theorem isA_same {T : Tk} (h : T.ia = true) : T.isA = T := by obtain ⟨_, _, _, _, _, _, _, _, _, _⟩ := T; simp only at h; subst h; rfl
set_option maxHeartbeats 4000000 in
theorem prove_ref (k : Int) (hk : k = 0 ∨ k = 1) (g : Nat) (T : Tk) (N : Int) (w : World) (h : TkAt w 43 g T) (hT : T.ok N) (hN : N ≤ 1000000) :
  Calls Try.prog 34 #[.pointer (some ⟨g, 0, none⟩), .int .i64 (k + 5)] w (Acts 43 g w (T.prove k)) := by
  have c0 := h.c0
  by_cases p01 : T.ph = 0 ∨ T.ph = 1
  · have e : T.prove k = (T, 290) := if_pos p01
    have E := Lib.hid e
    have H := Lib.hid h
    clear e h hT
    rcases hk with rfl | rfl <;> rcases p01 with p | p
    all_goals
      rw [p] at c0
      clear p
      go_enter Try.func34, Try.ntmps34
      go_wp2
      go_ret
      exact Acts.mk' E.out rfl H.out (grown_refl _ _)
  · by_cases p2 : T.ph = 2
    · have e : T.prove k = ((if k = 0 then T.isA else T.isB).goOn 3 0, 0) := by unfold Tk.prove; rw [if_neg p01, if_pos p2]
      have c3 := h.c3
      have c4 := h.c4
      have f3 := h.free 3
      have f4 := h.free 4
      have H := Lib.hid h
      rw [p2] at c0
      clear h p01
      have HT := Lib.hid hT
      clear hT p2
      rcases hk with rfl | rfl
      · have H1 : Hid (TkAt _ 43 g T.isA) := Lib.hid ((H.out.set 3 (T' := T.isA) (.bool true) rfl).set 4 (T' := T.isA) (.bool T.ib) rfl)
        have hia : T.ia = true ∨ T.ia = false := by cases T.ia <;> simp
        have hib : T.ib = true ∨ T.ib = false := by cases T.ib <;> simp
        cases hwh : T.isA.whole
        · have E : Hid (T.prove 0 = (T.isA, 0)) := Lib.hid (by rw [e]; simp [Tk.goOn, hwh])
          clear e
          rcases hia with hia | hia <;> rcases hib with hib | hib <;> rw [hib] at H1
          all_goals
            rw [hia] at c3
            rw [hib] at c4
            clear hia hib
            go_enter Try.func34, Try.ntmps34
            go_wp2_with (go_at_call 37; refine (whole37 g T.isA _ H1.out).mono ?_; rw [hwh]; rintro e w1 ⟨rfl, rfl⟩)
            go_ret
            exact Acts.mk' E.out rfl H1.out (grown_setCell (grown_setCell (grown_refl _ _) _ _) _ _)
        · have E : Hid (T.prove 0 = (T.isA.to 3, 0)) := Lib.hid (by rw [e]; simp [Tk.goOn, hwh])
          clear e
          rcases hia with hia | hia <;> rcases hib with hib | hib <;> rw [hib] at H1
          all_goals
            rw [hia] at c3
            rw [hib] at c4
            clear hia hib
            go_enter Try.func34, Try.ntmps34
            go_wp2_with (first | (go_at_call 37; refine (whole37 g T.isA _ H1.out).mono ?_; rw [hwh]; rintro e w1 ⟨rfl, rfl⟩) | (go_at_call 38; refine (to38 g _ 3 N _ H1.out (by simp) (ok_same HT.out rfl rfl rfl rfl rfl rfl) hN).mono ?_; rintro e w2 ⟨rfl, h2, hg2⟩))
            go_ret
            exact Acts.mk' E.out rfl h2 (grown_trans (grown_setCell (grown_setCell (grown_refl _ _) _ _) _ _) hg2)
      · have H1 : Hid (TkAt _ 43 g T.isB) := Lib.hid ((H.out.set 3 (T' := T) (.bool T.ia) rfl).set 4 (T' := T.isB) (.bool true) rfl)
        have hia : T.ia = true ∨ T.ia = false := by cases T.ia <;> simp
        have hib : T.ib = true ∨ T.ib = false := by cases T.ib <;> simp
        cases hwh : T.isB.whole
        · have E : Hid (T.prove 1 = (T.isB, 0)) := Lib.hid (by rw [e]; simp [Tk.goOn, hwh])
          clear e
          rcases hia with hia | hia <;> rcases hib with hib | hib <;> rw [hia] at H1
          all_goals
            rw [hia] at c3
            rw [hib] at c4
            clear hia hib
            go_enter Try.func34, Try.ntmps34
            go_wp2_with (go_at_call 37; refine (whole37 g T.isB _ H1.out).mono ?_; rw [hwh]; rintro e w1 ⟨rfl, rfl⟩)
            go_ret
            exact Acts.mk' E.out rfl H1.out (grown_setCell (grown_setCell (grown_refl _ _) _ _) _ _)
        · have E : Hid (T.prove 1 = (T.isB.to 3, 0)) := Lib.hid (by rw [e]; simp [Tk.goOn, hwh])
          clear e
          rcases hia with hia | hia <;> rcases hib with hib | hib <;> rw [hia] at H1
          all_goals
            rw [hia] at c3
            rw [hib] at c4
            clear hia hib
            go_enter Try.func34, Try.ntmps34
            go_wp2_with (first | (go_at_call 37; refine (whole37 g T.isB _ H1.out).mono ?_; rw [hwh]; rintro e w1 ⟨rfl, rfl⟩) | (go_at_call 38; refine (to38 g _ 3 N _ H1.out (by simp) (ok_same HT.out rfl rfl rfl rfl rfl rfl) hN).mono ?_; rintro e w2 ⟨rfl, h2, hg2⟩))
            go_ret
            exact Acts.mk' E.out rfl h2 (grown_trans (grown_setCell (grown_setCell (grown_refl _ _) _ _) _ _) hg2)
    · have e : T.prove k = (T, 0) := by unfold Tk.prove; rw [if_neg p01, if_neg p2]
      have E := Lib.hid e
      have q0 : (T.ph == 0) = false := by simp; omega
      have q1 : (T.ph == 1) = false := by simp; omega
      have q2 : (T.ph == 2) = false := by simp; omega
      have H := Lib.hid h
      clear e h hT p01 p2
      rcases hk with rfl | rfl
      all_goals
        go_enter Try.func34, Try.ntmps34
        go_wp2
        go_ret
        exact Acts.mk' E.out rfl H.out (grown_refl _ _)
end Go.Proofs.Ytamkfalafnlomaa.F
