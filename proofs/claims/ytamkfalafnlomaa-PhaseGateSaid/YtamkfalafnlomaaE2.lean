import Derived.Test.YtamkfalafnlomaaE1
set_option linter.unusedVariables false
set_option linter.unusedSimpArgs false
namespace Go.Proofs.Ytamkfalafnlomaa.F
open Go.RowKit Go.Proofs.Ytamkfalafnlomaa.K
theorem nx_k (p e : Int) (h : (nx p e).2 = 0) : (nx p e).1 = 0 ∨ (nx p e).1 = 1 ∨ (nx p e).1 = 2 ∨ (nx p e).1 = 3 ∨ (nx p e).1 = 4 := by
  by_cases hi : inT p e
  · by_cases h1 : ent p e = -1
    · rw [nx, if_pos hi, if_pos h1] at h; cases h
    · rw [nx, if_pos hi, if_neg h1]
      show ent p e = 0 ∨ ent p e = 1 ∨ ent p e = 2 ∨ ent p e = 3 ∨ ent p e = 4
      unfold ent at *
      split at h1 <;> (repeat' split at h1) <;> simp_all
  · rw [nx, if_neg hi] at h; cases h
theorem nx_e (p e : Int) (h : (nx p e).2 = 0) : e = 0 ∨ e = 1 ∨ e = 3 ∨ e = 4 ∨ e = 7 ∨ e = 8 := by
  by_cases hi : inT p e
  · by_cases h1 : ent p e = -1
    · rw [nx, if_pos hi, if_pos h1] at h; cases h
    · apply Classical.byContradiction
      intro hn
      apply h1
      unfold ent
      rw [if_neg (by omega), if_neg (by omega), if_neg (by omega), if_neg (by omega), if_neg (by omega), if_neg (by omega)]
  · rw [nx, if_neg hi] at h; cases h
theorem do16 (g : Nat) (T : Tk) (e N : Int) (w : World) (h : TkAt w 59 g T) (hT : T.ok N) (hN : N ≤ 1000000) :
  Calls Try.prog 16 #[.pointer (some ⟨g, 0, none⟩), .int .i64 e] w (Acts 59 g w (T.act e)) := by
  by_cases e5 : e = 5
  · subst e5
    have E : Hid (T.act 5 = T.prove 0) := Lib.hid (if_pos (.inl rfl))
    have H := Lib.hid h
    have HT := Lib.hid hT
    clear h hT
    go_enter Try.func16, Try.ntmps16
    go_wp2_with (go_at_call 30; refine (prove30 g T 0 N _ H.out (.inl rfl) HT.out hN).mono ?_; rintro e w1 ⟨rfl, h1, hg⟩)
    go_ret
    exact ⟨by rw [E.out]; rfl, by rw [E.out]; exact h1, hg⟩
  by_cases e6 : e = 6
  · subst e6
    have E : Hid (T.act 6 = T.prove 1) := Lib.hid (if_pos (.inr rfl))
    have H := Lib.hid h
    have HT := Lib.hid hT
    clear h hT
    go_enter Try.func16, Try.ntmps16
    go_wp2_with (go_at_call 30; refine (prove30 g T 1 N _ H.out (.inr rfl) HT.out hN).mono ?_; rintro e w1 ⟨rfl, h1, hg⟩)
    go_ret
    exact ⟨by rw [E.out]; rfl, by rw [E.out]; exact h1, hg⟩
  have c0 := h.c0
  have hk := nx_k T.ph e
  have he := nx_e T.ph e
  have E0 : T.act e = if (nx T.ph e).2 = 0 then ((if e = 0 ∨ e = 1 ∨ e = 3 ∨ e = 4 then T.forget else T).to (nx T.ph e).1, 0) else (T, (nx T.ph e).2) := if_neg (by omega)
  have hnx := next9 T.ph e
  obtain ⟨⟨k, c⟩, hkc⟩ : ∃ r, r = nx T.ph e := ⟨_, rfl⟩
  rw [← hkc] at hk he E0 hnx
  simp only at hk he E0 hnx
  clear hkc
  have H := Lib.hid h
  have HT := Lib.hid hT
  clear h hT
  obtain ⟨p, hp⟩ : ∃ p, p = T.ph := ⟨_, rfl⟩
  rw [← hp] at c0 hnx
  clear hp
  by_cases hc : c = 0
  · subst hc
    rw [if_pos rfl] at E0
    replace hk := hk rfl
    have he' : (e = 0 ∨ e = 1 ∨ e = 3 ∨ e = 4) ∨ (e = 7 ∨ e = 8) := by have := he rfl; omega
    rcases he' with (rfl | rfl | rfl | rfl) | (rfl | rfl)
    · have E : Hid (T.act _ = (T.forget.to k, 0)) := Lib.hid (by rw [E0]; simp)
      clear E0 he e5 e6
      go_enter Try.func16, Try.ntmps16
      go_wp2_with fail
      refine (hnx _).mono ?_
      rintro E1 w1 ⟨rfl, hb⟩
      have h1 := H.out.below hb
      have c1 := h1.c1
      have c2 := h1.c2
      have c3 := h1.c3
      have c4 := h1.c4
      have f1 := h1.free 1
      have f2 := h1.free 2
      have f3 := h1.free 3
      have f4 := h1.free 4
      have H1 := Lib.hid h1
      clear h1
      go_wp2_with (go_at_call 31; refine (to31 g T.forget k N _ (H1.out.four _ _ _ _) hk (ok_same HT.out rfl rfl rfl rfl rfl rfl) hN).mono ?_; rintro e w2 ⟨rfl, h2, hg2⟩)
      go_ret
      exact Acts.mk' E.out rfl h2 (grown_trans (grown_four (grown_below (grown_refl _ _) hb) _ _ _ _) hg2)
    · have E : Hid (T.act _ = (T.forget.to k, 0)) := Lib.hid (by rw [E0]; simp)
      clear E0 he e5 e6
      go_enter Try.func16, Try.ntmps16
      go_wp2_with fail
      refine (hnx _).mono ?_
      rintro E1 w1 ⟨rfl, hb⟩
      have h1 := H.out.below hb
      have c1 := h1.c1
      have c2 := h1.c2
      have c3 := h1.c3
      have c4 := h1.c4
      have f1 := h1.free 1
      have f2 := h1.free 2
      have f3 := h1.free 3
      have f4 := h1.free 4
      have H1 := Lib.hid h1
      clear h1
      go_wp2_with (go_at_call 31; refine (to31 g T.forget k N _ (H1.out.four _ _ _ _) hk (ok_same HT.out rfl rfl rfl rfl rfl rfl) hN).mono ?_; rintro e w2 ⟨rfl, h2, hg2⟩)
      go_ret
      exact Acts.mk' E.out rfl h2 (grown_trans (grown_four (grown_below (grown_refl _ _) hb) _ _ _ _) hg2)
    · have E : Hid (T.act _ = (T.forget.to k, 0)) := Lib.hid (by rw [E0]; simp)
      clear E0 he e5 e6
      go_enter Try.func16, Try.ntmps16
      go_wp2_with fail
      refine (hnx _).mono ?_
      rintro E1 w1 ⟨rfl, hb⟩
      have h1 := H.out.below hb
      have c1 := h1.c1
      have c2 := h1.c2
      have c3 := h1.c3
      have c4 := h1.c4
      have f1 := h1.free 1
      have f2 := h1.free 2
      have f3 := h1.free 3
      have f4 := h1.free 4
      have H1 := Lib.hid h1
      clear h1
      go_wp2_with (go_at_call 31; refine (to31 g T.forget k N _ (H1.out.four _ _ _ _) hk (ok_same HT.out rfl rfl rfl rfl rfl rfl) hN).mono ?_; rintro e w2 ⟨rfl, h2, hg2⟩)
      go_ret
      exact Acts.mk' E.out rfl h2 (grown_trans (grown_four (grown_below (grown_refl _ _) hb) _ _ _ _) hg2)
    · have E : Hid (T.act _ = (T.forget.to k, 0)) := Lib.hid (by rw [E0]; simp)
      clear E0 he e5 e6
      go_enter Try.func16, Try.ntmps16
      go_wp2_with fail
      refine (hnx _).mono ?_
      rintro E1 w1 ⟨rfl, hb⟩
      have h1 := H.out.below hb
      have c1 := h1.c1
      have c2 := h1.c2
      have c3 := h1.c3
      have c4 := h1.c4
      have f1 := h1.free 1
      have f2 := h1.free 2
      have f3 := h1.free 3
      have f4 := h1.free 4
      have H1 := Lib.hid h1
      clear h1
      go_wp2_with (go_at_call 31; refine (to31 g T.forget k N _ (H1.out.four _ _ _ _) hk (ok_same HT.out rfl rfl rfl rfl rfl rfl) hN).mono ?_; rintro e w2 ⟨rfl, h2, hg2⟩)
      go_ret
      exact Acts.mk' E.out rfl h2 (grown_trans (grown_four (grown_below (grown_refl _ _) hb) _ _ _ _) hg2)
    · have E : Hid (T.act _ = (T.to k, 0)) := Lib.hid (by rw [E0]; simp)
      clear E0 he e5 e6
      go_enter Try.func16, Try.ntmps16
      go_wp2_with fail
      refine (hnx _).mono ?_
      rintro E1 w1 ⟨rfl, hb⟩
      have H1 := Lib.hid (H.out.below hb)
      go_wp2_with (go_at_call 31; refine (to31 g T k N _ H1.out hk HT.out hN).mono ?_; rintro e w2 ⟨rfl, h2, hg2⟩)
      go_ret
      exact Acts.mk' E.out rfl h2 (grown_trans (grown_below (grown_refl _ _) hb) hg2)
    · have E : Hid (T.act _ = (T.to k, 0)) := Lib.hid (by rw [E0]; simp)
      clear E0 he e5 e6
      go_enter Try.func16, Try.ntmps16
      go_wp2_with fail
      refine (hnx _).mono ?_
      rintro E1 w1 ⟨rfl, hb⟩
      have H1 := Lib.hid (H.out.below hb)
      go_wp2_with (go_at_call 31; refine (to31 g T k N _ H1.out hk HT.out hN).mono ?_; rintro e w2 ⟨rfl, h2, hg2⟩)
      go_ret
      exact Acts.mk' E.out rfl h2 (grown_trans (grown_below (grown_refl _ _) hb) hg2)
  · rw [if_neg hc] at E0
    have E := Lib.hid E0
    have q5 : (e == 5) = false := by simpa using e5
    have q6 : (e == 6) = false := by simpa using e6
    have qc : (c != 0) = true := by simpa using hc
    clear E0 he e5 e6 hk hc
    go_enter Try.func16, Try.ntmps16
    go_wp2_with fail
    refine (hnx _).mono ?_
    rintro E1 w1 ⟨rfl, hb⟩
    go_wp2
    go_ret
    exact Acts.mk' E.out rfl (H.out.below hb) (grown_below (grown_refl _ _) hb)
theorem open17 (g : Nat) (T : Tk) (a b : Bool) (N : Int) (w : World) (h : TkAt w 59 g T) (hT : T.ok N) (hN : N ≤ 1000000) :
  Calls Try.prog 17 #[.pointer (some ⟨g, 0, none⟩), .bool a, .bool b] w (Acts 59 g w (T.opened a b)) := by
  have c0 := h.c0
  have H := Lib.hid h
  by_cases p4 : T.ph = 4
  · have E := Lib.hid (show T.opened a b = (T, 0) from if_pos p4)
    rw [p4] at c0
    clear h p4 hT
    go_enter Try.func17, Try.ntmps17
    go_wp2
    go_ret
    exact Acts.mk' E.out rfl H.out (grown_refl _ _)
  · by_cases p1 : T.ph = 1
    · have e : T.opened a b = ((T.must a b).goOn 3 2, 0) := by unfold Tk.opened; rw [if_neg p4, if_pos p1]
      have c1 := h.c1
      have c2 := h.c2
      have c3 := h.c3
      have c4 := h.c4
      have f1 := h.free 1
      have f2 := h.free 2
      have f3 := h.free 3
      have f4 := h.free 4
      have HT := Lib.hid hT
      rw [p1] at c0
      clear h p1 p4 hT
      have H1 : Hid (TkAt _ 59 g (T.must a b)) := Lib.hid (H.out.four a b false false)
      cases hwh : (T.must a b).whole
      · have E : Hid (T.opened a b = ((T.must a b).to 2, 0)) := Lib.hid (by rw [e]; simp [Tk.goOn, hwh])
        simp only [Tk.whole, Tk.must] at hwh
        clear e
        go_enter Try.func17, Try.ntmps17
        go_wp2_with (first | (go_at_call 32; refine (whole32 a b false false _).mono ?_; rw [hwh]; rintro e w1 ⟨rfl, hb⟩) | (go_at_call 31; refine (to31 g _ 2 N _ (H1.out.below hb) (by simp) (ok_same HT.out rfl rfl rfl rfl rfl rfl) hN).mono ?_; rintro e w2 ⟨rfl, h2, hg2⟩))
        go_ret
        exact Acts.mk' E.out rfl h2 (grown_trans (grown_below (grown_four (grown_refl _ _) _ _ _ _) hb) hg2)
      · have E : Hid (T.opened a b = ((T.must a b).to 3, 0)) := Lib.hid (by rw [e]; simp [Tk.goOn, hwh])
        simp only [Tk.whole, Tk.must] at hwh
        clear e
        go_enter Try.func17, Try.ntmps17
        go_wp2_with (first | (go_at_call 32; refine (whole32 a b false false _).mono ?_; rw [hwh]; rintro e w1 ⟨rfl, hb⟩) | (go_at_call 31; refine (to31 g _ 3 N _ (H1.out.below hb) (by simp) (ok_same HT.out rfl rfl rfl rfl rfl rfl) hN).mono ?_; rintro e w2 ⟨rfl, h2, hg2⟩))
        go_ret
        exact Acts.mk' E.out rfl h2 (grown_trans (grown_below (grown_four (grown_refl _ _) _ _ _ _) hb) hg2)
    · have E := Lib.hid (show T.opened a b = (T, 290) by unfold Tk.opened; rw [if_neg p4, if_neg p1])
      have q1 : (T.ph == 4) = false := by simpa using p4
      have q2 : (T.ph != 1) = true := by simpa using p1
      clear h p1 p4 hT
      go_enter Try.func17, Try.ntmps17
      go_wp2
      go_ret
      exact Acts.mk' E.out rfl H.out (grown_refl _ _)
end Go.Proofs.Ytamkfalafnlomaa.F
