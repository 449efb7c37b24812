import Derived.Test.YtamkfalafnlomaaB3
import Derived.Test.YtamkfalafnlomaaC2
set_option linter.unusedVariables false
set_option linter.unusedSimpArgs false
namespace Go.Proofs.Ytamkfalafnlomaa.F
open Go.RowKit Go.Proofs.Ytamkfalafnlomaa.K
def Tk.forget (T : Tk) : Tk := { T with ma := false, mb := false, ia := false, ib := false }
def Tk.isA (T : Tk) : Tk := { T with ia := true }
def Tk.isB (T : Tk) : Tk := { T with ib := true }
def Tk.goOn (T : Tk) (a b : Int) : Tk := if T.whole then T.to a else if b = 0 then T else T.to b
def Tk.prove (T : Tk) (k : Int) : Tk × Int :=
  if T.ph = 0 ∨ T.ph = 1 then (T, 290) else if T.ph = 2 then ((if k = 0 then T.isA else T.isB).goOn 3 0, 0) else (T, 0)
def Tk.act (T : Tk) (e : Int) : Tk × Int :=
  if e = 5 ∨ e = 6 then T.prove (e - 5)
  else if (nx T.ph e).2 = 0 then ((if e = 0 ∨ e = 1 ∨ e = 3 ∨ e = 4 then T.forget else T).to (nx T.ph e).1, 0)
  else (T, (nx T.ph e).2)
def Tk.must (T : Tk) (a b : Bool) : Tk := { T with ma := a, mb := b, ia := false, ib := false }
def Tk.opened (T : Tk) (a b : Bool) : Tk × Int :=
  if T.ph = 4 then (T, 0) else if T.ph = 1 then ((T.must a b).goOn 3 2, 0) else (T, 290)
theorem ok_same {T T' : Tk} {N : Int} (h : T.ok N) (e : T'.ph = T.ph) (e0 : T'.t0 = T.t0) (e1 : T'.t1 = T.t1) (e2 : T'.t2 = T.t2) (e3 : T'.t3 = T.t3) (e4 : T'.t4 = T.t4) : T'.ok N := by
  unfold Tk.ok at *; rw [e, e0, e1, e2, e3, e4]; exact h
theorem TkAt.four {w : World} {ty : TypeId} {g : Nat} {T : Tk} (h : TkAt w ty g T) (a b c d : Bool) : TkAt ((((w.setCell ⟨g, 1, none⟩ (.bool a)).setCell ⟨g, 2, none⟩ (.bool b)).setCell ⟨g, 3, none⟩ (.bool c)).setCell ⟨g, 4, none⟩ (.bool d)) ty g { T with ma := a, mb := b, ia := c, ib := d } :=
  (((h.set 1 (T' := { T with ma := a }) _ rfl).set 2 (T' := { T with ma := a, mb := b }) _ rfl).set 3 (T' := { T with ma := a, mb := b, ia := c }) _ rfl).set 4 _ rfl
theorem grown_four {w w' : World} {g : Nat} (h : w.grownBy w' (some g)) (a b c d : Value) : w.grownBy ((((w'.setCell ⟨g, 1, none⟩ a).setCell ⟨g, 2, none⟩ b).setCell ⟨g, 3, none⟩ c).setCell ⟨g, 4, none⟩ d) (some g) :=
  grown_setCell (grown_setCell (grown_setCell (grown_setCell h _ _) _ _) _ _) _ _
/-- A call's end: the error, and what the track is then. -/
structure Acts (ty : TypeId) (g : Nat) (w : World) (r : Tk × Int) (E : Ending) (w' : World) : Prop where
  ret : E = .returned (.int .i64 r.2)
  at_ : TkAt w' ty g r.1
  grown : w.grownBy w' (some g)
theorem Acts.mk' {ty : TypeId} {g : Nat} {w w' : World} {r : Tk × Int} {T : Tk} {k : Int} {E : Ending} (h : r = (T, k)) (h1 : E = .returned (.int .i64 k)) (h2 : TkAt w' ty g T) (h3 : w.grownBy w' (some g)) : Acts ty g w r E w' := by subst h; exact ⟨h1, h2, h3⟩
theorem prove30 (g : Nat) (T : Tk) (k N : Int) (w : World) (h : TkAt w 59 g T) (hk : k = 0 ∨ k = 1) (hT : T.ok N) (hN : N ≤ 1000000) :
  Calls Try.prog 30 #[.pointer (some ⟨g, 0, none⟩), .int .i64 k] w (Acts 59 g w (T.prove k)) := by
  have c0 := h.c0
  by_cases p01 : T.ph = 0 ∨ T.ph = 1
  · have e : T.prove k = (T, 290) := if_pos p01
    have E := Lib.hid e
    have H := Lib.hid h
    clear e h hT
    rcases p01 with p | p
    all_goals
      rw [p] at c0
      clear p
      go_enter Try.func30, Try.ntmps30
      go_wp2
      go_ret
      exact Acts.mk' E.out rfl H.out (grown_refl _ _)
  · by_cases p2 : T.ph = 2
    · have e : T.prove k = ((if k = 0 then T.isA else T.isB).goOn 3 0, 0) := by unfold Tk.prove; rw [if_neg p01, if_pos p2]
      have c1 := h.c1
      have c2 := h.c2
      have c3 := h.c3
      have c4 := h.c4
      have f3 := h.free 3
      have f4 := h.free 4
      have H := Lib.hid h
      rw [p2] at c0
      clear h p01
      have HT := Lib.hid hT
      clear hT p2
      rcases hk with rfl | rfl
      · have H1 := Lib.hid (H.out.set 3 (T' := T.isA) (.bool true) rfl)
        cases hwh : T.isA.whole
        · have E : Hid (T.prove 0 = (T.isA, 0)) := Lib.hid (by rw [e]; simp [Tk.goOn, hwh])
          simp only [Tk.whole, Tk.isA] at hwh
          clear e
          go_enter Try.func30, Try.ntmps30
          go_wp2_with (go_at_call 32; refine (whole32 T.ma T.mb true T.ib _).mono ?_; rw [hwh]; rintro e w1 ⟨rfl, hb⟩)
          go_ret
          exact Acts.mk' E.out rfl (H1.out.below hb) (grown_below (grown_setCell (grown_refl _ _) _ _) hb)
        · have E : Hid (T.prove 0 = (T.isA.to 3, 0)) := Lib.hid (by rw [e]; simp [Tk.goOn, hwh])
          simp only [Tk.whole, Tk.isA] at hwh
          clear e
          go_enter Try.func30, Try.ntmps30
          go_wp2_with (first | (go_at_call 32; refine (whole32 T.ma T.mb true T.ib _).mono ?_; rw [hwh]; rintro e w1 ⟨rfl, hb⟩) | (go_at_call 31; refine (to31 g _ 3 N _ (H1.out.below hb) (by simp) (ok_same HT.out rfl rfl rfl rfl rfl rfl) hN).mono ?_; rintro e w2 ⟨rfl, h2, hg2⟩))
          go_ret
          exact Acts.mk' E.out rfl h2 (grown_trans (grown_below (grown_setCell (grown_refl _ _) _ _) hb) hg2)
      · have H1 := Lib.hid (H.out.set 4 (T' := T.isB) (.bool true) rfl)
        cases hwh : T.isB.whole
        · have E : Hid (T.prove 1 = (T.isB, 0)) := Lib.hid (by rw [e]; simp [Tk.goOn, hwh])
          simp only [Tk.whole, Tk.isB] at hwh
          clear e
          go_enter Try.func30, Try.ntmps30
          go_wp2_with (go_at_call 32; refine (whole32 T.ma T.mb T.ia true _).mono ?_; rw [hwh]; rintro e w1 ⟨rfl, hb⟩)
          go_ret
          exact Acts.mk' E.out rfl (H1.out.below hb) (grown_below (grown_setCell (grown_refl _ _) _ _) hb)
        · have E : Hid (T.prove 1 = (T.isB.to 3, 0)) := Lib.hid (by rw [e]; simp [Tk.goOn, hwh])
          simp only [Tk.whole, Tk.isB] at hwh
          clear e
          go_enter Try.func30, Try.ntmps30
          go_wp2_with (first | (go_at_call 32; refine (whole32 T.ma T.mb T.ia true _).mono ?_; rw [hwh]; rintro e w1 ⟨rfl, hb⟩) | (go_at_call 31; refine (to31 g _ 3 N _ (H1.out.below hb) (by simp) (ok_same HT.out rfl rfl rfl rfl rfl rfl) hN).mono ?_; rintro e w2 ⟨rfl, h2, hg2⟩))
          go_ret
          exact Acts.mk' E.out rfl h2 (grown_trans (grown_below (grown_setCell (grown_refl _ _) _ _) hb) hg2)
    · have e : T.prove k = (T, 0) := by unfold Tk.prove; rw [if_neg p01, if_neg p2]
      have E := Lib.hid e
      have q0 : (T.ph == 0) = false := by simp; omega
      have q1 : (T.ph == 1) = false := by simp; omega
      have q2 : (T.ph == 2) = false := by simp; omega
      have H := Lib.hid h
      clear e h hT p01 p2
      go_enter Try.func30, Try.ntmps30
      go_wp2
      go_ret
      exact Acts.mk' E.out rfl H.out (grown_refl _ _)
end Go.Proofs.Ytamkfalafnlomaa.F
