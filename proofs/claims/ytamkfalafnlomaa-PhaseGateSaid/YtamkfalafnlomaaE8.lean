import Derived.Test.YtamkfalafnlomaaE7
import Derived.Test.YtamkfalafnlomaaD1
import Derived.Test.YtamkfalafnlomaaD2
set_option linter.unusedVariables false
set_option linter.unusedSimpArgs false
namespace Go.Proofs.Ytamkfalafnlomaa.F
open Go.RowKit Go.Proofs.Ytamkfalafnlomaa.K
def W1 : Tk := ⟨1, false, false, false, false, 0, 1, 0, 0, 0⟩
def W2 : Tk := ⟨2, true, false, false, false, 0, 1, 1, 0, 0⟩
def W3 : Tk := ⟨2, true, false, false, true, 0, 1, 1, 0, 0⟩
def W4 : Tk := ⟨3, true, false, true, true, 0, 1, 1, 1, 0⟩
theorem below_grown {B : Nat} {w0 w w' : World} {g : Nat} (hb : Below B w0 w) (hg : w.grownBy w' (some g)) (hl : B ≤ w.heap.size) (hB : B ≤ g) : Below B w0 w' :=
  hb.grown hg hl (fun k hk => by cases hk; exact hB)
theorem awake (w : World) : Calls Try.prog 13 #[] w fun e w' => e = .returned (.bool true) ∧ Below w.heap.size w w' := by
  have e1 : Tk.zero.act 0 = (W1, 0) := rfl
  have e2 : W1.opened true false = (W2, 0) := rfl
  have e3 : W2.act 6 = (W3, 0) := rfl
  have e4 : W3.act 5 = (W4, 0) := rfl
  have e5 : pass 3 33 = true := by decide
  have e6 : pass 2 33 = false := by decide
  have z0 : Tk.zero.ok 10 := by unfold Tk.ok Tk.zero; decide
  have z1 : W1.ok 10 := by unfold Tk.ok W1; decide
  have z2 : W2.ok 10 := by unfold Tk.ok W2; decide
  have z3 : W3.ok 10 := by unfold Tk.ok W3; decide
  have D1 := Lib.hid (fun (w : World) h => do16 w.heap.size Tk.zero 0 10 (w.alloc (.cells (tk Tk.zero) 59)) h z0 (by decide))
  rw [e1] at D1
  have D2 := Lib.hid (fun g w h => open17 g W1 true false 10 w h z1 (by decide))
  rw [e2] at D2
  have D3 := Lib.hid (fun g w h => do16 g W2 6 10 w h z2 (by decide))
  rw [e3] at D3
  have D4 := Lib.hid (fun g w h => do16 g W3 5 10 w h z3 (by decide))
  rw [e4] at D4
  have D5 := Lib.hid (fun g w h => passes18 g W4 33 w h)
  rw [show W4.ph = 3 from rfl, e5] at D5
  have D6 := Lib.hid (pass11 2 33)
  rw [e6] at D6
  clear e1 e2 e3 e4 e5 e6
  go_enter Try.func13, Try.ntmps13
  go_wp2_with fail
  refine (new14 _).mono ?_
  rintro E w1 ⟨rfl, rfl⟩
  have B := (Below.refl _ w).alloc (Nat.le_refl _) (.cells (tk Tk.zero) 59)
  go_wp2_with fail
  refine (D1.out w ⟨heap_alloc_new _ _⟩).mono ?_
  rintro E w2 ⟨rfl, h2, g2⟩
  replace B := below_grown B g2 B.size (Nat.le_refl _)
  clear g2
  go_wp2_with fail
  refine (D2.out _ _ h2).mono ?_
  rintro E w3 ⟨rfl, h3, g3⟩
  replace B := below_grown B g3 B.size (Nat.le_refl _)
  clear g3 h2
  go_wp2_with fail
  refine (at15 _ _ _ h3).mono ?_
  rintro E w4 ⟨rfl, rfl⟩
  simp only [show W2.ph = 2 from rfl]
  go_wp2_with fail
  refine (D3.out _ _ h3).mono ?_
  rintro E w5 ⟨rfl, h5, g5⟩
  replace B := below_grown B g5 B.size (Nat.le_refl _)
  clear g5 h3
  go_wp2_with fail
  refine (at15 _ _ _ h5).mono ?_
  rintro E w6 ⟨rfl, rfl⟩
  simp only [show W3.ph = 2 from rfl]
  go_wp2_with fail
  refine (D4.out _ _ h5).mono ?_
  rintro E w7 ⟨rfl, h7, g7⟩
  replace B := below_grown B g7 B.size (Nat.le_refl _)
  clear g7 h5
  go_wp2_with fail
  refine (at15 _ _ _ h7).mono ?_
  rintro E w8 ⟨rfl, rfl⟩
  simp only [show W4.ph = 3 from rfl]
  go_wp2_with fail
  refine (D5.out _ _ h7).mono ?_
  rintro E w9 ⟨rfl, rfl⟩
  go_wp2_with fail
  refine (D6.out _).mono ?_
  rintro E w10 ⟨rfl, rfl⟩
  go_wp2_with fail
  refine (name19 4 _).mono ?_
  rintro E w11 ⟨rfl, hb⟩
  simp only [show nameP 4 = ⟨#[84, 101, 114, 109, 105, 110, 97, 116, 101]⟩ from rfl]
  go_wp2
  go_ret
  exact ⟨rfl, below_then B hb⟩
theorem law_table (p e n : Int) (w : World) : Calls Try.prog 5 #[.int .i64 p, .int .i64 e, .int .i64 n] w fun E w' => E = .returned (.bool true) ∧ Below w.heap.size w w' := by
  obtain ⟨⟨x, y⟩, hx⟩ : ∃ r, r = nx p e := ⟨_, rfl⟩
  have h9 := Lib.hid (next9 p e)
  have h10 := Lib.hid (next10 p e)
  rw [← hx] at h9 h10
  clear hx
  go_enter Try.func5, Try.ntmps5
  go_wp2_with fail
  refine (h9.out _).mono ?_
  rintro E w1 ⟨rfl, B⟩
  go_wp2_with fail
  refine (h10.out _).mono ?_
  rintro E w2 ⟨rfl, rfl⟩
  go_wp2_with fail
  refine (name19 p _).mono ?_
  rintro E w3 ⟨rfl, b⟩
  replace B := below_then B b
  clear b
  go_wp2_with fail
  refine (name20 p _).mono ?_
  rintro E w4 ⟨rfl, b⟩
  replace B := below_then B b
  clear b
  go_wp2_with fail
  refine (event21 e _).mono ?_
  rintro E w5 ⟨rfl, b⟩
  replace B := below_then B b
  clear b
  go_wp2_with fail
  refine (event22 e _).mono ?_
  rintro E w6 ⟨rfl, b⟩
  replace B := below_then B b
  clear b
  go_wp2_with fail
  refine (pass11 p n _).mono ?_
  rintro E w7 ⟨rfl, rfl⟩
  go_wp2_with fail
  refine (pass12 p n _).mono ?_
  rintro E w8 ⟨rfl, rfl⟩
  go_wp2_with fail
  refine (awake _).mono ?_
  rintro E w9 ⟨rfl, b⟩
  replace B := below_then B b
  clear b
  go_wp2
  go_ret
  exact ⟨rfl, B⟩
end Go.Proofs.Ytamkfalafnlomaa.F
