import Derived.Test.YtedhldcoddbbdaaR8
set_option linter.unusedVariables false
set_option linter.unusedSimpArgs false
set_option linter.unnecessarySimpa false
namespace Go.Proofs.Ytedhldcoddbbdaa.F
open Go.RowKit Go.Proofs.Ytedhldcoddbbdaa.K
/-- six counts -/
structure C6 where
  a : Int
  b : Int
  c : Int
  d : Int
  e : Int
  f : Int
deriving DecidableEq
def C6.val (x : C6) : Value := .agg #[.int .i64 x.a, .int .i64 x.b, .int .i64 x.c, .int .i64 x.d, .int .i64 x.e, .int .i64 x.f]
def Ln.cnt (d : Ln) : C6 := ⟨d.c0, d.c1, d.c2, d.c3, d.c4, d.c5⟩
theorem cntV_eq (d : Ln) : cntV d = d.cnt.val := rfl
set_option maxHeartbeats 4000000 in
theorem counts32 (x y : C6) (w : World) : Calls Try.prog 32 #[x.val, y.val] w fun e w' => e = .returned (.bool (decide (x = y))) ∧ Below w.heap.size w w' := by
  have hb := ((Below.refl _ w).alloc (Nat.le_refl _) (.cells #[.int .i64 x.a, .int .i64 x.b, .int .i64 x.c, .int .i64 x.d, .int .i64 x.e, .int .i64 x.f] 60)).alloc (by simp) (.cells #[.int .i64 y.a, .int .i64 y.b, .int .i64 y.c, .int .i64 y.d, .int .i64 y.e, .int .i64 y.f] 56)
  have HB := Lib.hid hb
  clear hb
  unfold C6.val
  obtain ⟨xa, xb, xc, xd, xe, xf⟩ := x
  obtain ⟨ya, yb, yc, yd, ye, yf⟩ := y
  dsimp only at HB ⊢
  by_cases ha : xa = ya
  rotate_left
  · have HD : Hid (decide ((⟨xa, xb, xc, xd, xe, xf⟩ : C6) = ⟨ya, yb, yc, yd, ye, yf⟩) = false) := Lib.hid (by simp [ha])
    have za : (xa == ya) = false := by simpa using ha
    clear ha
    go_enter Try.func32, Try.ntmps32
    go_wp2_with fail
    go_ret
    exact ⟨by rw [HD.out]; rfl, HB.out⟩
  subst ha
  by_cases hb : xb = yb
  rotate_left
  · have HD : Hid (decide ((⟨xa, xb, xc, xd, xe, xf⟩ : C6) = ⟨xa, yb, yc, yd, ye, yf⟩) = false) := Lib.hid (by simp [hb])
    have zb : (xb == yb) = false := by simpa using hb
    clear hb
    go_enter Try.func32, Try.ntmps32
    go_wp2_with fail
    go_ret
    exact ⟨by rw [HD.out]; rfl, HB.out⟩
  subst hb
  by_cases hc : xc = yc
  rotate_left
  · have HD : Hid (decide ((⟨xa, xb, xc, xd, xe, xf⟩ : C6) = ⟨xa, xb, yc, yd, ye, yf⟩) = false) := Lib.hid (by simp [hc])
    have zc : (xc == yc) = false := by simpa using hc
    clear hc
    go_enter Try.func32, Try.ntmps32
    go_wp2_with fail
    go_ret
    exact ⟨by rw [HD.out]; rfl, HB.out⟩
  subst hc
  by_cases hd : xd = yd
  rotate_left
  · have HD : Hid (decide ((⟨xa, xb, xc, xd, xe, xf⟩ : C6) = ⟨xa, xb, xc, yd, ye, yf⟩) = false) := Lib.hid (by simp [hd])
    have zd : (xd == yd) = false := by simpa using hd
    clear hd
    go_enter Try.func32, Try.ntmps32
    go_wp2_with fail
    go_ret
    exact ⟨by rw [HD.out]; rfl, HB.out⟩
  subst hd
  by_cases he : xe = ye
  rotate_left
  · have HD : Hid (decide ((⟨xa, xb, xc, xd, xe, xf⟩ : C6) = ⟨xa, xb, xc, xd, ye, yf⟩) = false) := Lib.hid (by simp [he])
    have ze : (xe == ye) = false := by simpa using he
    clear he
    go_enter Try.func32, Try.ntmps32
    go_wp2_with fail
    go_ret
    exact ⟨by rw [HD.out]; rfl, HB.out⟩
  subst he
  by_cases hf : xf = yf
  rotate_left
  · have HD : Hid (decide ((⟨xa, xb, xc, xd, xe, xf⟩ : C6) = ⟨xa, xb, xc, xd, xe, yf⟩) = false) := Lib.hid (by simp [hf])
    have zf : (xf == yf) = false := by simpa using hf
    clear hf
    go_enter Try.func32, Try.ntmps32
    go_wp2_with fail
    go_ret
    exact ⟨by rw [HD.out]; rfl, HB.out⟩
  subst hf
  go_enter Try.func32, Try.ntmps32
  go_wp2_with fail
  go_ret
  exact ⟨rfl, HB.out⟩
end Go.Proofs.Ytedhldcoddbbdaa.F
