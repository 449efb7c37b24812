import Derived.Test.YtibdaonhldlmbaaD1
import Derived.Lib.SmallJoins
set_option linter.unusedVariables false
set_option linter.unusedSimpArgs false
namespace Go.Proofs.Ytibdaonhldlmbaa.F
open Go.RowKit Go.Proofs.Ytibdaonhldlmbaa.K Go.ChangeShapes Go.WideShapes
theorem take_one (l : List Value) (i : Nat) (h : i < l.length) : (l.drop i).take 1 = [l[i]] := by
  rw [List.drop_eq_getElem_cons h]
  rfl
section
variable {H : Type} {enc : TypeId × Value → H} {W : World} {base b0 : Nat} {r : Reach} {spare : Nat → Bool} {held : Bool}
theorem int_cell {n t : Nat} {k : IntKind} {v : Value} {y : DataW H × List MemPlace} (ht : Try.prog.underlying t = some (.int k)) (h : DataW.trod enc Try.prog W base spare held n t [v] = some y) : ∃ z, v = .int k z ∧ (Lit.int k z).wf = true := by
  obtain ⟨z, e, _, hw⟩ := DataW.trod_int ht h
  simp at e
  exact ⟨z, e, hw⟩
theorem bool_cell {n t : Nat} {v : Value} {y : DataW H × List MemPlace} (ht : Try.prog.underlying t = some .bool) (h : DataW.trod enc Try.prog W base spare held n t [v] = some y) : ∃ z, v = .bool z := by
  obtain ⟨z, e, _⟩ := DataW.trod_bool ht h
  simp at e
  exact ⟨z, e⟩
theorem string_cell {n t : Nat} {v : Value} {y : DataW H × List MemPlace} (ht : Try.prog.underlying t = some .string) (h : DataW.trod enc Try.prog W base spare held n t [v] = some y) : ∃ z, v = .string z := by
  obtain ⟨z, e, _⟩ := DataW.trod_string ht h
  simp at e
  exact ⟨z, e⟩
theorem slice_cell {n t e : Nat} {v : Value} {y : DataW H × List MemPlace} (ht : Try.prog.underlying t = some (.slice e)) (h : DataW.trod enc Try.prog W base spare held n t [v] = some y) : ∃ a l c, v = .slice a l c := by
  obtain ⟨a, l, c, e⟩ := Joins.slice_form ht h
  simp at e
  exact ⟨a, l, c, e⟩
def i64 (z : Int) : Prop := (Lit.int .i64 z).wf = true
set_option maxHeartbeats 2000000 in
set_option maxRecDepth 100000 in
theorem open_cf {v : Value} {d : DataW H} {ps : List MemPlace} (hv : Value.okWide Try.prog W r b0 25 v) (h : DataW.Trod enc Try.prog W base spare held 25 v d ps) : ∃ c : Cf, v = c.v ∧ i64 c.ho ∧ i64 c.id ∧ i64 c.se ∧ i64 c.mf := by
  obtain ⟨cs, rfl, hsz⟩ := okWide_struct Try.underlying25 hv
  have h33 : cs.size = 33 := hsz.trans (by kernel_rfl)
  obtain ⟨fuel, hf⟩ := h
  obtain ⟨xs, n, _, _, hl, hlen, hfld⟩ := DataW.trod_struct Try.underlying25 hf
  have hlen' : xs.length = 33 := hlen
  have hK : (Value.agg cs).cells = cs := rfl
  rw [hK] at hfld hl
  have one : ∀ (i ty : Nat) (hi : i < cs.toList.length), Try.prog.cellsOf ty = 1 → DataW.trod enc Try.prog W base spare held n ty ((cs.toList.drop i).take (Try.prog.cellsOf ty)) = xs[i]? → ∃ y, DataW.trod enc Try.prog W base spare held n ty [cs.toList[i]] = some y := by
    intro i ty hi hc e
    rw [hc, take_one _ _ hi] at e
    exact ⟨_, e.trans (List.getElem?_eq_getElem (by rw [hlen']; simp at hi; omega))⟩
  have hi : ∀ i, i < 33 → i < cs.toList.length := fun i h => by simp; omega
  obtain ⟨y0, g0⟩ := one 0 9 (hi 0 (by decide)) (by kernel_rfl) (hfld 0 _ rfl)
  obtain ⟨z0, e0⟩ := string_cell Try.underlying9 g0
  clear g0 y0
  obtain ⟨y1, g1⟩ := one 1 9 (hi 1 (by decide)) (by kernel_rfl) (hfld 1 _ rfl)
  obtain ⟨z1, e1⟩ := string_cell Try.underlying9 g1
  clear g1 y1
  obtain ⟨y2, g2⟩ := one 2 3 (hi 2 (by decide)) (by kernel_rfl) (hfld 2 _ rfl)
  obtain ⟨z2, e2, w2⟩ := int_cell Try.underlying3 g2
  clear g2 y2
  obtain ⟨y3, g3⟩ := one 3 22 (hi 3 (by decide)) (by kernel_rfl) (hfld 3 _ rfl)
  obtain ⟨z3, z3l, z3c, e3⟩ := slice_cell Try.underlying22 g3
  clear g3 y3
  obtain ⟨y4, g4⟩ := one 4 3 (hi 4 (by decide)) (by kernel_rfl) (hfld 4 _ rfl)
  obtain ⟨z4, e4, w4⟩ := int_cell Try.underlying3 g4
  clear g4 y4
  obtain ⟨y5, g5⟩ := one 5 2 (hi 5 (by decide)) (by kernel_rfl) (hfld 5 _ rfl)
  obtain ⟨z5, e5, w5⟩ := int_cell Try.underlying2 g5
  clear g5 y5
  obtain ⟨y6, g6⟩ := one 6 4 (hi 6 (by decide)) (by kernel_rfl) (hfld 6 _ rfl)
  obtain ⟨z6, e6⟩ := bool_cell Try.underlying4 g6
  clear g6 y6
  obtain ⟨y7, g7⟩ := one 7 4 (hi 7 (by decide)) (by kernel_rfl) (hfld 7 _ rfl)
  obtain ⟨z7, e7⟩ := bool_cell Try.underlying4 g7
  clear g7 y7
  obtain ⟨y8, g8⟩ := one 8 4 (hi 8 (by decide)) (by kernel_rfl) (hfld 8 _ rfl)
  obtain ⟨z8, e8⟩ := bool_cell Try.underlying4 g8
  clear g8 y8
  obtain ⟨y9, g9⟩ := one 9 2 (hi 9 (by decide)) (by kernel_rfl) (hfld 9 _ rfl)
  obtain ⟨z9, e9, w9⟩ := int_cell Try.underlying2 g9
  clear g9 y9
  obtain ⟨y10, g10⟩ := one 10 2 (hi 10 (by decide)) (by kernel_rfl) (hfld 10 _ rfl)
  obtain ⟨z10, e10, w10⟩ := int_cell Try.underlying2 g10
  clear g10 y10
  obtain ⟨y11, g11⟩ := one 11 2 (hi 11 (by decide)) (by kernel_rfl) (hfld 11 _ rfl)
  obtain ⟨z11, e11, w11⟩ := int_cell Try.underlying2 g11
  clear g11 y11
  obtain ⟨y12, g12⟩ := one 12 2 (hi 12 (by decide)) (by kernel_rfl) (hfld 12 _ rfl)
  obtain ⟨z12, e12, w12⟩ := int_cell Try.underlying2 g12
  clear g12 y12
  obtain ⟨y13, g13⟩ := one 13 4 (hi 13 (by decide)) (by kernel_rfl) (hfld 13 _ rfl)
  obtain ⟨z13, e13⟩ := bool_cell Try.underlying4 g13
  clear g13 y13
  obtain ⟨y14, g14⟩ := one 14 4 (hi 14 (by decide)) (by kernel_rfl) (hfld 14 _ rfl)
  obtain ⟨z14, e14⟩ := bool_cell Try.underlying4 g14
  clear g14 y14
  obtain ⟨y15, g15⟩ := one 15 23 (hi 15 (by decide)) (by kernel_rfl) (hfld 15 _ rfl)
  obtain ⟨z15, e15, w15⟩ := int_cell Try.underlying23 g15
  clear g15 y15
  obtain ⟨y16, g16⟩ := one 16 3 (hi 16 (by decide)) (by kernel_rfl) (hfld 16 _ rfl)
  obtain ⟨z16, e16, w16⟩ := int_cell Try.underlying3 g16
  clear g16 y16
  obtain ⟨y17, g17⟩ := one 17 3 (hi 17 (by decide)) (by kernel_rfl) (hfld 17 _ rfl)
  obtain ⟨z17, e17, w17⟩ := int_cell Try.underlying3 g17
  clear g17 y17
  obtain ⟨y18, g18⟩ := one 18 2 (hi 18 (by decide)) (by kernel_rfl) (hfld 18 _ rfl)
  obtain ⟨z18, e18, w18⟩ := int_cell Try.underlying2 g18
  clear g18 y18
  obtain ⟨y19, g19⟩ := one 19 3 (hi 19 (by decide)) (by kernel_rfl) (hfld 19 _ rfl)
  obtain ⟨z19, e19, w19⟩ := int_cell Try.underlying3 g19
  clear g19 y19
  obtain ⟨y20, g20⟩ := one 20 3 (hi 20 (by decide)) (by kernel_rfl) (hfld 20 _ rfl)
  obtain ⟨z20, e20, w20⟩ := int_cell Try.underlying3 g20
  clear g20 y20
  obtain ⟨y21, g21⟩ := one 21 3 (hi 21 (by decide)) (by kernel_rfl) (hfld 21 _ rfl)
  obtain ⟨z21, e21, w21⟩ := int_cell Try.underlying3 g21
  clear g21 y21
  obtain ⟨y22, g22⟩ := one 22 2 (hi 22 (by decide)) (by kernel_rfl) (hfld 22 _ rfl)
  obtain ⟨z22, e22, w22⟩ := int_cell Try.underlying2 g22
  clear g22 y22
  obtain ⟨y23, g23⟩ := one 23 3 (hi 23 (by decide)) (by kernel_rfl) (hfld 23 _ rfl)
  obtain ⟨z23, e23, w23⟩ := int_cell Try.underlying3 g23
  clear g23 y23
  obtain ⟨y24, g24⟩ := one 24 2 (hi 24 (by decide)) (by kernel_rfl) (hfld 24 _ rfl)
  obtain ⟨z24, e24, w24⟩ := int_cell Try.underlying2 g24
  clear g24 y24
  obtain ⟨y25, g25⟩ := one 25 2 (hi 25 (by decide)) (by kernel_rfl) (hfld 25 _ rfl)
  obtain ⟨z25, e25, w25⟩ := int_cell Try.underlying2 g25
  clear g25 y25
  obtain ⟨y26, g26⟩ := one 26 2 (hi 26 (by decide)) (by kernel_rfl) (hfld 26 _ rfl)
  obtain ⟨z26, e26, w26⟩ := int_cell Try.underlying2 g26
  clear g26 y26
  obtain ⟨y27, g27⟩ := one 27 2 (hi 27 (by decide)) (by kernel_rfl) (hfld 27 _ rfl)
  obtain ⟨z27, e27, w27⟩ := int_cell Try.underlying2 g27
  clear g27 y27
  obtain ⟨y28, g28⟩ := one 28 4 (hi 28 (by decide)) (by kernel_rfl) (hfld 28 _ rfl)
  obtain ⟨z28, e28⟩ := bool_cell Try.underlying4 g28
  clear g28 y28
  obtain ⟨y29, g29⟩ := one 29 4 (hi 29 (by decide)) (by kernel_rfl) (hfld 29 _ rfl)
  obtain ⟨z29, e29⟩ := bool_cell Try.underlying4 g29
  clear g29 y29
  obtain ⟨y30, g30⟩ := one 30 3 (hi 30 (by decide)) (by kernel_rfl) (hfld 30 _ rfl)
  obtain ⟨z30, e30, w30⟩ := int_cell Try.underlying3 g30
  clear g30 y30
  obtain ⟨y31, g31⟩ := one 31 9 (hi 31 (by decide)) (by kernel_rfl) (hfld 31 _ rfl)
  obtain ⟨z31, e31⟩ := string_cell Try.underlying9 g31
  clear g31 y31
  obtain ⟨y32, g32⟩ := one 32 9 (hi 32 (by decide)) (by kernel_rfl) (hfld 32 _ rfl)
  obtain ⟨z32, e32⟩ := string_cell Try.underlying9 g32
  clear g32 y32
  refine ⟨⟨z0, z1, z2, z3, z3l, z3c, z4, z5, z6, z7, z8, z9, z10, z11, z12, z13, z14, z15, z16, z17, z18, z19, z20, z21, z22, z23, z24, z25, z26, z27, z28, z29, z30, z31, z32⟩, ?_, w27, w25, w26, w30⟩
  unfold Cf.v
  congr 1
  refine Array.ext (by rw [h33]; rfl) (fun i h1 h2 => ?_)
  have hi3 : i < 33 := by omega
  simp only [Array.getElem_toList] at *
  have hc : i = 0 ∨ i = 1 ∨ i = 2 ∨ i = 3 ∨ i = 4 ∨ i = 5 ∨ i = 6 ∨ i = 7 ∨ i = 8 ∨ i = 9 ∨ i = 10 ∨ i = 11 ∨ i = 12 ∨ i = 13 ∨ i = 14 ∨ i = 15 ∨ i = 16 ∨ i = 17 ∨ i = 18 ∨ i = 19 ∨ i = 20 ∨ i = 21 ∨ i = 22 ∨ i = 23 ∨ i = 24 ∨ i = 25 ∨ i = 26 ∨ i = 27 ∨ i = 28 ∨ i = 29 ∨ i = 30 ∨ i = 31 ∨ i = 32 := by omega
  rcases hc with rfl | rfl | rfl | rfl | rfl | rfl | rfl | rfl | rfl | rfl | rfl | rfl | rfl | rfl | rfl | rfl | rfl | rfl | rfl | rfl | rfl | rfl | rfl | rfl | rfl | rfl | rfl | rfl | rfl | rfl | rfl | rfl | rfl
  · exact e0
  · exact e1
  · exact e2
  · exact e3
  · exact e4
  · exact e5
  · exact e6
  · exact e7
  · exact e8
  · exact e9
  · exact e10
  · exact e11
  · exact e12
  · exact e13
  · exact e14
  · exact e15
  · exact e16
  · exact e17
  · exact e18
  · exact e19
  · exact e20
  · exact e21
  · exact e22
  · exact e23
  · exact e24
  · exact e25
  · exact e26
  · exact e27
  · exact e28
  · exact e29
  · exact e30
  · exact e31
  · exact e32
theorem read_op (fuel : Nat) (cs : List Value) (y : DataW H × List MemPlace) (h : DataW.trod enc Try.prog W base spare held fuel 33 cs = some y) : ∃ o : O, cs = o.cells ∧ True := by
  have c32 : Try.prog.cellsOf 33 = 3 := by kernel_rfl
  have k3 : Try.prog.cellsOf 3 = 1 := by kernel_rfl
  have k2 : Try.prog.cellsOf 2 = 1 := by kernel_rfl
  have k4 : Try.prog.cellsOf 4 = 1 := by kernel_rfl
  obtain ⟨y0, y1, y2, n, _, hl, h0, h1, h2⟩ := Deep.trod_struct3 Try.underlying33 h
  rw [c32] at hl
  match cs, hl with
  | [v0, v1, v2], _ =>
    simp [k3, k2, k4] at h0 h1 h2
    obtain ⟨z0, e0, _⟩ := int_cell Try.underlying3 h0
    obtain ⟨z1, e1, _⟩ := int_cell Try.underlying2 h1
    obtain ⟨z2, e2⟩ := bool_cell Try.underlying4 h2
    subst e0 e1 e2
    exact ⟨⟨z0, z1, z2⟩, rfl, trivial⟩
theorem open_ops {v : Value} {d : DataW H} {ps : List MemPlace} (hv : ∃ a len cap, v = .slice a len cap) (h : DataW.Trod enc Try.prog W base spare held 26 v d ps) : ∃ l : List O, RecsAt W v 3 O.cells l := by
  obtain ⟨l, hl, _⟩ := open_recs (n := 3) O.cells (fun _ => True) Try.underlying26 (by kernel_rfl) (by decide) (fun fuel cs y hy => read_op fuel cs y hy) hv h
  exact ⟨l, hl⟩
end
end Go.Proofs.Ytibdaonhldlmbaa.F
