import Derived.Test.YtibdaonhldlmbaaC1
set_option linter.unusedVariables false
set_option linter.unusedSimpArgs false
namespace Go.Proofs.Ytibdaonhldlmbaa.F
open Go.RowKit Go.Proofs.Ytibdaonhldlmbaa.K
def awC : Cf := ⟨{ data := #[] }, { data := #[] }, 0, none, 0, 0, 0, 0, false, false, false, 0, 0, 0, 0, false, false, 0, 0, 0, 0, 0, 0, 0, 0, 0, 0, 100, 0, 50, false, true, 0, { data := #[] }, { data := #[] }⟩
theorem awC_ok : awC.ok = true := by decide +kernel
def aw0 : Pol := awC.pol
def aw1 : Pol := (atC [([3], 40), ([0, 1, 4], 41)] 0 aw0).1
theorem aw_r0 : (atC [([3], 40), ([0, 1, 4], 41)] 0 aw0).2 = ([1], 0) := by decide +kernel
theorem aw_f0 : aw0.fok := by unfold Pol.fok; decide +kernel
theorem aw_s0 (g : Nat) (w : World) (h : PolAt w g aw0) : Calls Try.prog 23 #[.pointer (some ⟨g, 0, none⟩), .int .i64 0, .bool true] w (AtR g (aw1, [1], 0) w) := by
  have := packetT23 g aw0 w 0 h aw_f0
  rwa [show atC [([3], 40), ([0, 1, 4], 41)] 0 aw0 = (aw1, [1], 0) from Prod.ext rfl aw_r0] at this
def aw2 : Pol := (atC [([2], 43)] 5 aw1).1
theorem aw_r1 : (atC [([2], 43)] 5 aw1).2 = ([], 0) := by decide +kernel
theorem aw_f1 : aw1.fok := by unfold Pol.fok; decide +kernel
theorem aw_s1 (g : Nat) (w : World) (h : PolAt w g aw1) : Calls Try.prog 24 #[.pointer (some ⟨g, 0, none⟩), .int .i64 5] w (AtR g (aw2, [], 0) w) := by
  have := lup24 g aw1 w 5 h aw_f1
  rwa [show atC [([2], 43)] 5 aw1 = (aw2, [], 0) from Prod.ext rfl aw_r1] at this
def aw3 : Pol := (atC [([3], 40), ([0, 1, 4], 41)] 90 aw2).1
theorem aw_r2 : (atC [([3], 40), ([0, 1, 4], 41)] 90 aw2).2 = ([], 0) := by decide +kernel
theorem aw_f2 : aw2.fok := by unfold Pol.fok; decide +kernel
theorem aw_s2 (g : Nat) (w : World) (h : PolAt w g aw2) : Calls Try.prog 23 #[.pointer (some ⟨g, 0, none⟩), .int .i64 90, .bool true] w (AtR g (aw3, [], 0) w) := by
  have := packetT23 g aw2 w 90 h aw_f2
  rwa [show atC [([3], 40), ([0, 1, 4], 41)] 90 aw2 = (aw3, [], 0) from Prod.ext rfl aw_r2] at this
def aw4 : Pol := (atC [] 189 aw3).1
theorem aw_r3 : (atC [] 189 aw3).2 = ([], 0) := by decide +kernel
theorem aw_f3 : aw3.fok := by unfold Pol.fok; decide +kernel
theorem aw_s3 (g : Nat) (w : World) (h : PolAt w g aw3) : Calls Try.prog 19 #[.pointer (some ⟨g, 0, none⟩), .int .i64 189] w (AtR g (aw4, [], 0) w) := by
  have := tick19 g aw3 w 189 h aw_f3
  rwa [show atC [] 189 aw3 = (aw4, [], 0) from Prod.ext rfl aw_r3] at this
def aw5 : Pol := (atC [] 190 aw4).1
theorem aw_r4 : (atC [] 190 aw4).2 = ([2], 0) := by decide +kernel
theorem aw_f4 : aw4.fok := by unfold Pol.fok; decide +kernel
theorem aw_s4 (g : Nat) (w : World) (h : PolAt w g aw4) : Calls Try.prog 19 #[.pointer (some ⟨g, 0, none⟩), .int .i64 190] w (AtR g (aw5, [2], 0) w) := by
  have := tick19 g aw4 w 190 h aw_f4
  rwa [show atC [] 190 aw4 = (aw5, [2], 0) from Prod.ext rfl aw_r4] at this
def aw6 : Pol := (atC [([2, 3, 4], 44)] 191 aw5).1
theorem aw_r5 : (atC [([2, 3, 4], 44)] 191 aw5).2 = ([], 0) := by decide +kernel
theorem aw_f5 : aw5.fok := by unfold Pol.fok; decide +kernel
theorem aw_s5 (g : Nat) (w : World) (h : PolAt w g aw5) : Calls Try.prog 25 #[.pointer (some ⟨g, 0, none⟩), .int .i64 191] w (AtR g (aw6, [], 0) w) := by
  have := ldown25 g aw5 w 191 h aw_f5
  rwa [show atC [([2, 3, 4], 44)] 191 aw5 = (aw6, [], 0) from Prod.ext rfl aw_r5] at this
def aw7 : Pol := (atC [([3], 40), ([0, 1, 4], 41)] 200 aw6).1
theorem aw_r6 : (atC [([3], 40), ([0, 1, 4], 41)] 200 aw6).2 = ([], 0) := by decide +kernel
theorem aw_f6 : aw6.fok := by unfold Pol.fok; decide +kernel
theorem aw_s6 (g : Nat) (w : World) (h : PolAt w g aw6) : Calls Try.prog 23 #[.pointer (some ⟨g, 0, none⟩), .int .i64 200, .bool true] w (AtR g (aw7, [], 0) w) := by
  have := packetT23 g aw6 w 200 h aw_f6
  rwa [show atC [([3], 40), ([0, 1, 4], 41)] 200 aw6 = (aw7, [], 0) from Prod.ext rfl aw_r6] at this
def aw8 : Pol := (atC [] 241 aw7).1
theorem aw_r7 : (atC [] 241 aw7).2 = ([1], 0) := by decide +kernel
theorem aw_f7 : aw7.fok := by unfold Pol.fok; decide +kernel
theorem aw_s7 (g : Nat) (w : World) (h : PolAt w g aw7) : Calls Try.prog 19 #[.pointer (some ⟨g, 0, none⟩), .int .i64 241] w (AtR g (aw8, [1], 0) w) := by
  have := tick19 g aw7 w 241 h aw_f7
  rwa [show atC [] 241 aw7 = (aw8, [1], 0) from Prod.ext rfl aw_r7] at this
theorem Own.grown {B g : Nat} {w w' : World} {v : Value} {l : List Int} (h : Own B w v l) (hg : w.grownBy w' (some g)) (hB : g < B) : Own B w' v l := h.kept hg (fun k e => by cases e; exact hB)
set_option maxHeartbeats 4000000 in
set_option maxRecDepth 100000 in
theorem awake (w : World) : Calls Try.prog 9 #[] w fun e w' => e = .returned (.bool true) ∧ Below w.heap.size w w' := by
  have hn := new8 awC w awC_ok
  simp only [Cf.v, Cf.cells] at hn
  have HN := Lib.hid hn
  clear hn
  go_enter Try.func9, Try.ntmps9
  go_wp2_with fail
  refine HN.out.mono ?_
  rintro e w0 ⟨rfl, k0, b0⟩
  have K0 := Lib.hid (show PolAt w0 (w.heap.size + 1) aw0 from k0)
  clear k0 HN
  have s0 := K0.out.lt
  go_wp2_with fail
  refine (aw_s0 _ _ K0.out).mono ?_
  rintro e w1 ⟨⟨v0, rfl, o0⟩, k1, g0⟩
  simp only at o0 k1
  have K1 := Lib.hid k1
  have s1 := Nat.le_trans s0 g0.size
  have b1 := below_grown b0 g0 b0.size (by omega)
  obtain ⟨A0, c0, rfl, -⟩ := o0.ints.at_
  have O0 := Lib.hid o0
  clear k1 o0 g0 K0
  go_wp2_with fail
  refine (aw_s1 _ _ K1.out).mono ?_
  rintro e w2 ⟨⟨v1, rfl, o1⟩, k2, g1⟩
  simp only at o1 k2
  have K2 := Lib.hid k2
  have s2 := Nat.le_trans s1 g1.size
  have b2 := below_grown b1 g1 b1.size (by omega)
  obtain ⟨A1, c1, rfl, -⟩ := o1.ints.at_
  replace O0 := Lib.hid (O0.out.grown g1 (by omega))
  clear k2 o1 g1 K1
  go_wp2_with fail
  refine (aw_s2 _ _ K2.out).mono ?_
  rintro e w3 ⟨⟨v2, rfl, o2⟩, k3, g2⟩
  simp only at o2 k3
  have K3 := Lib.hid k3
  have s3 := Nat.le_trans s2 g2.size
  have b3 := below_grown b2 g2 b2.size (by omega)
  obtain ⟨A2, c2, rfl, -⟩ := o2.ints.at_
  replace O0 := Lib.hid (O0.out.grown g2 (by omega))
  clear k3 o2 g2 K2
  go_wp2_with fail
  refine (aw_s3 _ _ K3.out).mono ?_
  rintro e w4 ⟨⟨v3, rfl, o3⟩, k4, g3⟩
  simp only at o3 k4
  have K4 := Lib.hid k4
  have s4 := Nat.le_trans s3 g3.size
  have b4 := below_grown b3 g3 b3.size (by omega)
  obtain ⟨A3, c3, rfl, -⟩ := o3.ints.at_
  replace O0 := Lib.hid (O0.out.grown g3 (by omega))
  clear k4 o3 g3 K3
  go_wp2_with fail
  refine (aw_s4 _ _ K4.out).mono ?_
  rintro e w5 ⟨⟨v4, rfl, o4⟩, k5, g4⟩
  simp only at o4 k5
  have K5 := Lib.hid k5
  have s5 := Nat.le_trans s4 g4.size
  have b5 := below_grown b4 g4 b4.size (by omega)
  obtain ⟨A4, c4, rfl, -⟩ := o4.ints.at_
  replace O0 := Lib.hid (O0.out.grown g4 (by omega))
  have O4 := Lib.hid o4
  clear k5 o4 g4 K4
  go_wp2_with fail
  refine (aw_s5 _ _ K5.out).mono ?_
  rintro e w6 ⟨⟨v5, rfl, o5⟩, k6, g5⟩
  simp only at o5 k6
  have K6 := Lib.hid k6
  have s6 := Nat.le_trans s5 g5.size
  have b6 := below_grown b5 g5 b5.size (by omega)
  obtain ⟨A5, c5, rfl, -⟩ := o5.ints.at_
  replace O0 := Lib.hid (O0.out.grown g5 (by omega))
  replace O4 := Lib.hid (O4.out.grown g5 (by omega))
  clear k6 o5 g5 K5
  go_wp2_with fail
  refine (aw_s6 _ _ K6.out).mono ?_
  rintro e w7 ⟨⟨v6, rfl, o6⟩, k7, g6⟩
  simp only at o6 k7
  have K7 := Lib.hid k7
  have s7 := Nat.le_trans s6 g6.size
  have b7 := below_grown b6 g6 b6.size (by omega)
  obtain ⟨A6, c6, rfl, -⟩ := o6.ints.at_
  replace O0 := Lib.hid (O0.out.grown g6 (by omega))
  replace O4 := Lib.hid (O4.out.grown g6 (by omega))
  clear k7 o6 g6 K6
  go_wp2_with fail
  refine (aw_s7 _ _ K7.out).mono ?_
  rintro e w8 ⟨⟨v7, rfl, o7⟩, k8, g7⟩
  simp only at o7 k8
  have K8 := Lib.hid k8
  have s8 := Nat.le_trans s7 g7.size
  have b8 := below_grown b7 g7 b7.size (by omega)
  obtain ⟨A7, c7, rfl, -⟩ := o7.ints.at_
  replace O0 := Lib.hid (O0.out.grown g7 (by omega))
  replace O4 := Lib.hid (O4.out.grown g7 (by omega))
  have O7 := Lib.hid o7
  clear k8 o7 g7 K7
  obtain ⟨ad0, had0⟩ : ∃ ad, A0 = some ad := by
    obtain ⟨A', c', e, -, -, h3, -⟩ := O0.out.ints.at_
    cases e
    cases A0 with
    | none => have := h3 rfl; cases this
    | some ad => exact ⟨ad, rfl⟩
  subst had0
  obtain ⟨bb0, oo0, rfl, d0⟩ : ∃ b o, ad0 = ⟨b, o, none⟩ ∧ w8.cell? ⟨b, o, none⟩ = some (.int .i64 1) := by
    obtain ⟨A', c', e, -, -, -, h4⟩ := O0.out.ints.at_
    cases e
    obtain ⟨b, o, e2, h5⟩ := h4 _ rfl 0 (by simp)
    exact ⟨b, o, e2, by simpa using h5⟩
  obtain ⟨ad4, had4⟩ : ∃ ad, A4 = some ad := by
    obtain ⟨A', c', e, -, -, h3, -⟩ := O4.out.ints.at_
    cases e
    cases A4 with
    | none => have := h3 rfl; cases this
    | some ad => exact ⟨ad, rfl⟩
  subst had4
  obtain ⟨bb4, oo4, rfl, d4⟩ : ∃ b o, ad4 = ⟨b, o, none⟩ ∧ w8.cell? ⟨b, o, none⟩ = some (.int .i64 2) := by
    obtain ⟨A', c', e, -, -, -, h4⟩ := O4.out.ints.at_
    cases e
    obtain ⟨b, o, e2, h5⟩ := h4 _ rfl 0 (by simp)
    exact ⟨b, o, e2, by simpa using h5⟩
  obtain ⟨ad7, had7⟩ : ∃ ad, A7 = some ad := by
    obtain ⟨A', c', e, -, -, h3, -⟩ := O7.out.ints.at_
    cases e
    cases A7 with
    | none => have := h3 rfl; cases this
    | some ad => exact ⟨ad, rfl⟩
  subst had7
  obtain ⟨bb7, oo7, rfl, d7⟩ : ∃ b o, ad7 = ⟨b, o, none⟩ ∧ w8.cell? ⟨b, o, none⟩ = some (.int .i64 1) := by
    obtain ⟨A', c', e, -, -, -, h4⟩ := O7.out.ints.at_
    cases e
    obtain ⟨b, o, e2, h5⟩ := h4 _ rfl 0 (by simp)
    exact ⟨b, o, e2, by simpa using h5⟩
  go_wp2_with fail
  go_ret
  exact ⟨rfl, b8⟩
end Go.Proofs.Ytibdaonhldlmbaa.F
