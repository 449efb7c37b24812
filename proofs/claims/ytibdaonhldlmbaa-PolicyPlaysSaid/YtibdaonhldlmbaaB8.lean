import Derived.Test.YtibdaonhldlmbaaB7
set_option linter.unusedVariables false
set_option linter.unusedSimpArgs false
namespace Go.Proofs.Ytibdaonhldlmbaa.F
open Go.RowKit Go.Proofs.Ytibdaonhldlmbaa.K
structure O where
  k : Int
  by_ : Int
  m : Bool
def O.v (o : O) : Value := .agg #[.int .i64 o.k, .int .i64 o.by_, .bool o.m]
def O.cells (o : O) : List Value := [.int .i64 o.k, .int .i64 o.by_, .bool o.m]
theorem cs0 (m : Bool) : csOf 0 m = [([0], 46)] := rfl
theorem cs1t : csOf 1 true = [([3], 40), ([0, 1, 4], 41)] := rfl
theorem cs1f : csOf 1 false = [] := rfl
theorem cs2 (m : Bool) : csOf 2 m = [([0, 1, 4, 5], 47)] := rfl
theorem cs3 (m : Bool) : csOf 3 m = [([2, 3], 50), ([0, 1, 4, 5], 52)] := rfl
theorem cs4 (m : Bool) : csOf 4 m = [([2], 43)] := rfl
theorem cs5 (m : Bool) : csOf 5 m = [([2, 3, 4], 44)] := rfl
theorem csX {k : Int} (m : Bool) (h0 : k ≠ 0) (h1 : k ≠ 1) (h2 : k ≠ 2) (h3 : k ≠ 3) (h4 : k ≠ 4) (h5 : k ≠ 5) : csOf k m = [] := by simp [csOf, h0, h1, h2, h3, h4, h5]
variable (g : Nat) (p : Pol) (w : World)
set_option maxHeartbeats 1000000 in
theorem call12 (k by_ : Int) (m : Bool) (now : Int) (h : PolAt w g p) (hf : p.fok) : Calls Try.prog 12 #[.pointer (some ⟨g, 0, none⟩), .agg #[.int .i64 k, .int .i64 by_, .bool m], .int .i64 now] w (AtR g (atC (csOf k m) now p) w) := by
  have hb : Below w.heap.size w (w.alloc (.cells #[.int .i64 k, .int .i64 by_, .bool m] 33)) := (Below.refl _ _).alloc (Nat.le_refl _) _
  by_cases h0 : k = 0
  · subst h0
    rw [cs0]
    go_enter Try.func12, Try.ntmps12
    go_wp2_with fail
    refine (start26 g p _ now (h.below hb) hf).mono ?_
    rintro e w2 ⟨⟨v, rfl, q1⟩, q2, q3⟩
    go_wp2
    go_ret2
    exact ⟨⟨_, rfl, q1.weak hb.size⟩, q2, grown_trans (below_grown0 hb _) q3⟩
  by_cases h1 : k = 1
  · subst h1
    cases m
    · rw [cs1f]
      go_enter Try.func12, Try.ntmps12
      go_wp2_with fail
      refine (packetF23 g p _ now (h.below hb) hf).mono ?_
      rintro e w2 ⟨⟨v, rfl, q1⟩, q2, q3⟩
      go_wp2
      go_ret2
      exact ⟨⟨_, rfl, q1.weak hb.size⟩, q2, grown_trans (below_grown0 hb _) q3⟩
    · rw [cs1t]
      go_enter Try.func12, Try.ntmps12
      go_wp2_with fail
      refine (packetT23 g p _ now (h.below hb) hf).mono ?_
      rintro e w2 ⟨⟨v, rfl, q1⟩, q2, q3⟩
      go_wp2
      go_ret2
      exact ⟨⟨_, rfl, q1.weak hb.size⟩, q2, grown_trans (below_grown0 hb _) q3⟩
  by_cases h2 : k = 2
  · subst h2
    rw [cs2]
    go_enter Try.func12, Try.ntmps12
    go_wp2_with fail
    refine (up27 g p _ now (h.below hb) hf).mono ?_
    rintro e w2 ⟨⟨v, rfl, q1⟩, q2, q3⟩
    go_wp2
    go_ret2
    exact ⟨⟨_, rfl, q1.weak hb.size⟩, q2, grown_trans (below_grown0 hb _) q3⟩
  by_cases h3 : k = 3
  · subst h3
    rw [cs3]
    go_enter Try.func12, Try.ntmps12
    go_wp2_with fail
    refine (down28 g p _ now (h.below hb) hf).mono ?_
    rintro e w2 ⟨⟨v, rfl, q1⟩, q2, q3⟩
    go_wp2
    go_ret2
    exact ⟨⟨_, rfl, q1.weak hb.size⟩, q2, grown_trans (below_grown0 hb _) q3⟩
  by_cases h4 : k = 4
  · subst h4
    rw [cs4]
    go_enter Try.func12, Try.ntmps12
    go_wp2_with fail
    refine (lup24 g p _ now (h.below hb) hf).mono ?_
    rintro e w2 ⟨⟨v, rfl, q1⟩, q2, q3⟩
    go_wp2
    go_ret2
    exact ⟨⟨_, rfl, q1.weak hb.size⟩, q2, grown_trans (below_grown0 hb _) q3⟩
  by_cases h5 : k = 5
  · subst h5
    rw [cs5]
    go_enter Try.func12, Try.ntmps12
    go_wp2_with fail
    refine (ldown25 g p _ now (h.below hb) hf).mono ?_
    rintro e w2 ⟨⟨v, rfl, q1⟩, q2, q3⟩
    go_wp2
    go_ret2
    exact ⟨⟨_, rfl, q1.weak hb.size⟩, q2, grown_trans (below_grown0 hb _) q3⟩
  rw [csX m h0 h1 h2 h3 h4 h5]
  have e0 : (k == 0) = false := by simpa using h0
  have e1 : (k == 1) = false := by simpa using h1
  have e2 : (k == 2) = false := by simpa using h2
  have e3 : (k == 3) = false := by simpa using h3
  have e4 : (k == 4) = false := by simpa using h4
  have e5 : (k == 5) = false := by simpa using h5
  clear h0 h1 h2 h3 h4 h5
  go_enter Try.func12, Try.ntmps12
  go_wp2_with fail
  refine (tick19 g p _ now (h.below hb) hf).mono ?_
  rintro e w2 ⟨⟨v, rfl, q1⟩, q2, q3⟩
  go_wp2
  go_ret2
  exact ⟨⟨_, rfl, q1.weak hb.size⟩, q2, grown_trans (below_grown0 hb _) q3⟩
theorem state11 (h : PolAt w g p) : Calls Try.prog 11 #[.pointer (some ⟨g, 0, none⟩)] w fun e w' => e = .returned (.int .i64 p.st) ∧ w = w' := by
  have c := h.cst
  go_enter Try.func11, Try.ntmps11
  go_wp2
  go_ret
  exact ⟨rfl, rfl⟩
theorem failures20 (h : PolAt w g p) : Calls Try.prog 20 #[.pointer (some ⟨g, 0, none⟩)] w fun e w' => e = .returned (.int .i64 p.fa) ∧ w = w' := by
  have c := h.cfa
  go_enter Try.func20, Try.ntmps20
  go_wp2
  go_ret
  exact ⟨rfl, rfl⟩
theorem why21 (h : PolAt w g p) : Calls Try.prog 21 #[.pointer (some ⟨g, 0, none⟩)] w fun e w' => e = .returned (.string (whyS p.wy)) ∧ w = w' := by
  have c := h.cwy
  go_enter Try.func21, Try.ntmps21
  go_wp2
  go_ret
  exact ⟨rfl, rfl⟩
theorem state11_nil : Calls Try.prog 11 #[.pointer none] w fun e w' => e = .returned (.int .i64 0) ∧ w = w' := by
  go_enter Try.func11, Try.ntmps11
  go_wp2
  go_ret
  exact ⟨rfl, rfl⟩
theorem failures20_nil : Calls Try.prog 20 #[.pointer none] w fun e w' => e = .returned (.int .i64 0) ∧ w = w' := by
  go_enter Try.func20, Try.ntmps20
  go_wp2
  go_ret
  exact ⟨rfl, rfl⟩
theorem why21_nil : Calls Try.prog 21 #[.pointer none] w fun e w' => e = .returned (.string { data := #[] }) ∧ w = w' := by
  go_enter Try.func21, Try.ntmps21
  go_wp2
  go_ret
  exact ⟨rfl, rfl⟩
def NilR (w : World) (e : Ending) (w' : World) : Prop := e = .returned (.tuple #[.slice none 0 0, .int .i64 2]) ∧ Below w.heap.size w w'
theorem nil26 (now : Int) : Calls Try.prog 26 #[.pointer none, .int .i64 now] w (NilR w) := by
  go_enter Try.func26, Try.ntmps26
  go_wp2_with fail
  refine (at39_nil now _ _ _ _ rfl _).mono ?_
  rintro e w2 ⟨rfl, rfl⟩
  go_wp2
  go_ret2
  exact ⟨rfl, (below_a2 _ _ _)⟩
theorem nil19 (now : Int) : Calls Try.prog 19 #[.pointer none, .int .i64 now] w (NilR w) := by
  go_enter Try.func19, Try.ntmps19
  go_wp2_with fail
  refine (at39_nil now _ _ _ _ rfl _).mono ?_
  rintro e w2 ⟨rfl, rfl⟩
  go_wp2
  go_ret2
  exact ⟨rfl, (Below.refl w.heap.size w)⟩
theorem nil27 (now : Int) : Calls Try.prog 27 #[.pointer none, .int .i64 now] w (NilR w) := by
  go_enter Try.func27, Try.ntmps27
  go_wp2_with fail
  refine (at39_nil now _ _ _ _ rfl _).mono ?_
  rintro e w2 ⟨rfl, rfl⟩
  go_wp2
  go_ret2
  exact ⟨rfl, (below_a2 _ _ _)⟩
theorem nil28 (now : Int) : Calls Try.prog 28 #[.pointer none, .int .i64 now] w (NilR w) := by
  go_enter Try.func28, Try.ntmps28
  go_wp2_with fail
  refine (at39_nil now _ _ _ _ rfl _).mono ?_
  rintro e w2 ⟨rfl, rfl⟩
  go_wp2
  go_ret2
  exact ⟨rfl, (below_a3 _ _ _ _)⟩
theorem nil24 (now : Int) : Calls Try.prog 24 #[.pointer none, .int .i64 now] w (NilR w) := by
  go_enter Try.func24, Try.ntmps24
  go_wp2_with fail
  refine (at39_nil now _ _ _ _ rfl _).mono ?_
  rintro e w2 ⟨rfl, rfl⟩
  go_wp2
  go_ret2
  exact ⟨rfl, (below_a2 _ _ _)⟩
theorem nil25 (now : Int) : Calls Try.prog 25 #[.pointer none, .int .i64 now] w (NilR w) := by
  go_enter Try.func25, Try.ntmps25
  go_wp2_with fail
  refine (at39_nil now _ _ _ _ rfl _).mono ?_
  rintro e w2 ⟨rfl, rfl⟩
  go_wp2
  go_ret2
  exact ⟨rfl, (below_a2 _ _ _)⟩
theorem nil23t (now : Int) : Calls Try.prog 23 #[.pointer none, .int .i64 now, .bool true] w (NilR w) := by
  go_enter Try.func23, Try.ntmps23
  go_wp2_with fail
  refine (at39_nil now _ _ _ _ rfl _).mono ?_
  rintro e w2 ⟨rfl, rfl⟩
  go_wp2
  go_ret2
  exact ⟨rfl, (below_a3 _ _ _ _)⟩
theorem nil23f (now : Int) : Calls Try.prog 23 #[.pointer none, .int .i64 now, .bool false] w (NilR w) := by
  go_enter Try.func23, Try.ntmps23
  go_wp2_with fail
  refine (at39_nil now _ _ _ _ rfl _).mono ?_
  rintro e w2 ⟨rfl, rfl⟩
  go_wp2
  go_ret2
  exact ⟨rfl, (Below.refl w.heap.size w)⟩
set_option maxHeartbeats 1000000 in
theorem call12_nil (k by_ : Int) (m : Bool) (now : Int) : Calls Try.prog 12 #[.pointer none, .agg #[.int .i64 k, .int .i64 by_, .bool m], .int .i64 now] w (NilR w) := by
  have hb : Below w.heap.size w (w.alloc (.cells #[.int .i64 k, .int .i64 by_, .bool m] 33)) := (Below.refl _ _).alloc (Nat.le_refl _) _
  by_cases h0 : k = 0
  · subst h0
    go_enter Try.func12, Try.ntmps12
    go_wp2_with fail
    refine (nil26 _ now).mono ?_
    rintro e w2 ⟨rfl, q⟩
    go_wp2
    go_ret2
    exact ⟨rfl, below_then hb q⟩
  by_cases h1 : k = 1
  · subst h1
    cases m
    · skip
      go_enter Try.func12, Try.ntmps12
      go_wp2_with fail
      refine (nil23f _ now).mono ?_
      rintro e w2 ⟨rfl, q⟩
      go_wp2
      go_ret2
      exact ⟨rfl, below_then hb q⟩
    · skip
      go_enter Try.func12, Try.ntmps12
      go_wp2_with fail
      refine (nil23t _ now).mono ?_
      rintro e w2 ⟨rfl, q⟩
      go_wp2
      go_ret2
      exact ⟨rfl, below_then hb q⟩
  by_cases h2 : k = 2
  · subst h2
    go_enter Try.func12, Try.ntmps12
    go_wp2_with fail
    refine (nil27 _ now).mono ?_
    rintro e w2 ⟨rfl, q⟩
    go_wp2
    go_ret2
    exact ⟨rfl, below_then hb q⟩
  by_cases h3 : k = 3
  · subst h3
    go_enter Try.func12, Try.ntmps12
    go_wp2_with fail
    refine (nil28 _ now).mono ?_
    rintro e w2 ⟨rfl, q⟩
    go_wp2
    go_ret2
    exact ⟨rfl, below_then hb q⟩
  by_cases h4 : k = 4
  · subst h4
    go_enter Try.func12, Try.ntmps12
    go_wp2_with fail
    refine (nil24 _ now).mono ?_
    rintro e w2 ⟨rfl, q⟩
    go_wp2
    go_ret2
    exact ⟨rfl, below_then hb q⟩
  by_cases h5 : k = 5
  · subst h5
    go_enter Try.func12, Try.ntmps12
    go_wp2_with fail
    refine (nil25 _ now).mono ?_
    rintro e w2 ⟨rfl, q⟩
    go_wp2
    go_ret2
    exact ⟨rfl, below_then hb q⟩
  have e0 : (k == 0) = false := by simpa using h0
  have e1 : (k == 1) = false := by simpa using h1
  have e2 : (k == 2) = false := by simpa using h2
  have e3 : (k == 3) = false := by simpa using h3
  have e4 : (k == 4) = false := by simpa using h4
  have e5 : (k == 5) = false := by simpa using h5
  clear h0 h1 h2 h3 h4 h5
  go_enter Try.func12, Try.ntmps12
  go_wp2_with fail
  refine (nil19 _ now).mono ?_
  rintro e w2 ⟨rfl, q⟩
  go_wp2
  go_ret2
  exact ⟨rfl, below_then hb q⟩
end Go.Proofs.Ytibdaonhldlmbaa.F
