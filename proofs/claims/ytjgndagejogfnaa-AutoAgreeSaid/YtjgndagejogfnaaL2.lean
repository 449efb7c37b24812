import Derived.Test.YtjgndagejogfnaaL1
set_option linter.unusedVariables false
set_option linter.unusedSimpArgs false
namespace Go.Proofs.Ytjgndagejogfnaa.F
open Go.RowKit Go.Proofs.Ytjgndagejogfnaa.K
def amongB (l m : List Int) : Bool := l.any fun a => m.contains a
theorem among_hit {l m : List Int} {k i : Nat} (hk : k < l.length) (hi : i < m.length) (h : l[k] = m[i]) : amongB l m = true := by
  unfold amongB
  rw [List.any_eq_true]
  exact ⟨l[k], List.getElem_mem hk, by rw [List.contains_iff_mem, h]; exact List.getElem_mem hi⟩
theorem among_miss {l m : List Int} (h : ∀ j (hj : j < l.length), j < l.length → m.contains l[j] = false) : amongB l m = false := by
  rw [Bool.eq_false_iff]
  intro hc
  unfold amongB at hc
  rw [List.any_eq_true] at hc
  obtain ⟨x, hx, hm⟩ := hc
  obtain ⟨j, hj, e⟩ := List.mem_iff_getElem.1 hx
  have := h j hj hj
  rw [e, hm] at this
  cases this
theorem among42 (l m : List Int) (v u : Value) (w : World) (h : IntsAt w v l) (h' : IntsAt w u m) : Calls Try.prog 42 #[v, u] w fun e w' => e = .returned (.bool (amongB l m)) ∧ w = w' := by
  obtain ⟨A, ca, rfl, k1, k2, k3, k4⟩ := h
  obtain ⟨B, cb, rfl, j1, j2, j3, j4⟩ := h'
  unfold maxLen at k2 j2
  go_enter Try.func42, Try.ntmps42
  go_wp2
  go_loop [6, 8, 11] (fun _ _ i => ∃ k : Nat, k ≤ l.length ∧ i = .int .i64 k ∧ Hid (∀ j (hj : j < l.length), j < k → m.contains l[j] = false)) (fun _ _ i => l.length - (intOf i).toNat)
  case atStart => exact ⟨0, by omega, rfl, Lib.hid (fun j hj h => by omega)⟩
  case round =>
    obtain ⟨k, hk, rfl, he⟩ := hrel
    by_cases hlt : k < l.length
    · obtain ⟨ad, rfl⟩ := some_of k3 hlt
      obtain ⟨ba, oa, rfl, c1⟩ := k4 ad rfl k hlt
      have hi0 : (0 : Int) ≤ (k : Int) := by omega
      have hi1 : (k : Int) < (l.length : Int) := by omega
      clear k3 k4
      obtain ⟨x, hx⟩ : ∃ x, x = l[k] := ⟨_, rfl⟩
      rw [← hx] at c1
      have HX := Lib.hid hx
      clear hx
      go_wp2
      go_loop [8, 17] (fun _ i => ∃ q : Nat, q ≤ m.length ∧ i = .int .i64 q ∧ Hid (∀ j (hj : j < m.length), j < q → m[j] ≠ x)) (fun _ i => m.length - (intOf i).toNat)
      case atStart => exact ⟨0, by omega, rfl, Lib.hid (fun j hj h => by omega)⟩
      case round =>
        obtain ⟨q, hq, rfl, hm⟩ := hrel
        by_cases hqt : q < m.length
        · obtain ⟨bd, rfl⟩ := some_of j3 hqt
          obtain ⟨bb, ob, rfl, c2⟩ := j4 bd rfl q hqt
          have hj0 : (0 : Int) ≤ (q : Int) := by omega
          have hj1 : (q : Int) < (m.length : Int) := by omega
          clear j3 j4
          by_cases hqe : m[q] = x
          · have q1 : (x == m[q]) = true := by rw [hqe]; simp
            have HN := Lib.hid (among_hit hlt hqt (by rw [hqe, HX.out]))
            clear hqe
            go_wp2
            go_ret
            exact ⟨by rw [HN.out]; rfl, rfl⟩
          · have q1 : (x == m[q]) = false := by
              rw [beq_eq_false_iff_ne]
              exact fun e => hqe e.symm
            have HE := Lib.hid (contains_not_succ hqt hm.out hqe)
            clear hqe
            go_wp2
            go_round
            case rel => exact ⟨q + 1, by omega, by go_num, HE⟩
            case measure => simp [intOf]; omega
        · obtain rfl : q = m.length := by omega
          have hc := contains_no hm.out
          have HE : Hid (∀ j (hj : j < l.length), j < k + 1 → m.contains l[j] = false) := Lib.hid (fun j hj hjk => by
            by_cases e : j = k
            · subst e; rw [← HX.out]; exact hc
            · exact he.out j hj (by omega))
          clear hc
          go_wp2
          go_round
          case rel => exact ⟨k + 1, by omega, by go_num, HE⟩
          case measure => simp [intOf]; omega
    · obtain rfl : k = l.length := by omega
      have HN := Lib.hid (among_miss he.out)
      go_wp2
      go_ret
      exact ⟨by rw [HN.out]; rfl, rfl⟩
theorem among3 (l : List Int) : amongB l [7, 10, 6] = begins l := by
  unfold amongB begins
  induction l with
  | nil => rfl
  | cons x l ih =>
    rw [List.any_cons, ih]
    simp only [List.contains_cons, List.contains_nil]
    rw [show ((7 : Int) == x) = (x == 7) from Bool.beq_comm, show ((10 : Int) == x) = (x == 10) from Bool.beq_comm, show ((6 : Int) == x) = (x == 6) from Bool.beq_comm]
    cases (x == 7) <;> cases (x == 10) <;> cases (x == 6) <;> simp
theorem among1 (l : List Int) : amongB l [10] = l.contains 10 := by
  unfold amongB
  induction l with
  | nil => rfl
  | cons x l ih =>
    rw [List.any_cons, ih]
    simp only [List.contains_cons, List.contains_nil]
    rw [show ((10 : Int) == x) = (x == 10) from Bool.beq_comm]
    simp
theorem own_lit3 {w : World} (x y z : Int) : Own w.heap.size (w.alloc (.cells #[.int .i64 x, .int .i64 y, .int .i64 z] 3)) (.slice (some ⟨w.heap.size, 0, none⟩) 3 3) [x, y, z] := own_lit (Nat.le_refl _) [x, y, z] (by simp [maxLen])
theorem own_lit1 {w : World} (x : Int) : Own w.heap.size (w.alloc (.cells #[.int .i64 x] 3)) (.slice (some ⟨w.heap.size, 0, none⟩) 1 1) [x] := own_lit (Nat.le_refl _) [x] (by simp [maxLen])
theorem begins26 (l : List Int) (v : Value) (w : World) (h : IntsAt w v l) : Calls Try.prog 26 #[v] w fun e w' => e = .returned (.bool (begins l)) ∧ Below w.heap.size w w' := by
  have hb : Below w.heap.size w (w.alloc (.cells #[.int .i64 7, .int .i64 10, .int .i64 6] 3)) := (Below.refl _ _).alloc (Nat.le_refl _) _
  go_enter Try.func26, Try.ntmps26
  go_wp2_with fail
  refine (among42 l [7, 10, 6] _ _ _ (h.below hb) (own_lit3 7 10 6).ints).mono ?_
  rintro e w1 ⟨rfl, rfl⟩
  rw [among3]
  go_wp2
  go_ret
  exact ⟨rfl, hb⟩
theorem begins27 (l : List Int) (v : Value) (w : World) (h : IntsAt w v l) : Calls Try.prog 27 #[v] w fun e w' => e = .returned (.bool (begins l)) ∧ Below w.heap.size w w' := by
  have H7 := Lib.hid (has43 l 7 v w h)
  have H10 := Lib.hid (has43 l 10 v w h)
  have H6 := Lib.hid (has43 l 6 v w h)
  have hB : begins l = (hasI l 7 || hasI l 10 || hasI l 6) := rfl
  rw [hB]
  clear hB
  generalize hasI l 7 = x7 at *
  generalize hasI l 10 = x10 at *
  generalize hasI l 6 = x6 at *
  go_enter Try.func27, Try.ntmps27
  go_wp2_with fail
  refine H7.out.mono ?_
  rintro e w1 ⟨rfl, rfl⟩
  cases x7
  · go_wp2_with fail
    refine H10.out.mono ?_
    rintro e w1 ⟨rfl, rfl⟩
    cases x10
    · go_wp2_with fail
      refine H6.out.mono ?_
      rintro e w1 ⟨rfl, rfl⟩
      go_wp2
      go_ret
      exact ⟨by simp, Below.refl _ _⟩
    · go_wp2_with fail
      go_ret
      exact ⟨rfl, Below.refl _ _⟩
  · go_wp2_with fail
    go_ret
    exact ⟨rfl, Below.refl _ _⟩
theorem runs22 (s : Int) (w : World) : Calls Try.prog 22 #[.int .i64 s] w fun e w' => e = .returned (.bool (runs s)) ∧ w = w' := by
  unfold runs
  by_cases a : 4 ≤ s
  · have q1 : decide (4 ≤ s) = true := by simpa using a
    rw [q1]
    clear a
    go_enter Try.func22, Try.ntmps22
    go_wp2
    go_ret
    exact ⟨by simp, rfl⟩
  · have q1 : decide (4 ≤ s) = false := by simpa using a
    rw [q1]
    clear a
    go_enter Try.func22, Try.ntmps22
    go_wp2
    go_ret
    exact ⟨rfl, rfl⟩
theorem runs23 (s : Int) (w : World) : Calls Try.prog 23 #[.int .i64 s] w fun e w' => e = .returned (.bool (runs s)) ∧ w = w' := by
  unfold runs
  by_cases a : 4 ≤ s
  · have q1 : decide (4 ≤ s) = true := by simpa using a
    rw [q1]
    clear a
    go_enter Try.func23, Try.ntmps23
    go_wp2
    go_ret
    exact ⟨by simp, rfl⟩
  · have q1 : decide (4 ≤ s) = false := by simpa using a
    rw [q1]
    clear a
    go_enter Try.func23, Try.ntmps23
    go_wp2
    go_ret
    exact ⟨rfl, rfl⟩
end Go.Proofs.Ytjgndagejogfnaa.F
