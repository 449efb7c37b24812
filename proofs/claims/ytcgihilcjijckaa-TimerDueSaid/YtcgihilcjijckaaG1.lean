import Derived.Test.YtcgihilcjijckaaF5
import Derived.BigQuiet
set_option linter.unusedVariables false
set_option linter.unusedSimpArgs false
set_option linter.unnecessarySimpa false
namespace Go.Proofs.Ytcgihilcjijckaa.F
open Go.RowKit Go.Proofs.Ytcgihilcjijckaa.K
theorem row_on {w : World} {B : Nat} {A : Option Addr} {cap : Nat} {l : List On} (h : Row w B 29 2 (.slice A l.length cap) l.length (ons l)) {k : Nat} (hk : k < l.length) : ∃ b, A = some ⟨b, 0, none⟩ ∧ w.cell? ⟨b, k * 2, none⟩ = some (.int .i64 l[k].id) ∧ w.cell? ⟨b, k * 2 + 1, none⟩ = some (.int .i64 l[k].at_) := by
  obtain ⟨b, hA, -, h0⟩ := h.cell (j := k * 2 + 0) (u := .int .i64 l[k].id) (by rw [ons_at hk 0 (by omega)]; rfl)
  obtain ⟨b1, hA1, -, h1⟩ := h.cell (j := k * 2 + 1) (u := .int .i64 l[k].at_) (by rw [ons_at hk 1 (by omega)]; rfl)
  subst hA
  cases hA1
  exact ⟨b, rfl, h0, h1⟩
theorem row_int {w : World} {B : Nat} {A : Option Addr} {cap : Nat} {l : List Int} (h : Row w B 3 1 (.slice A l.length cap) l.length (ints l)) {k : Nat} (hk : k < l.length) : ∃ b, A = some ⟨b, 0, none⟩ ∧ w.cell? ⟨b, k, none⟩ = some (.int .i64 l[k]) := by
  obtain ⟨b, hA, -, h0⟩ := h.cell (j := k) (u := .int .i64 l[k]) (by simp [ints, List.getElem?_eq_getElem hk])
  exact ⟨b, hA, h0⟩
variable (w : World)
def SameR {α : Type} (a b : List α) (w : World) (e : Ending) (w' : World) : Prop := ∃ t : Bool, e = .returned (.bool t) ∧ (t = true ↔ a = b) ∧ Below w.heap.size w w'
theorem eq_upto {α : Type} {a b : List α} (hl : a.length = b.length) (h : ∀ (j : Nat) (hj : j < a.length) (hj' : j < b.length), a[j] = b[j]) : a = b := List.ext_getElem hl (fun i h1 h2 => h i h1 h2)
set_option maxHeartbeats 4000000 in
theorem ids8 (B1 B2 : Nat) (u1 u2 : Value) (a b : List Int) (h1 : Row w B1 3 1 u1 a.length (ints a)) (h2 : Row w B2 3 1 u2 b.length (ints b)) : Calls Try.prog 8 #[u1, u2] w (SameR a b w) := by
  have H1 := Lib.hid h1
  have H2 := Lib.hid h2
  obtain ⟨A1, p1, rfl, k1, k2⟩ := Row.slice h1
  obtain ⟨A2, p2, rfl, k3, k4⟩ := Row.slice h2
  unfold maxLen at k2 k4
  clear h1 h2
  by_cases hl : a.length = b.length
  · have hl2 : ((a.length : Int) != (b.length : Int)) = false := by simp [hl]
    go_enter Try.func8, Try.ntmps8
    go_wp2_with fail
    go_loopw [5, 13] (fun _ i wr => ∃ k : Nat, k ≤ a.length ∧ i = .int .i64 k ∧ Hid (∀ (j : Nat) (hj : j < a.length) (hj' : j < b.length), j < k → a[j] = b[j]) ∧ Below w.heap.size w wr) (fun _ i _ => a.length - (intOf i).toNat)
    case atStart => exact ⟨0, by omega, rfl, Lib.hid (fun j hj hj' h0 => by omega), Below.refl _ _⟩
    case round =>
      obtain ⟨k, hk, rfl, HK, hB⟩ := hrel
      by_cases hka : k < a.length
      · have hkb : k < b.length := by omega
        obtain ⟨b1, rfl, d1⟩ := row_int (H1.out.below hB) hka
        obtain ⟨b2, rfl, d2⟩ := row_int (H2.out.below hB) hkb
        obtain ⟨x, hx⟩ : ∃ x, x = a[k] := ⟨_, rfl⟩
        obtain ⟨y, hy⟩ : ∃ y, y = b[k] := ⟨_, rfl⟩
        have HX := Lib.hid hx
        have HY := Lib.hid hy
        rw [← hx] at d1
        rw [← hy] at d2
        have HB := Lib.hid hB
        clear hx hy hB
        have i0 : (0 : Int) ≤ (k : Int) := by omega
        have i1 : (k : Int) < (a.length : Int) := by omega
        have i2 : (k : Int) < (b.length : Int) := by omega
        have hl3 := Lib.hid hl
        clear hl hl2
        by_cases hxy : x = y
        · have HXY := Lib.hid hxy
          have z : (x != y) = false := by simp [hxy]
          clear hxy
          go_upto_region 6 with fail
          go_quiet (fail)
          go_wp2_with fail
          go_roundw
          case rel => exact ⟨k + 1, by omega, by go_num, Lib.hid (fun j hj hj' hjk => by
            by_cases e : j = k
            · subst e; rw [← HX.out, ← HY.out]; exact HXY.out
            · exact HK.out j hj hj' (by omega)), Go.below_drewN HB.out _⟩
          case measure => simp [intOf]; omega
        · have HXY := Lib.hid hxy
          have z : (x != y) = true := by simp [hxy]
          clear hxy
          go_upto_region 6 with fail
          go_quiet (fail)
          go_wp2_with fail
          go_ret
          exact ⟨false, rfl, ⟨fun h => (by cases h), fun h => (by
            subst h
            exact absurd (HX.out.trans HY.out.symm) HXY.out)⟩, Go.below_drewN HB.out _⟩
      · obtain rfl : k = a.length := by omega
        go_wp2_with fail
        go_ret
        exact ⟨true, rfl, ⟨fun _ => eq_upto hl (fun j hj hj' => HK.out j hj hj' hj), fun _ => rfl⟩, hB⟩
  · have hl2 : ((a.length : Int) != (b.length : Int)) = true := by simp; omega
    go_enter Try.func8, Try.ntmps8
    go_wp2_with fail
    go_ret
    exact ⟨false, rfl, ⟨fun h => (by cases h), fun h => absurd (by rw [h]) hl⟩, Below.refl _ _⟩
set_option maxHeartbeats 4000000 in
theorem alike19 (B1 B2 : Nat) (u1 u2 : Value) (a b : List On) (h1 : Row w B1 29 2 u1 a.length (ons a)) (h2 : Row w B2 29 2 u2 b.length (ons b)) : Calls Try.prog 19 #[u1, u2] w (SameR a b w) := by
  have H1 := Lib.hid h1
  have H2 := Lib.hid h2
  obtain ⟨A1, p1, rfl, k1, k2⟩ := Row.slice h1
  obtain ⟨A2, p2, rfl, k3, k4⟩ := Row.slice h2
  unfold maxLen at k2 k4
  clear h1 h2
  by_cases hl : a.length = b.length
  · have hl2 : ((a.length : Int) != (b.length : Int)) = false := by simp [hl]
    go_enter Try.func19, Try.ntmps19
    go_wp2_with fail
    go_loopw [5, 13] (fun _ i wr => ∃ k : Nat, k ≤ a.length ∧ i = .int .i64 k ∧ Hid (∀ (j : Nat) (hj : j < a.length) (hj' : j < b.length), j < k → a[j] = b[j]) ∧ Below w.heap.size w wr) (fun _ i _ => a.length - (intOf i).toNat)
    case atStart => exact ⟨0, by omega, rfl, Lib.hid (fun j hj hj' h0 => by omega), Below.refl _ _⟩
    case round =>
      obtain ⟨k, hk, rfl, HK, hB⟩ := hrel
      by_cases hka : k < a.length
      · have hkb : k < b.length := by omega
        obtain ⟨b1, rfl, d1, d3⟩ := row_on (H1.out.below hB) hka
        obtain ⟨b2, rfl, d2, d4⟩ := row_on (H2.out.below hB) hkb
        obtain ⟨x, hx⟩ : ∃ x, x = a[k] := ⟨_, rfl⟩
        obtain ⟨y, hy⟩ : ∃ y, y = b[k] := ⟨_, rfl⟩
        have HX := Lib.hid hx
        have HY := Lib.hid hy
        rw [← hx] at d1 d3
        rw [← hy] at d2 d4
        have HB := Lib.hid hB
        clear hx hy hB
        have i0 : (0 : Int) ≤ (k : Int) := by omega
        have i1 : (k : Int) < (a.length : Int) := by omega
        have i2 : (k : Int) < (b.length : Int) := by omega
        have hl3 := Lib.hid hl
        clear hl hl2
        obtain ⟨xi, xa⟩ := x
        obtain ⟨yi, ya⟩ := y
        simp only at d1 d2 d3 d4
        by_cases hxy : xi = yi ∧ xa = ya
        · have HXY := Lib.hid hxy
          obtain ⟨rfl, rfl⟩ := hxy
          go_upto_region 6 with fail
          go_quiet (fail)
          go_wp2_with fail
          go_roundw
          case rel => exact ⟨k + 1, by omega, by go_num, Lib.hid (fun j hj hj' hjk => by
            by_cases e : j = k
            · subst e; rw [← HX.out, ← HY.out]
            · exact HK.out j hj hj' (by omega)), Go.below_drewN HB.out _⟩
          case measure => simp [intOf]; omega
        · have HXY := Lib.hid hxy
          by_cases hx1 : xi = yi
          · subst hx1
            have z1 : (xi == xi) = true := beq_self_eq_true _
            have z : (xa == ya) = false := by
              have := HXY.out
              simpa using this
            clear hxy
            go_upto_region 6 with fail
            go_quiet (fail)
            go_wp2_with fail
            go_ret
            exact ⟨false, rfl, ⟨fun h => (by cases h), fun h => (by
              subst h
              have e := HX.out.trans HY.out.symm
              simp only [On.mk.injEq] at e
              exact absurd e HXY.out)⟩, Go.below_drewN HB.out _⟩
          · have z : (xi == yi) = false := by simpa using hx1
            clear hxy hx1
            go_upto_region 6 with fail
            go_quiet (fail)
            go_wp2_with fail
            go_ret
            exact ⟨false, rfl, ⟨fun h => (by cases h), fun h => (by
              subst h
              have e := HX.out.trans HY.out.symm
              simp only [On.mk.injEq] at e
              exact absurd e HXY.out)⟩, Go.below_drewN HB.out _⟩
      · obtain rfl : k = a.length := by omega
        go_wp2_with fail
        go_ret
        exact ⟨true, rfl, ⟨fun _ => eq_upto hl (fun j hj hj' => HK.out j hj hj' hj), fun _ => rfl⟩, hB⟩
  · have hl2 : ((a.length : Int) != (b.length : Int)) = true := by simp; omega
    go_enter Try.func19, Try.ntmps19
    go_wp2_with fail
    go_ret
    exact ⟨false, rfl, ⟨fun h => (by cases h), fun h => absurd (by rw [h]) hl⟩, Below.refl _ _⟩
end Go.Proofs.Ytcgihilcjijckaa.F
