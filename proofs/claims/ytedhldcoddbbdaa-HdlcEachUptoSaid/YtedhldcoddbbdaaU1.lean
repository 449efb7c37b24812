import Derived.Test.YtedhldcoddbbdaaW8
import Derived.Test.YtedhldcoddbbdaaB0
import Derived.Lib.Hide
import Derived.WalkMore
import Derived.DeepKeys
import Derived.Outline
import Derived.BigQuiet
import Derived.Deep.DeepCutAuto
import Derived.Deep.RegionLaw
import Derived.WalkSpells
import Derived.WalkSmall
set_option linter.unusedVariables false
set_option linter.unusedSimpArgs false
set_option linter.unnecessarySimpa false
namespace Go.Proofs.Ytedhldcoddbbdaa.F
open Go.RowKit Go.Proofs.Ytedhldcoddbbdaa.K
theorem wr8 (a : Nat) (h : a < 256) : IntKind.u8.wrap (a : Int) = a := by simp [IntKind.wrap, IntKind.bits, IntKind.signed]; omega
theorem xor8 (a b : BitVec 8) : bits .xor .u8 (v8 a) (v8 b) = v8 (a ^^^ b) := by
  simp only [bits, v8, IntKind.bits, BitVec.ofInt_natCast, BitVec.ofNat_toNat, BitVec.setWidth_eq]
  exact wr8 _ (a ^^^ b).isLt
theorem v8_inj {a b : BitVec 8} (h : v8 a = v8 b) : a = b := by
  unfold v8 at h
  exact BitVec.eq_of_toNat_eq (by omega)
/-- a byte of it -/
theorem BytesAt.get {w : World} {A : Option Addr} {cap : Nat} {l : List (BitVec 8)} (h : BytesAt w (.slice A l.length cap) l) {k : Nat} (hk : k < l.length) : ∃ b o, A = some ⟨b, o, none⟩ ∧ w.cell? ⟨b, o + k, none⟩ = some (.int .u8 (v8 l[k])) := by
  obtain ⟨A', cap', e, h1, h2, h3, h4⟩ := h.at_
  cases e
  cases A with
  | none => rw [h3 rfl] at hk; simp at hk
  | some ad =>
    obtain ⟨b, o, rfl, hc⟩ := h4 ad rfl k hk
    exact ⟨b, o, rfl, hc⟩
set_option maxHeartbeats 4000000 in
theorem same18 (l m : List (BitVec 8)) (v u : Value) (w : World) (h : BytesAt w v l) (h' : BytesAt w u m) : Calls Try.prog 18 #[v, u] w fun e w' => e = .returned (.bool (decide (l = m))) ∧ Below w.heap.size w w' := by
  have H1 := Lib.hid h
  have H2 := Lib.hid h'
  obtain ⟨A1, p1, rfl, k1, k2, -, -⟩ := h.at_
  obtain ⟨A2, p2, rfl, k3, k4, -, -⟩ := h'.at_
  unfold maxLen at k2 k4
  clear h h'
  by_cases hl : l.length = m.length
  · have hl2 : ((l.length : Int) != (m.length : Int)) = false := by simp [hl]
    go_enter Try.func18, Try.ntmps18
    go_wp2_with fail
    go_loopw [5] (fun i wr => ∃ k : Nat, k ≤ l.length ∧ i = .int .i64 k ∧ Hid (∀ (j : Nat) (hj : j < l.length) (hj' : j < m.length), j < k → l[j] = m[j]) ∧ Below w.heap.size w wr) (fun i _ => l.length - (intOf i).toNat)
    case atStart => exact ⟨0, by omega, rfl, Lib.hid (fun j hj hj' h0 => by omega), Below.refl _ _⟩
    case round =>
      obtain ⟨k, hk, rfl, HK, hB⟩ := hrel
      have HB := Lib.hid hB
      clear hB
      by_cases hka : k < l.length
      · have hkb : k < m.length := by omega
        obtain ⟨b1, o1, rfl, d1⟩ := BytesAt.get (H1.out.below HB.out) hka
        obtain ⟨b2, o2, rfl, d2⟩ := BytesAt.get (H2.out.below HB.out) hkb
        obtain ⟨x, hx⟩ : ∃ x, x = l[k] := ⟨_, rfl⟩
        obtain ⟨y, hy⟩ : ∃ y, y = m[k] := ⟨_, rfl⟩
        have HX := Lib.hid hx
        have HY := Lib.hid hy
        rw [← hx] at d1
        rw [← hy] at d2
        clear hx hy
        have i0 : (0 : Int) ≤ (k : Int) := by omega
        have i1 : (k : Int) < (l.length : Int) := by omega
        have i2 : (k : Int) < (m.length : Int) := by omega
        have hl3 := Lib.hid hl
        clear hl hl2
        by_cases hxy : v8 x = v8 y
        · have HXY := Lib.hid (v8_inj hxy)
          have z : (v8 x != v8 y) = false := by simp [hxy]
          clear hxy
          go_upto_region 6 with fail
          go_quiet (fail)
          go_wp2_with fail
          go_roundw
          case rel => exact ⟨k + 1, by omega, by go_num, Lib.hid (fun j hj hj' hjk => by
            by_cases e : j = k
            · subst e; rw [← HX.out, ← HY.out]; exact HXY.out
            · exact HK.out j hj hj' (by omega)), Go.below_drewN HB.out _⟩
          case measure => simp [intOf]; omega
        · have HXY := Lib.hid hxy
          have z : (v8 x != v8 y) = true := by simp [hxy]
          clear hxy
          go_upto_region 6 with fail
          go_quiet (fail)
          go_wp2_with fail
          go_ret
          refine ⟨?_, Go.below_drewN HB.out _⟩
          have : ¬ l = m := fun h => by
            subst h
            exact HXY.out (congrArg v8 (HX.out.trans HY.out.symm))
          simp [this]
      · obtain rfl : k = l.length := by omega
        go_wp2_with fail
        go_ret
        refine ⟨?_, HB.out⟩
        have : l = m := List.ext_getElem hl (fun i h1 h2 => HK.out i h1 h2 h1)
        simp [this]
  · have hl2 : ((l.length : Int) != (m.length : Int)) = true := by simp; omega
    go_enter Try.func18, Try.ntmps18
    go_wp2_with fail
    go_ret
    refine ⟨?_, Below.refl _ _⟩
    have : ¬ l = m := fun h => hl (by rw [h])
    simp [this]
end Go.Proofs.Ytedhldcoddbbdaa.F
