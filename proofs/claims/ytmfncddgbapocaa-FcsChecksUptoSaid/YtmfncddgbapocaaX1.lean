import Derived.Test.YtmfncddgbapocaaW0
import Derived.Outline
import Derived.Lib.Hide
set_option linter.unusedVariables false
set_option linter.unusedSimpArgs false
namespace Go.Proofs.Ytmfncddgbapocaa.F
open Go.RowKit Go.Proofs.Ytmfncddgbapocaa.K
theorem and1_32 (a : BitVec 32) : bits .and .u32 (v32 a) 1 = v32 (a &&& 1#32) := by
  simp only [bits, v32, IntKind.bits, BitVec.ofInt_natCast, BitVec.ofNat_toNat, BitVec.setWidth_eq]
  exact w32 _ (a &&& 1#32).isLt
theorem shr1_32 (a : BitVec 32) : v32 a / (2 : Int) = v32 (a >>> 1) := by
  simp only [v32, BitVec.toNat_ushiftRight, Nat.shiftRight_eq_div_pow]; omega
theorem and1_low (a : BitVec 32) : a &&& 1#32 = if a.getLsbD 0 then 1#32 else 0#32 := by
  apply BitVec.eq_of_getLsbD_eq
  intro i hi
  cases i with
  | zero => cases h : a.getLsbD 0 <;> simp_all
  | succ i => cases h : a.getLsbD 0 <;> simp
theorem stN_succ {n : Nat} (p : BitVec n) (k : Nat) (r : BitVec n) : stN p (k + 1) r = stp p (stN p k r) := by rw [stN_add]; rfl
attribute [local go_sem high] and1_32 shr1_32 xor32 cvw32
theorem refOn (r p : BitVec 32) (l : List (BitVec 8)) (v : Value) (w : World) (h : BytesAt w v l) :
  Calls Try.prog 46 #[.int .u32 (v32 r), v, .int .u32 (v32 p)] w fun e w' => e = .returned (.int .u32 (v32 (crc p r l))) ∧ w' = w := by
  obtain ⟨A, cap, rfl, h1, h2, h3, h4⟩ := h
  unfold maxLen at h2
  go_enter Try.func46, Try.ntmps46
  go_wp2
  go_loop [0, 13] (fun r' i => ∃ k : Nat, k ≤ l.length ∧ i = .int .i64 k ∧ r' = .int .u32 (v32 (crc p r (l.take k)))) (fun _ i => l.length - (intOf i).toNat)
  case atStart => exact ⟨0, Nat.zero_le _, rfl, rfl⟩
  case round =>
    obtain ⟨k, hk, rfl, rfl⟩ := hrel
    by_cases hlt : k < l.length
    · obtain ⟨ad, rfl⟩ : ∃ ad, A = some ad := by
        cases A with
        | none => rw [h3 rfl] at hlt; cases hlt
        | some ad => exact ⟨ad, rfl⟩
      obtain ⟨b, o, rfl, hc⟩ := h4 ad rfl k hlt
      have hc' : w.cell? ⟨b, o + k, none⟩ = some (.int .u8 (v8 l[k])) := hc
      clear hc
      go_wp2
      go_loop [0, 9] (fun r' i => ∃ j : Nat, j ≤ 8 ∧ i = .int .i64 j ∧ r' = .int .u32 (v32 (stN p j (crc p r (l.take k) ^^^ l[k].setWidth 32)))) (fun _ i => 8 - (intOf i).toNat)
      case atStart => exact ⟨0, Nat.zero_le _, rfl, rfl⟩
      case round =>
        obtain ⟨j, hj, rfl, rfl⟩ := hrel
        generalize hx : stN p j (crc p r (l.take k) ^^^ l[k].setWidth 32) = x
        have Hx := Lib.hid hx
        clear hx
        by_cases hlt2 : j < 8
        · cases hlow : x.getLsbD 0 with
          | true =>
            have hb : (v32 (x &&& 1#32) == 1) = true := by rw [and1_low, hlow]; rfl
            have hs : stp p x = x >>> 1 ^^^ p := by unfold stp; rw [hlow]; simp
            have Hs := Lib.hid hs
            clear hlow hs
            go_wp2
            go_round
            case rel => exact ⟨j + 1, by omega, by go_num, by rw [stN_succ, Hx.out, Hs.out]⟩
            case measure => simp [intOf]; omega
          | false =>
            have hb : (v32 (x &&& 1#32) == 1) = false := by rw [and1_low, hlow]; rfl
            have hs : stp p x = x >>> 1 := by unfold stp; rw [hlow]; simp
            have Hs := Lib.hid hs
            clear hlow hs
            go_wp2
            go_round
            case rel => exact ⟨j + 1, by omega, by go_num, by rw [stN_succ, Hx.out, Hs.out]⟩
            case measure => simp [intOf]; omega
        · obtain rfl : j = 8 := by omega
          have hn : crc p r (l.take (k + 1)) = x := by rw [take_snoc l k hlt, crc_append, ← Hx.out]; rfl
          have Hn := Lib.hid hn
          clear hn
          go_wp2
          go_round
          case rel => exact ⟨k + 1, by omega, by go_num, by rw [Hn.out]⟩
          case measure => simp [intOf]; omega
    · go_wp2
      go_ret
      exact ⟨by rw [List.take_of_length_le (by omega)]; rfl, rfl⟩
end Go.Proofs.Ytmfncddgbapocaa.F
