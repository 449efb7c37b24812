import Derived.Test.YtmfncddgbapocaaM
set_option linter.unusedVariables false
set_option linter.unusedSimpArgs false
namespace Go.Proofs.Ytmfncddgbapocaa.F
/-! A sum behind its bytes. -/
theorem stN_byte {n : Nat} (p : BitVec n) (c : BitVec 8) (j : Nat) (h : 8 * j + 8 ≤ n) : stN p (8 * j) (c.setWidth n <<< (8 * j)) = c.setWidth n := by
  rw [stN_low]
  · apply BitVec.eq_of_getLsbD_eq
    intro i hi
    simp only [BitVec.getLsbD_ushiftRight, BitVec.getLsbD_shiftLeft, BitVec.getLsbD_setWidth]
    by_cases h8 : i < 8
    · have h1 : 8 * j + i < n := by omega
      have h2 : ¬ 8 * j + i < 8 * j := by omega
      have h3 : 8 * j + i - 8 * j = i := by omega
      simp [h1, h2, h3]
    · rw [BitVec.getLsbD_of_ge c i (by omega), BitVec.getLsbD_of_ge c _ (by omega)]; simp
  · intro i hi
    simp only [BitVec.getLsbD_shiftLeft]
    simp [hi]
theorem stN_next {n : Nat} (p A : BitVec n) (c : BitVec 8) (j : Nat) (h : 8 * j + 8 ≤ n) : stN p 8 (stN p (8 * j) A ^^^ c.setWidth n) = stN p (8 * (j + 1)) (A ^^^ (c.setWidth n <<< (8 * j))) := by
  rw [show 8 * (j + 1) = 8 * j + 8 by omega, stN_add]
  congr 1
  rw [stN_xor, stN_byte p c j h]
theorem crc_two (p R x : BitVec 16) (c0 c1 : BitVec 8) (hx : c0.setWidth 16 ^^^ (c1.setWidth 16 <<< 8) = x) : crc p R [c0, c1] = stN p 16 (R ^^^ x) := by
  have h1 := stN_next p (R ^^^ c0.setWidth 16) c1 1 (by decide)
  rw [BitVec.xor_assoc, hx] at h1
  exact h1
theorem crc_four (p R x : BitVec 32) (c0 c1 c2 c3 : BitVec 8) (hx : c0.setWidth 32 ^^^ (c1.setWidth 32 <<< 8) ^^^ (c2.setWidth 32 <<< 16) ^^^ (c3.setWidth 32 <<< 24) = x) : crc p R [c0, c1, c2, c3] = stN p 32 (R ^^^ x) := by
  have h1 := stN_next p (R ^^^ c0.setWidth 32) c1 1 (by decide)
  have h2 := stN_next p (R ^^^ c0.setWidth 32 ^^^ c1.setWidth 32 <<< 8) c2 2 (by decide)
  have h3 := stN_next p (R ^^^ c0.setWidth 32 ^^^ c1.setWidth 32 <<< 8 ^^^ c2.setWidth 32 <<< 16) c3 3 (by decide)
  rw [show R ^^^ c0.setWidth 32 ^^^ c1.setWidth 32 <<< 8 ^^^ c2.setWidth 32 <<< 16 ^^^ c3.setWidth 32 <<< (8 * 3) = R ^^^ x by rw [← hx]; simp only [BitVec.xor_assoc]] at h3
  refine Eq.trans ?_ h3
  rw [show stN p (8 * 3) (R ^^^ c0.setWidth 32 ^^^ c1.setWidth 32 <<< 8 ^^^ c2.setWidth 32 <<< 16) = _ from h2.symm]
  rw [show stN p (8 * 2) (R ^^^ c0.setWidth 32 ^^^ c1.setWidth 32 <<< 8) = _ from h1.symm]
  rfl
theorem bytes16 (x : BitVec 32) : ((x >>> 0).setWidth 8).setWidth 16 ^^^ (((x >>> 8).setWidth 8).setWidth 16 <<< 8) = x.setWidth 16 := by
  apply BitVec.eq_of_getLsbD_eq
  intro i hi
  simp only [BitVec.getLsbD_xor, BitVec.getLsbD_shiftLeft, BitVec.getLsbD_setWidth, BitVec.getLsbD_ushiftRight]
  by_cases h : i < 8
  · simp [h, hi]
  · have h1 : i - 8 < 8 := by omega
    have h2 : 8 + (i - 8) = i := by omega
    simp [h, hi, h1, h2]; omega
theorem bytes32 (x : BitVec 32) : ((x >>> 0).setWidth 8).setWidth 32 ^^^ (((x >>> 8).setWidth 8).setWidth 32 <<< 8) ^^^ (((x >>> 16).setWidth 8).setWidth 32 <<< 16) ^^^ (((x >>> 24).setWidth 8).setWidth 32 <<< 24) = x := by
  apply BitVec.eq_of_getLsbD_eq
  intro i hi
  simp only [BitVec.getLsbD_xor, BitVec.getLsbD_shiftLeft, BitVec.getLsbD_setWidth, BitVec.getLsbD_ushiftRight]
  have h2 : 8 ≤ i → 8 + (i - 8) = i := by omega
  have h3 : 16 ≤ i → 16 + (i - 16) = i := by omega
  have h4 : 24 ≤ i → 24 + (i - 24) = i := by omega
  by_cases a : i < 8
  · simp [a, hi, show i < 16 by omega, show i < 24 by omega]
  · by_cases b : i < 16
    · simp [a, b, hi, show i < 24 by omega, show i - 8 < 8 by omega, show i - 8 < 32 by omega, h2 (by omega)]
    · by_cases c : i < 24
      · simp [a, b, c, hi, show ¬ i - 8 < 8 by omega, show i - 16 < 8 by omega, show i - 16 < 32 by omega, h3 (by omega)]
      · simp [a, b, c, hi, show ¬ i - 8 < 8 by omega, show ¬ i - 16 < 8 by omega, show i - 24 < 8 by omega, show i - 24 < 32 by omega, h4 (by omega)]
end Go.Proofs.Ytmfncddgbapocaa.F
