import Derived.Test.YtedhldcoddbbdaaM
import Derived.Test.YtedhldcoddbbdaaK
import Derived.WalkKit
set_option linter.unusedVariables false
set_option linter.unusedSimpArgs false
set_option linter.unnecessarySimpa false
namespace Go.Proofs.Ytedhldcoddbbdaa.F
open Go.RowKit Go.Proofs.Ytedhldcoddbbdaa.K
/-- a register, a byte: as a number -/
def v16 (x : BitVec 16) : Int := (x.toNat : Int)
def v32 (x : BitVec 32) : Int := (x.toNat : Int)
theorem v16_range (x : BitVec 16) : 0 ≤ v16 x ∧ v16 x ≤ 65535 := by unfold v16; have := x.isLt; omega
theorem v32_range (x : BitVec 32) : 0 ≤ v32 x ∧ v32 x ≤ 4294967295 := by unfold v32; have := x.isLt; omega
theorem w16 (a : Nat) (h : a < 65536) : IntKind.u16.wrap (a : Int) = a := by simp [IntKind.wrap, IntKind.bits, IntKind.signed]; omega
theorem w32 (a : Nat) (h : a < 4294967296) : IntKind.u32.wrap (a : Int) = a := by simp [IntKind.wrap, IntKind.bits, IntKind.signed]; omega
theorem xor16 (a b : BitVec 16) : bits .xor .u16 (v16 a) (v16 b) = v16 (a ^^^ b) := by
  simp only [bits, v16, IntKind.bits, BitVec.ofInt_natCast, BitVec.ofNat_toNat, BitVec.setWidth_eq]
  exact w16 _ (a ^^^ b).isLt
theorem and16 (a : BitVec 16) : bits .and .u16 (v16 a) 15 = v16 (a &&& 15#16) := by
  simp only [bits, v16, IntKind.bits, BitVec.ofInt_natCast, BitVec.ofNat_toNat, BitVec.setWidth_eq]
  exact w16 _ (a &&& 15#16).isLt
theorem shr16 (a : BitVec 16) : v16 a / (16 : Int) = v16 (a >>> 4) := by
  simp only [v16, BitVec.toNat_ushiftRight, Nat.shiftRight_eq_div_pow]; omega
theorem not16 (a : BitVec 16) : Op.unary .xor (.int .u16 (v16 a)) = pure (.int .u16 (v16 (~~~a))) := by
  rw [unary_xor, intBits_xor]
  have h : (if IntKind.u16.signed then -1 else IntKind.u16.max) = v16 0xffff#16 := by decide
  rw [h, xor16]
  have : 0xffff#16 ^^^ a = ~~~a := BitVec.allOnes_xor
  rw [this]
theorem sh16 (a : BitVec 16) : Op.shift .shr .u16 (v16 a) .u64 4 = pure (.int .u16 (v16 (a >>> 4))) := by rw [shift_shr _ _ _ _ (by decide) (by decide)]; exact congrArg (fun x => pure (Value.int .u16 x)) (shr16 a)
theorem cv16 (c : BitVec 8) : v8 c = v16 (c.setWidth 16) := by
  simp only [v8, v16, BitVec.toNat_setWidth]; have := c.isLt; omega
theorem cv32_ (c : BitVec 8) : v8 c = v32 (c.setWidth 32) := by
  simp only [v8, v32, BitVec.toNat_setWidth]; have := c.isLt; omega
theorem cvw16 (c : BitVec 8) : IntKind.u16.wrap (v8 c) = v16 (c.setWidth 16) := by rw [cv16]; exact w16 _ (c.setWidth 16).isLt
theorem cvw32 (c : BitVec 8) : IntKind.u32.wrap (v8 c) = v32 (c.setWidth 32) := by rw [cv32_]; exact w32 _ (c.setWidth 32).isLt
theorem xor32 (a b : BitVec 32) : bits .xor .u32 (v32 a) (v32 b) = v32 (a ^^^ b) := by
  simp only [bits, v32, IntKind.bits, BitVec.ofInt_natCast, BitVec.ofNat_toNat, BitVec.setWidth_eq]
  exact w32 _ (a ^^^ b).isLt
theorem and32 (a : BitVec 32) : bits .and .u32 (v32 a) 15 = v32 (a &&& 15#32) := by
  simp only [bits, v32, IntKind.bits, BitVec.ofInt_natCast, BitVec.ofNat_toNat, BitVec.setWidth_eq]
  exact w32 _ (a &&& 15#32).isLt
theorem shr32 (a : BitVec 32) : v32 a / (16 : Int) = v32 (a >>> 4) := by
  simp only [v32, BitVec.toNat_ushiftRight, Nat.shiftRight_eq_div_pow]; omega
theorem shrN32 (a : BitVec 32) (n : Nat) : v32 a / (2 : Int) ^ n = v32 (a >>> n) := by
  simp only [v32, BitVec.toNat_ushiftRight, Nat.shiftRight_eq_div_pow]
  rw [Int.natCast_ediv, Int.natCast_pow]; rfl
theorem cv8_32 (a : BitVec 32) : IntKind.u8.wrap (v32 a) = v8 (a.setWidth 8) := by
  simp [IntKind.wrap, IntKind.bits, IntKind.signed, v32, v8, BitVec.toNat_setWidth]
theorem cv8_32' (a : BitVec 32) : v32 a % (256 : Int) = v8 (a.setWidth 8) := by
  simp [v32, v8, BitVec.toNat_setWidth]
theorem not32 (a : BitVec 32) : Op.unary .xor (.int .u32 (v32 a)) = pure (.int .u32 (v32 (~~~a))) := by
  rw [unary_xor, intBits_xor]
  have h : (if IntKind.u32.signed then -1 else IntKind.u32.max) = v32 0xffffffff#32 := by decide
  rw [h, xor32]
  have : 0xffffffff#32 ^^^ a = ~~~a := BitVec.allOnes_xor
  rw [this]
theorem sh32 (a : BitVec 32) : Op.shift .shr .u32 (v32 a) .u64 4 = pure (.int .u32 (v32 (a >>> 4))) := by rw [shift_shr _ _ _ _ (by decide) (by decide)]; exact congrArg (fun x => pure (Value.int .u32 x)) (shr32 a)
theorem le15_16 (a : BitVec 16) : 0 ≤ v16 (a &&& 15#16) ∧ v16 (a &&& 15#16) < 16 := by
  have : (a &&& 15#16).toNat ≤ 15 := by rw [BitVec.toNat_and]; exact Nat.and_le_right
  unfold v16; omega
theorem le15_32 (a : BitVec 32) : 0 ≤ v32 (a &&& 15#32) ∧ v32 (a &&& 15#32) < 16 := by
  have : (a &&& 15#32).toNat ≤ 15 := by rw [BitVec.toNat_and]; exact Nat.and_le_right
  unfold v32; omega
def P16 : BitVec 16 := 0x8408#16
def P32 : BitVec 32 := 0xedb88320#32
def T16 : List Int := [0, 4225, 8450, 12675, 16900, 21125, 25350, 29575, 33800, 38025, 42250, 46475, 50700, 54925, 59150, 63375]
def T32 : List Int := [0x00000000, 0x1db71064, 0x3b6e20c8, 0x26d930ac, 0x76dc4190, 0x6b6b51f4, 0x4db26158, 0x5005713c, 0xedb88320, 0xf00f9344, 0xd6d6a3e8, 0xcb61b38c, 0x9b64c2b0, 0x86d3d2d4, 0xa00ae278, 0xbdbdf21c]
theorem T16_at (a : BitVec 16) : T16.getD (v16 (a &&& 15#16)).toNat 0 = v16 (stN P16 4 (a &&& 15#16)) := by
  have h : ∀ i : Fin 16, T16.getD (v16 (BitVec.ofNat 16 i.val)).toNat 0 = v16 (stN P16 4 (BitVec.ofNat 16 i.val)) := by decide +kernel
  have hl : (a &&& 15#16).toNat < 16 := by have : (a &&& 15#16).toNat ≤ 15 := by { rw [BitVec.toNat_and]; exact Nat.and_le_right }; omega
  have := h ⟨_, hl⟩
  simpa using this
theorem T32_at (a : BitVec 32) : T32.getD (v32 (a &&& 15#32)).toNat 0 = v32 (stN P32 4 (a &&& 15#32)) := by
  have h : ∀ i : Fin 16, T32.getD (v32 (BitVec.ofNat 32 i.val)).toNat 0 = v32 (stN P32 4 (BitVec.ofNat 32 i.val)) := by decide +kernel
  have hl : (a &&& 15#32).toNat < 16 := by have : (a &&& 15#32).toNat ≤ 15 := by { rw [BitVec.toNat_and]; exact Nat.and_le_right }; omega
  have := h ⟨_, hl⟩
  simpa using this
end Go.Proofs.Ytedhldcoddbbdaa.F
