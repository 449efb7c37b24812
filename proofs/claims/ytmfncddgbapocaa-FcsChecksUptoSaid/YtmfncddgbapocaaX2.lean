import Derived.Test.YtmfncddgbapocaaX1
import Derived.Test.YtmfncddgbapocaaW8
set_option linter.unusedVariables false
set_option linter.unusedSimpArgs false
namespace Go.Proofs.Ytmfncddgbapocaa.F
open Go.RowKit Go.Proofs.Ytmfncddgbapocaa.K
theorem stp_widen (p r : BitVec 16) : stp (p.setWidth 32) (r.setWidth 32) = (stp p r).setWidth 32 := by
  unfold stp
  apply BitVec.eq_of_getLsbD_eq
  intro i hi
  simp only [BitVec.getLsbD_xor, BitVec.getLsbD_ushiftRight, BitVec.getLsbD_setWidth]
  have h0 : (decide (0 < 32) && r.getLsbD 0) = r.getLsbD 0 := by simp
  rw [h0]
  have e1 : (decide (1 + i < 32) && r.getLsbD (1 + i)) = (decide (i < 32) && r.getLsbD (1 + i)) := by
    by_cases h : 1 + i < 32
    · simp [h, hi]
    · rw [BitVec.getLsbD_of_ge r _ (by omega)]; simp
  rw [e1]
  cases r.getLsbD 0 <;> simp [hi, BitVec.getLsbD_setWidth]
theorem stN_widen (p : BitVec 16) (k : Nat) : ∀ r, stN (p.setWidth 32) k (r.setWidth 32) = (stN p k r).setWidth 32 := by
  induction k with
  | zero => intro r; rfl
  | succ k ih => intro r; simp only [stN, stp_widen, ih]
theorem xor_widen (r : BitVec 16) (c : BitVec 8) : r.setWidth 32 ^^^ c.setWidth 32 = (r ^^^ c.setWidth 16).setWidth 32 := by
    apply BitVec.eq_of_getLsbD_eq
    intro i hi
    simp only [BitVec.getLsbD_xor, BitVec.getLsbD_setWidth]
    by_cases h : i < 16
    · simp [h, hi]
    · rw [BitVec.getLsbD_of_ge r _ (by omega), BitVec.getLsbD_of_ge c _ (by omega)]; simp
theorem crc_widen (p : BitVec 16) (l : List (BitVec 8)) : ∀ r, crc (p.setWidth 32) (r.setWidth 32) l = (crc p r l).setWidth 32 := by
  induction l with
  | nil => intro r; rfl
  | cons c l ih =>
    intro r
    simp only [crc, List.foldl_cons] at ih ⊢
    rw [← ih]
    have e : bst (p.setWidth 32) (r.setWidth 32) c = (bst p r c).setWidth 32 := by
      unfold bst
      rw [← stN_widen]
      rw [← xor_widen]
    rw [e]
theorem crc16_eq (r : BitVec 16) (l : List (BitVec 8)) : (crc (33800#32) (r.setWidth 32) l).setWidth 16 = crc P16 r l := by
  have := crc_widen P16 l r
  rw [show P16.setWidth 32 = 33800#32 from rfl] at this
  rw [this]
  apply BitVec.eq_of_getLsbD_eq
  intro i hi
  simp only [BitVec.getLsbD_setWidth]
  simp [hi]; omega
attribute [local go_sem high] cv32_16 cv16_32
theorem refOn16 (r : BitVec 16) (l : List (BitVec 8)) (v : Value) (w : World) (h : BytesAt w v l) :
  Calls Try.prog 31 #[.int .u16 (v16 r), v] w fun e w' => e = .returned (.int .u16 (v16 (crc P16 r l))) ∧ w' = w := by
  have hm := crc16_eq r l
  go_enter Try.func31, Try.ntmps31
  go_wp2_with (go_at_call 46; refine (refOn (r.setWidth 32) 33800#32 l _ _ h).mono ?_; rintro e w1 ⟨rfl, rfl⟩)
  go_ret
  exact ⟨rfl, rfl⟩
theorem refOn32 (r : BitVec 32) (l : List (BitVec 8)) (v : Value) (w : World) (h : BytesAt w v l) :
  Calls Try.prog 32 #[.int .u32 (v32 r), v] w fun e w' => e = .returned (.int .u32 (v32 (crc P32 r l))) ∧ w' = w := by
  go_enter Try.func32, Try.ntmps32
  go_wp2_with (go_at_call 46; refine (refOn r 3988292384#32 l _ _ h).mono ?_; rintro e w1 ⟨rfl, rfl⟩)
  go_ret
  exact ⟨rfl, rfl⟩
theorem xor_not16 (a : BitVec 16) : bits .xor .u16 65535 (v16 a) = v16 (~~~a) := by
  have h : (65535 : Int) = v16 0xffff#16 := by decide
  rw [h, xor16]
  have : 0xffff#16 ^^^ a = ~~~a := BitVec.allOnes_xor
  rw [this]
theorem xor_not32 (a : BitVec 32) : bits .xor .u32 4294967295 (v32 a) = v32 (~~~a) := by
  have h : (4294967295 : Int) = v32 0xffffffff#32 := by decide
  rw [h, xor32]
  have : 0xffffffff#32 ^^^ a = ~~~a := BitVec.allOnes_xor
  rw [this]
theorem s16_eq (l : List (BitVec 8)) : ~~~ crc P16 0xffff#16 l = s16 l := rfl
theorem s32_eq (l : List (BitVec 8)) : ~~~ crc P32 0xffffffff#32 l = s32 l := rfl
attribute [local go_sem high] xor_not16 xor_not32 s16_eq s32_eq
theorem refSum16 (l : List (BitVec 8)) (v : Value) (w : World) (h : BytesAt w v l) :
  Calls Try.prog 26 #[v] w fun e w' => e = .returned (.int .u16 (v16 (s16 l))) ∧ w' = w := by
  go_enter Try.func26, Try.ntmps26
  go_wp2_with (go_at_call 31; refine (refOn16 0xffff#16 l _ _ h).mono ?_; rintro e w1 ⟨rfl, rfl⟩)
  go_ret
  exact ⟨rfl, rfl⟩
theorem refSum32 (l : List (BitVec 8)) (v : Value) (w : World) (h : BytesAt w v l) :
  Calls Try.prog 27 #[v] w fun e w' => e = .returned (.int .u32 (v32 (s32 l))) ∧ w' = w := by
  go_enter Try.func27, Try.ntmps27
  go_wp2_with (go_at_call 32; refine (refOn32 0xffffffff#32 l _ _ h).mono ?_; rintro e w1 ⟨rfl, rfl⟩)
  go_ret
  exact ⟨rfl, rfl⟩
end Go.Proofs.Ytmfncddgbapocaa.F
