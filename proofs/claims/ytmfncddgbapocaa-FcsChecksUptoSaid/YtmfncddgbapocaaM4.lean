import Derived.Test.YtmfncddgbapocaaM
set_option linter.unusedVariables false
set_option linter.unusedSimpArgs false
namespace Go.Proofs.Ytmfncddgbapocaa.F
variable {n : Nat}
/-! Bits that are turned in a text. -/
theorem stp_inj0 (p r : BitVec n) (hn : 0 < n) (hp : p.getLsbD (n - 1) = true) (h : stp p r = 0#n) : r = 0#n := by
  unfold stp at h
  have h0 : r.getLsbD 0 = false := by
    have := congrArg (fun x => x.getLsbD (n - 1)) h
    simp only [BitVec.getLsbD_xor, BitVec.getLsbD_ushiftRight, BitVec.getLsbD_zero] at this
    rw [BitVec.getLsbD_of_ge r _ (by omega)] at this
    cases hr : r.getLsbD 0
    · rfl
    · rw [hr] at this; simp [hp] at this
  rw [h0] at h
  simp at h
  apply BitVec.eq_of_getLsbD_eq
  intro i hi
  cases i with
  | zero => rw [h0]; simp
  | succ i =>
    have := congrArg (fun x => x.getLsbD i) h
    simp only [BitVec.getLsbD_ushiftRight, BitVec.getLsbD_zero] at this
    rw [show 1 + i = i + 1 by omega] at this
    rw [this]; simp
theorem stN_inj0 (p : BitVec n) (hn : 0 < n) (hp : p.getLsbD (n - 1) = true) (k : Nat) : ∀ r, stN p k r = 0#n → r = 0#n := by
  induction k with
  | zero => intro r h; exact h
  | succ k ih => intro r h; exact stp_inj0 p r hn hp (ih _ h)
theorem xor_eq_self (a b : BitVec n) : a ^^^ b = a ↔ b = 0#n := by
  constructor
  · intro h
    apply BitVec.eq_of_getLsbD_eq
    intro i hi
    have := congrArg (fun x => x.getLsbD i) h
    simp only [BitVec.getLsbD_xor] at this
    cases ha : a.getLsbD i <;> cases hb : b.getLsbD i <;> rw [ha, hb] at this <;> simp_all
  · rintro rfl; simp
/-- one bit, low down, is moved out -/
theorem stN_one (p : BitVec n) (m : Nat) (hm : m < n) : stN p m (1#n <<< m) = 1#n := by
  rw [stN_low]
  · apply BitVec.eq_of_getLsbD_eq
    intro i hi
    simp only [BitVec.getLsbD_ushiftRight, BitVec.getLsbD_shiftLeft, BitVec.getLsbD_one]
    by_cases h : i = 0
    · subst h; simp [hm, hi]
    · by_cases h2 : m + i < n
      · simp [h2, h] <;> omega
      · simp [h2] <;> omega
  · intro i hi
    simp [hi]
theorem stN_shift (p : BitVec n) (N m : Nat) (hm : m < n) (h : m ≤ N) : stN p N (1#n <<< m) = stN p (N - m) 1#n := by
  rw [show N = m + (N - m) by omega, stN_add, stN_one p m hm]
  congr 1; omega
/-- a byte's bit -/
def bit8 (m : Nat) : BitVec 8 := 1#8 <<< m
theorem bst_bit (p : BitVec n) (hn : 8 ≤ n) (m : Nat) (hm : m < 8) : bst p 0#n (bit8 m) = stN p (8 - m) 1#n := by
  unfold bst bit8
  have : (0#n ^^^ (1#8 <<< m).setWidth n) = 1#n <<< m := by
    apply BitVec.eq_of_getLsbD_eq
    intro i hi
    simp only [BitVec.getLsbD_xor, BitVec.getLsbD_setWidth, BitVec.getLsbD_shiftLeft, BitVec.getLsbD_one, BitVec.getLsbD_zero]
    by_cases h8 : i < 8
    · simp [h8, hi, show 0 < n by omega]
    · simp [h8, hi] <;> omega
  rw [this, stN_shift p 8 m (by omega) (by omega)]
/-- a text with a bit turned -/
def flip (l : List (BitVec 8)) (k : Nat) : List (BitVec 8) := l.set (k / 8) (l.getD (k / 8) 0#8 ^^^ bit8 (k % 8))
theorem flip_length (l : List (BitVec 8)) (k : Nat) : (flip l k).length = l.length := by simp [flip]
theorem crc_flip (p r : BitVec n) (hn : 8 ≤ n) (l : List (BitVec 8)) (k : Nat) (hk : k < 8 * l.length) : crc p r (flip l k) = crc p r l ^^^ stN p (8 * l.length - k) 1#n := by
  have hj : k / 8 < l.length := by omega
  have e1 : l = l.take (k / 8) ++ l[k / 8] :: l.drop (k / 8 + 1) := by simp
  have e2 : flip l k = l.take (k / 8) ++ (l[k / 8] ^^^ bit8 (k % 8)) :: l.drop (k / 8 + 1) := by
    unfold flip
    rw [List.set_eq_take_append_cons_drop, if_pos hj]
    simp [List.getElem?_eq_getElem hj]
  rw [e2]
  conv => rhs; lhs; rw [e1]
  rw [crc_append, crc_append]
  generalize crc p r (l.take (k / 8)) = R
  simp only [crc, List.foldl_cons]
  have h1 : bst p R (l[k / 8] ^^^ bit8 (k % 8)) = stN p (8 - k % 8) 1#n ^^^ bst p R l[k / 8] := by
    have := bst_xor p R 0#n l[k / 8] (bit8 (k % 8))
    rw [bst_bit p hn (k % 8) (by omega)] at this
    simp only [BitVec.xor_zero] at this
    rw [this, BitVec.xor_comm]
  rw [h1]
  have h2 := crc_reg p (l.drop (k / 8 + 1)) (stN p (8 - k % 8) 1#n) (bst p R l[k / 8])
  simp only [crc] at h2
  rw [h2, BitVec.xor_comm, ← stN_add]
  congr 2
  simp; omega
/-- the bits of a change that fall within -/
def word (by_ : BitVec 32) (N : Nat) : Nat → BitVec n
  | 0 => 0#n
  | i + 1 => word by_ N i ^^^ (if by_.getLsbD i && decide (i < n) && decide (i < N) then 1#n <<< i else 0#n)
/-- the text behind i rounds -/
def turned (w : Nat) (by_ : BitVec 32) (at_ : Nat) (l : List (BitVec 8)) : Nat → List (BitVec 8)
  | 0 => l
  | i + 1 => if by_.getLsbD i && decide (i < w) && decide (at_ + i < 8 * l.length) then flip (turned w by_ at_ l i) (at_ + i) else turned w by_ at_ l i
theorem turned_length (w : Nat) (by_ : BitVec 32) (at_ : Nat) (l : List (BitVec 8)) (i : Nat) : (turned w by_ at_ l i).length = l.length := by
  induction i with
  | zero => rfl
  | succ i ih => simp only [turned]; split <;> simp [flip_length, ih]
theorem crc_turned (p r : BitVec n) (hn : 8 ≤ n) (by_ : BitVec 32) (at_ : Nat) (l : List (BitVec 8)) (hat : at_ < 8 * l.length) (i : Nat) : crc p r (turned n by_ at_ l i) = crc p r l ^^^ stN p (8 * l.length - at_) (word by_ (8 * l.length - at_) i) := by
  induction i with
  | zero => simp [turned, word, stN_zero]
  | succ i ih =>
    simp only [turned, word]
    have e : (decide (at_ + i < 8 * l.length)) = decide (i < 8 * l.length - at_) := by rw [decide_eq_decide]; omega
    rw [e]
    split
    · rename_i h
      simp only [Bool.and_eq_true, decide_eq_true_eq] at h
      rw [crc_flip p r hn _ _ (by rw [turned_length]; omega), ih, turned_length, stN_xor, BitVec.xor_assoc]
      congr 2
      rw [stN_shift p _ i h.1.2 (by omega)]
      congr 1; omega
    · rename_i h
      rw [ih]; simp [stN_zero]
theorem word_bit (by_ : BitVec 32) (N : Nat) (i : Nat) : ∀ j, j < n → (word by_ N i : BitVec n).getLsbD j = (decide (j < i) && by_.getLsbD j && decide (j < N)) := by
  induction i with
  | zero => intro j hj; simp [word]
  | succ i ih =>
    intro j hj
    simp only [word, BitVec.getLsbD_xor, ih j hj]
    by_cases hij : j = i
    · subst hij
      simp [hj]
      cases by_.getLsbD j <;> by_cases hN : j < N <;> simp [hN, hj]
    · have h1 : decide (j < i + 1) = decide (j < i) := by rw [decide_eq_decide]; omega
      rw [h1]
      have h2 : (if by_.getLsbD i && decide (i < n) && decide (i < N) then 1#n <<< i else 0#n).getLsbD j = false := by
        split
        · simp only [BitVec.getLsbD_shiftLeft, BitVec.getLsbD_one]
          by_cases hlt : j < i
          · simp [hlt]
          · simp; omega
        · simp
      rw [h2]; simp
/-- is one turned, in i rounds? -/
def anyTurned (w : Nat) (by_ : BitVec 32) (N : Nat) : Nat → Bool
  | 0 => false
  | i + 1 => anyTurned w by_ N i || (by_.getLsbD i && decide (i < w) && decide (i < N))
theorem word_zero (by_ : BitVec 32) (N : Nat) (i : Nat) : decide ((word by_ N i : BitVec n) ≠ 0#n) = anyTurned n by_ N i := by
  induction i with
  | zero => simp [word, anyTurned]
  | succ i ih =>
    simp only [anyTurned, ← ih]
    by_cases hc : (by_.getLsbD i && decide (i < n) && decide (i < N)) = true
    · rw [hc, Bool.or_true]
      simp only [Bool.and_eq_true, decide_eq_true_eq] at hc
      rw [decide_eq_true_eq]
      intro e
      have := congrArg (fun x => x.getLsbD i) e
      simp only [word_bit by_ N (i + 1) i hc.1.2, hc.1.1, BitVec.getLsbD_zero] at this
      simp at this
      omega
    · have hc' : (by_.getLsbD i && decide (i < n) && decide (i < N)) = false := by simpa using hc
      rw [hc']
      simp [word, hc']
theorem burst (p r : BitVec n) (hn : 8 ≤ n) (hp : p.getLsbD (n - 1) = true) (by_ : BitVec 32) (at_ : Nat) (l : List (BitVec 8)) (hat : at_ < 8 * l.length) (i : Nat) : decide (crc p r (turned n by_ at_ l i) ≠ crc p r l) = anyTurned n by_ (8 * l.length - at_) i := by
  rw [crc_turned p r hn by_ at_ l hat, ← word_zero]
  rw [decide_eq_decide]
  apply not_congr
  rw [xor_eq_self]
  exact ⟨stN_inj0 p (by omega) hp _ _, fun h => by rw [h, stN_zero]⟩
end Go.Proofs.Ytmfncddgbapocaa.F
