namespace Go.Proofs.Ytedhldcoddbbdaa.F
variable {n : Nat}
/-- one bit -/
def stp (p r : BitVec n) : BitVec n := (r >>> 1) ^^^ (if r.getLsbD 0 then p else 0#n)
theorem stp_xor (p a b : BitVec n) : stp p (a ^^^ b) = stp p a ^^^ stp p b := by
  unfold stp
  apply BitVec.eq_of_getLsbD_eq
  intro i hi
  simp only [BitVec.getLsbD_xor, BitVec.getLsbD_ushiftRight]
  cases a.getLsbD 0 <;> cases b.getLsbD 0 <;> simp <;> (try (cases a.getLsbD (1 + i) <;> cases b.getLsbD (1 + i) <;> cases p.getLsbD i <;> rfl))
theorem stp_zero (p : BitVec n) : stp p 0#n = 0#n := by simp [stp]
theorem stp_even (p r : BitVec n) (h : r.getLsbD 0 = false) : stp p r = r >>> 1 := by simp [stp, h]
def stN (p : BitVec n) : Nat → BitVec n → BitVec n
  | 0, r => r
  | k + 1, r => stN p k (stp p r)
theorem stN_xor (p : BitVec n) (k : Nat) : ∀ a b, stN p k (a ^^^ b) = stN p k a ^^^ stN p k b := by
  induction k with
  | zero => intro a b; rfl
  | succ k ih => intro a b; simp only [stN, stp_xor, ih]
theorem stN_zero (p : BitVec n) (k : Nat) : stN p k 0#n = 0#n := by
  induction k with
  | zero => rfl
  | succ k ih => simp only [stN, stp_zero, ih]
theorem stN_add (p : BitVec n) (j k : Nat) : ∀ r, stN p (j + k) r = stN p k (stN p j r) := by
  induction j with
  | zero => intro r; simp [stN]
  | succ j ih => intro r; rw [Nat.add_right_comm]; simp only [stN, ih]
theorem stN_low (p : BitVec n) (k : Nat) : ∀ r : BitVec n, (∀ i, i < k → r.getLsbD i = false) → stN p k r = r >>> k := by
  induction k with
  | zero => intro r _; simp [stN]
  | succ k ih =>
    intro r h
    simp only [stN, stp_even p r (h 0 (by omega))]
    rw [ih _ (fun i hi => by simp [h (1 + i) (by omega)])]
    apply BitVec.eq_of_getLsbD_eq
    intro i hi
    simp [show 1 + (k + i) = k + 1 + i by omega]
theorem split_mask (r m : BitVec n) : r = (r &&& ~~~m) ^^^ (r &&& m) := by
  apply BitVec.eq_of_getLsbD_eq
  intro i hi
  simp [hi]
  cases r[i] <;> cases m[i] <;> rfl
theorem nib (p r m : BitVec n) (hm : ∀ i, m.getLsbD i = decide (i < 4)) : stN p 4 r = (r >>> 4) ^^^ stN p 4 (r &&& m) := by
  have h := congrArg (stN p 4) (split_mask r m)
  rw [stN_xor, stN_low p 4 (r &&& ~~~m)] at h
  · rw [h]; congr 1
    apply BitVec.eq_of_getLsbD_eq
    intro i hi
    simp only [BitVec.getLsbD_ushiftRight, BitVec.getLsbD_and, BitVec.getLsbD_not, hm]
    by_cases h2 : 4 + i < n
    · simp [h2]
    · rw [BitVec.getLsbD_of_ge _ _ (by omega)]; simp
  · intro i hi
    simp [hm, hi]
theorem low4_16 : ∀ i, (15#16).getLsbD i = decide (i < 4) := by
  intro i
  by_cases h : i < 16
  · have : ∀ j : Fin 16, (15#16).getLsbD j = decide (j.val < 4) := by decide
    exact this ⟨i, h⟩
  · rw [BitVec.getLsbD_of_ge _ _ (by omega)]; simp; omega
theorem low4_32 : ∀ i, (15#32).getLsbD i = decide (i < 4) := by
  intro i
  by_cases h : i < 32
  · have : ∀ j : Fin 32, (15#32).getLsbD j = decide (j.val < 4) := by decide
    exact this ⟨i, h⟩
  · rw [BitVec.getLsbD_of_ge _ _ (by omega)]; simp; omega
theorem nib16 (p r : BitVec 16) : stN p 4 r = (r >>> 4) ^^^ stN p 4 (r &&& 15#16) := nib p r _ low4_16
theorem nib32 (p r : BitVec 32) : stN p 4 r = (r >>> 4) ^^^ stN p 4 (r &&& 15#32) := nib p r _ low4_32
/-- bytes -/
def bst (p r : BitVec n) (c : BitVec 8) : BitVec n := stN p 8 (r ^^^ c.setWidth n)
def crc (p r : BitVec n) (l : List (BitVec 8)) : BitVec n := l.foldl (bst p) r
theorem crc_append (p r : BitVec n) (a b : List (BitVec 8)) : crc p r (a ++ b) = crc p (crc p r a) b := by simp [crc]
theorem bst_xor (p r s : BitVec n) (c d : BitVec 8) : bst p (r ^^^ s) (c ^^^ d) = bst p r c ^^^ bst p s d := by
  unfold bst
  rw [← stN_xor]; congr 1
  apply BitVec.eq_of_getLsbD_eq
  intro i hi
  simp [BitVec.getLsbD_setWidth]
  cases r.getLsbD i <;> cases s.getLsbD i <;> cases c.getLsbD i <;> cases d.getLsbD i <;> simp
theorem crc_xor (p : BitVec n) : ∀ (a b : List (BitVec 8)) (r s : BitVec n), a.length = b.length → crc p (r ^^^ s) (List.zipWith (· ^^^ ·) a b) = crc p r a ^^^ crc p s b
  | [], [], r, s, _ => rfl
  | x :: a, y :: b, r, s, h => by
    have := crc_xor p a b (bst p r x) (bst p s y) (by simpa using h)
    simp only [List.zipWith_cons_cons]
    simp only [crc, List.foldl_cons] at this ⊢
    rw [bst_xor, this]
theorem crc_zeros (p : BitVec n) (k : Nat) : ∀ r : BitVec n, crc p r (List.replicate k 0#8) = stN p (8 * k) r := by
  induction k with
  | zero => intro r; rfl
  | succ k ih =>
    intro r
    rw [List.replicate_succ, show 8 * (k + 1) = 8 + 8 * k by omega, stN_add]
    simp only [crc, List.foldl_cons] at ih ⊢
    rw [ih]; simp [bst]
/-- with another register: as far as zeros go -/
theorem crc_reg (p : BitVec n) (l : List (BitVec 8)) (r s : BitVec n) : crc p (r ^^^ s) l = stN p (8 * l.length) r ^^^ crc p s l := by
  have h := crc_xor p (List.replicate l.length 0#8) l r s (by simp)
  rw [crc_zeros] at h
  rw [← h]; congr 1
  apply List.ext_getElem <;> simp
end Go.Proofs.Ytedhldcoddbbdaa.F
