import Derived.Test.YtedhldcoddbbdaaR3
set_option linter.unusedVariables false
set_option linter.unusedSimpArgs false
set_option linter.unnecessarySimpa false
/- Plain: a good sum, a bit that is turned, a text that is escaped and fed. -/
namespace Go.Proofs.Ytedhldcoddbbdaa.F
section

/-! A sum behind its bytes. -/
theorem stN_byte {n : Nat} (p : BitVec n) (c : BitVec 8) (j : Nat) (h : 8 * j + 8 ≤ n) : stN p (8 * j) (c.setWidth n <<< (8 * j)) = c.setWidth n := by
  rw [stN_low]
  · apply BitVec.eq_of_getLsbD_eq
    intro i hi
    simp only [BitVec.getLsbD_ushiftRight, BitVec.getLsbD_shiftLeft, BitVec.getLsbD_setWidth]
    by_cases h8 : i < 8
    · have h1 : 8 * j + i < n := by omega
      have h2 : ¬ 8 * j + i < 8 * j := by omega
      have h3 : 8 * j + i - 8 * j = i := by omega
      simp [h1, h2, h3]
    · rw [BitVec.getLsbD_of_ge c i (by omega), BitVec.getLsbD_of_ge c _ (by omega)]; simp
  · intro i hi
    simp only [BitVec.getLsbD_shiftLeft]
    simp [hi]
theorem stN_next {n : Nat} (p A : BitVec n) (c : BitVec 8) (j : Nat) (h : 8 * j + 8 ≤ n) : stN p 8 (stN p (8 * j) A ^^^ c.setWidth n) = stN p (8 * (j + 1)) (A ^^^ (c.setWidth n <<< (8 * j))) := by
  rw [show 8 * (j + 1) = 8 * j + 8 by omega, stN_add]
  congr 1
  rw [stN_xor, stN_byte p c j h]
theorem crc_two (p R x : BitVec 16) (c0 c1 : BitVec 8) (hx : c0.setWidth 16 ^^^ (c1.setWidth 16 <<< 8) = x) : crc p R [c0, c1] = stN p 16 (R ^^^ x) := by
  have h1 := stN_next p (R ^^^ c0.setWidth 16) c1 1 (by decide)
  rw [BitVec.xor_assoc, hx] at h1
  exact h1
theorem crc_four (p R x : BitVec 32) (c0 c1 c2 c3 : BitVec 8) (hx : c0.setWidth 32 ^^^ (c1.setWidth 32 <<< 8) ^^^ (c2.setWidth 32 <<< 16) ^^^ (c3.setWidth 32 <<< 24) = x) : crc p R [c0, c1, c2, c3] = stN p 32 (R ^^^ x) := by
  have h1 := stN_next p (R ^^^ c0.setWidth 32) c1 1 (by decide)
  have h2 := stN_next p (R ^^^ c0.setWidth 32 ^^^ c1.setWidth 32 <<< 8) c2 2 (by decide)
  have h3 := stN_next p (R ^^^ c0.setWidth 32 ^^^ c1.setWidth 32 <<< 8 ^^^ c2.setWidth 32 <<< 16) c3 3 (by decide)
  rw [show R ^^^ c0.setWidth 32 ^^^ c1.setWidth 32 <<< 8 ^^^ c2.setWidth 32 <<< 16 ^^^ c3.setWidth 32 <<< (8 * 3) = R ^^^ x by rw [← hx]; simp only [BitVec.xor_assoc]] at h3
  refine Eq.trans ?_ h3
  rw [show stN p (8 * 3) (R ^^^ c0.setWidth 32 ^^^ c1.setWidth 32 <<< 8 ^^^ c2.setWidth 32 <<< 16) = _ from h2.symm]
  rw [show stN p (8 * 2) (R ^^^ c0.setWidth 32 ^^^ c1.setWidth 32 <<< 8) = _ from h1.symm]
  rfl
theorem bytes16 (x : BitVec 32) : ((x >>> 0).setWidth 8).setWidth 16 ^^^ (((x >>> 8).setWidth 8).setWidth 16 <<< 8) = x.setWidth 16 := by
  apply BitVec.eq_of_getLsbD_eq
  intro i hi
  simp only [BitVec.getLsbD_xor, BitVec.getLsbD_shiftLeft, BitVec.getLsbD_setWidth, BitVec.getLsbD_ushiftRight]
  by_cases h : i < 8
  · simp [h, hi]
  · have h1 : i - 8 < 8 := by omega
    have h2 : 8 + (i - 8) = i := by omega
    simp [h, hi, h1, h2]; omega
theorem bytes32 (x : BitVec 32) : ((x >>> 0).setWidth 8).setWidth 32 ^^^ (((x >>> 8).setWidth 8).setWidth 32 <<< 8) ^^^ (((x >>> 16).setWidth 8).setWidth 32 <<< 16) ^^^ (((x >>> 24).setWidth 8).setWidth 32 <<< 24) = x := by
  apply BitVec.eq_of_getLsbD_eq
  intro i hi
  simp only [BitVec.getLsbD_xor, BitVec.getLsbD_shiftLeft, BitVec.getLsbD_setWidth, BitVec.getLsbD_ushiftRight]
  have h2 : 8 ≤ i → 8 + (i - 8) = i := by omega
  have h3 : 16 ≤ i → 16 + (i - 16) = i := by omega
  have h4 : 24 ≤ i → 24 + (i - 24) = i := by omega
  by_cases a : i < 8
  · simp [a, hi, show i < 16 by omega, show i < 24 by omega]
  · by_cases b : i < 16
    · simp [a, b, hi, show i < 24 by omega, show i - 8 < 8 by omega, show i - 8 < 32 by omega, h2 (by omega)]
    · by_cases c : i < 24
      · simp [a, b, c, hi, show ¬ i - 8 < 8 by omega, show i - 16 < 8 by omega, show i - 16 < 32 by omega, h3 (by omega)]
      · simp [a, b, c, hi, show ¬ i - 8 < 8 by omega, show ¬ i - 16 < 8 by omega, show i - 24 < 8 by omega, show i - 24 < 32 by omega, h4 (by omega)]

end
section
variable {n : Nat}
/-! Bits that are turned in a text. -/
theorem stp_inj0 (p r : BitVec n) (hn : 0 < n) (hp : p.getLsbD (n - 1) = true) (h : stp p r = 0#n) : r = 0#n := by
  unfold stp at h
  have h0 : r.getLsbD 0 = false := by
    have := congrArg (fun x => x.getLsbD (n - 1)) h
    simp only [BitVec.getLsbD_xor, BitVec.getLsbD_ushiftRight, BitVec.getLsbD_zero] at this
    rw [BitVec.getLsbD_of_ge r _ (by omega)] at this
    cases hr : r.getLsbD 0
    · rfl
    · rw [hr] at this; simp [hp] at this
  rw [h0] at h
  simp at h
  apply BitVec.eq_of_getLsbD_eq
  intro i hi
  cases i with
  | zero => rw [h0]; simp
  | succ i =>
    have := congrArg (fun x => x.getLsbD i) h
    simp only [BitVec.getLsbD_ushiftRight, BitVec.getLsbD_zero] at this
    rw [show 1 + i = i + 1 by omega] at this
    rw [this]; simp
theorem stN_inj0 (p : BitVec n) (hn : 0 < n) (hp : p.getLsbD (n - 1) = true) (k : Nat) : ∀ r, stN p k r = 0#n → r = 0#n := by
  induction k with
  | zero => intro r h; exact h
  | succ k ih => intro r h; exact stp_inj0 p r hn hp (ih _ h)
theorem xor_eq_self (a b : BitVec n) : a ^^^ b = a ↔ b = 0#n := by
  constructor
  · intro h
    apply BitVec.eq_of_getLsbD_eq
    intro i hi
    have := congrArg (fun x => x.getLsbD i) h
    simp only [BitVec.getLsbD_xor] at this
    cases ha : a.getLsbD i <;> cases hb : b.getLsbD i <;> rw [ha, hb] at this <;> simp_all
  · rintro rfl; simp
/-- one bit, low down, is moved out -/
theorem stN_one (p : BitVec n) (m : Nat) (hm : m < n) : stN p m (1#n <<< m) = 1#n := by
  rw [stN_low]
  · apply BitVec.eq_of_getLsbD_eq
    intro i hi
    simp only [BitVec.getLsbD_ushiftRight, BitVec.getLsbD_shiftLeft, BitVec.getLsbD_one]
    by_cases h : i = 0
    · subst h; simp [hm, hi]
    · by_cases h2 : m + i < n
      · simp [h2, h] <;> omega
      · simp [h2] <;> omega
  · intro i hi
    simp [hi]
theorem stN_shift (p : BitVec n) (N m : Nat) (hm : m < n) (h : m ≤ N) : stN p N (1#n <<< m) = stN p (N - m) 1#n := by
  rw [show N = m + (N - m) by omega, stN_add, stN_one p m hm]
  congr 1; omega
/-- a byte's bit -/
def bit8 (m : Nat) : BitVec 8 := 1#8 <<< m
theorem bst_bit (p : BitVec n) (hn : 8 ≤ n) (m : Nat) (hm : m < 8) : bst p 0#n (bit8 m) = stN p (8 - m) 1#n := by
  unfold bst bit8
  have : (0#n ^^^ (1#8 <<< m).setWidth n) = 1#n <<< m := by
    apply BitVec.eq_of_getLsbD_eq
    intro i hi
    simp only [BitVec.getLsbD_xor, BitVec.getLsbD_setWidth, BitVec.getLsbD_shiftLeft, BitVec.getLsbD_one, BitVec.getLsbD_zero]
    by_cases h8 : i < 8
    · simp [h8, hi, show 0 < n by omega]
    · simp [h8, hi] <;> omega
  rw [this, stN_shift p 8 m (by omega) (by omega)]
/-- a text with a bit turned -/
def flip (l : List (BitVec 8)) (k : Nat) : List (BitVec 8) := l.set (k / 8) (l.getD (k / 8) 0#8 ^^^ bit8 (k % 8))
theorem flip_length (l : List (BitVec 8)) (k : Nat) : (flip l k).length = l.length := by simp [flip]
theorem crc_flip (p r : BitVec n) (hn : 8 ≤ n) (l : List (BitVec 8)) (k : Nat) (hk : k < 8 * l.length) : crc p r (flip l k) = crc p r l ^^^ stN p (8 * l.length - k) 1#n := by
  have hj : k / 8 < l.length := by omega
  have e1 : l = l.take (k / 8) ++ l[k / 8] :: l.drop (k / 8 + 1) := by simp
  have e2 : flip l k = l.take (k / 8) ++ (l[k / 8] ^^^ bit8 (k % 8)) :: l.drop (k / 8 + 1) := by
    unfold flip
    rw [List.set_eq_take_append_cons_drop, if_pos hj]
    simp [List.getElem?_eq_getElem hj]
  rw [e2]
  conv => rhs; lhs; rw [e1]
  rw [crc_append, crc_append]
  generalize crc p r (l.take (k / 8)) = R
  simp only [crc, List.foldl_cons]
  have h1 : bst p R (l[k / 8] ^^^ bit8 (k % 8)) = stN p (8 - k % 8) 1#n ^^^ bst p R l[k / 8] := by
    have := bst_xor p R 0#n l[k / 8] (bit8 (k % 8))
    rw [bst_bit p hn (k % 8) (by omega)] at this
    simp only [BitVec.xor_zero] at this
    rw [this, BitVec.xor_comm]
  rw [h1]
  have h2 := crc_reg p (l.drop (k / 8 + 1)) (stN p (8 - k % 8) 1#n) (bst p R l[k / 8])
  simp only [crc] at h2
  rw [h2, BitVec.xor_comm, ← stN_add]
  congr 2
  simp; omega

end
theorem xor_not_self {n : Nat} (r : BitVec n) : r ^^^ ~~~r = BitVec.allOnes n := by
  apply BitVec.eq_of_getLsbD_eq
  intro i hi
  simp [hi]
theorem good_sumL (l : List (BitVec 8)) : good16 (sumL l) = true := by
  unfold good16 sumL
  rw [crc_append, decide_eq_true_iff]
  have hx := bytes16 ((s16 l).setWidth 32)
  have narrow : ((s16 l).setWidth 32).setWidth 16 = s16 l := by
    apply BitVec.eq_of_getLsbD_eq
    intro i hi
    simp [hi]
  rw [narrow] at hx
  rw [show sb ((s16 l).setWidth 32) 2 = [((s16 l).setWidth 32 >>> 0).setWidth 8, ((s16 l).setWidth 32 >>> 8).setWidth 8] from rfl, crc_two P16 _ _ _ _ hx]
  unfold s16
  rw [xor_not_self]
  decide +kernel
theorem bad_flip (l : List (BitVec 8)) (hg : good16 l = true) (k : Nat) (hk : k < 8 * l.length) : good16 (flip l k) = false := by
  unfold good16 at *
  rw [decide_eq_true_iff] at hg
  rw [decide_eq_false_iff_not, crc_flip P16 _ (by omega) l k hk, hg]
  intro h
  have h2 := (xor_eq_self _ _).1 h
  have := stN_inj0 P16 (by omega) (by decide) _ _ h2
  exact absurd this (by decide)
theorem drop0 : dropF 0 = fun _ => false := by
  funext i
  unfold dropF bitB
  simp
theorem esc0 : ∀ c : BitVec 8, (if mk 0 c.toNat then (c ^^^ 32#8 ≠ 126#8 ∧ c ^^^ 32#8 ≠ 125#8) else (c ≠ 126#8 ∧ c ≠ 125#8)) := by decide +kernel
theorem xor3232 (c : BitVec 8) : c ^^^ 32#8 ^^^ 32#8 = c := by rw [BitVec.xor_assoc]; simp
theorem feed_esc1 (d : Ln) (hd : ∀ i, d.drop i = false) (he : d.esc = false) (c : BitVec 8) (hl : (d.l.length : Int) ≤ d.mru + 6) : ∃ x, x ≠ 125#8 ∧ feedL d (esc1 0 c) = ({ d with any := true, last := x, l := d.l ++ [c] }, []) := by
  have h := esc0 c
  unfold esc1
  cases hm : mk 0 c.toNat
  · rw [hm] at h
    simp only [Bool.false_eq_true, if_false] at h ⊢
    refine ⟨c, h.2, ?_⟩
    simp [feedL, stepL, h.1, Ln.put, hd, he, h.2, hl]
  · rw [hm] at h
    simp only [if_true] at h ⊢
    refine ⟨c ^^^ 32#8, h.2, ?_⟩
    simp [feedL, stepL, h.1, Ln.put, hd, he, hl, xor3232]
theorem feed_escL (l : List (BitVec 8)) (d : Ln) (hd : ∀ i, d.drop i = false) (he : d.esc = false) (hl : ((d.l.length + l.length : Nat) : Int) ≤ d.mru + 7) (hx : d.last ≠ 125#8) : ∃ x, x ≠ 125#8 ∧ feedL d (escL 0 l) = ({ d with any := d.any || !l.isEmpty, last := x, l := d.l ++ l }, []) := by
  induction l generalizing d with
  | nil => exact ⟨d.last, hx, by simp [escL, feedL]⟩
  | cons c r ih =>
    simp only [List.length_cons] at hl
    obtain ⟨x1, h1, h2⟩ := feed_esc1 d hd he c (by omega)
    obtain ⟨x2, h3, h4⟩ := ih { d with any := true, last := x1, l := d.l ++ [c] } hd he (by simp only [List.length_append, List.length_cons, List.length_nil]; omega) h1
    refine ⟨x2, h3, ?_⟩
    rw [show escL 0 (c :: r) = esc1 0 c ++ escL 0 r by simp [escL], feedL_append, h2, h4]
    simp
theorem told_plain (B : List (BitVec 8)) (k : Nat) (hg : good16 B = true) (h4 : 4 ≤ B.length) (hl : B.length ≤ 16390) (hk : k < 8 * B.length) : feedL (Ln.start 16384 (dropF 0) true true) ([126#8] ++ escL 0 (flip B k) ++ [126#8]) = ({ Ln.start 16384 (dropF 0) true true with c3 := 1 }, []) := by
  have hb := bad_flip B hg k hk
  have hfl := flip_length B k
  generalize flip B k = C at *
  rw [drop0]
  have h0 : feedL (Ln.start 16384 (fun _ => false) true true) [126#8] = (Ln.start 16384 (fun _ => false) true true, []) := by
    simp [feedL, stepL, Ln.fin, Ln.start, Ln.reset]
  obtain ⟨x, hx1, hx2⟩ := feed_escL C (Ln.start 16384 (fun _ => false) true true) (fun _ => rfl) rfl (by simp [Ln.start]; omega) (by decide)
  rw [feedL_append, feedL_append, h0]
  dsimp only
  rw [hx2]
  have hne : C ≠ [] := fun e => by rw [e] at hfl; simp at hfl; omega
  have hie : C.isEmpty = false := by cases C <;> simp_all
  have q1 : ¬ C.length < 4 := by omega
  have q2 : ¬ (16384 + 6 : Int) < (C.length : Int) := by omega
  simp only [feedL, stepL, if_true]
  unfold Ln.fin
  simp [Ln.start, hie, hx1, q1, hb, Ln.reset]
  have : ¬ (16390 : Int) < (C.length : Int) := by omega
  simp [this, Go.RowKit.wrap64]
end Go.Proofs.Ytedhldcoddbbdaa.F
