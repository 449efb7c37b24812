import Derived.Test.YtmfncddgbapocaaM
set_option linter.unusedVariables false
set_option linter.unusedSimpArgs false
namespace Go.Proofs.Ytmfncddgbapocaa.F
/-! A matrix of columns times a vector; the step's matrices. -/
def sumTo (M : List (BitVec 32)) (V : BitVec 32) : Nat → BitVec 32
  | 0 => 0#32
  | k + 1 => sumTo M V k ^^^ (if V.getLsbD k then M.getD k 0#32 else 0#32)
def tms (M : List (BitVec 32)) (V : BitVec 32) : BitVec 32 := sumTo M V 32
structure Lin (f : BitVec 32 → BitVec 32) : Prop where
  zero : f 0#32 = 0#32
  xor : ∀ a b, f (a ^^^ b) = f a ^^^ f b
def isMat (M : List (BitVec 32)) (f : BitVec 32 → BitVec 32) : Prop := M.length = 32 ∧ ∀ k, k < 32 → M.getD k 0#32 = f (1#32 <<< k)
/-- the lowest k bits -/
def low (V : BitVec 32) : Nat → BitVec 32
  | 0 => 0#32
  | k + 1 => low V k ^^^ (if V.getLsbD k then 1#32 <<< k else 0#32)
theorem low_bit (V : BitVec 32) (k : Nat) : k ≤ 32 → ∀ i, i < 32 → (low V k).getLsbD i = (decide (i < k) && V.getLsbD i) := by
  induction k with
  | zero => intro _ i hi; simp [low]
  | succ k ih =>
    intro hk i hi
    simp only [low, BitVec.getLsbD_xor, ih (by omega) i hi]
    by_cases hik : i = k
    · subst hik
      cases V.getLsbD i <;> simp [hi]
    · have h1 : decide (i < k + 1) = decide (i < k) := by by_cases h : i < k <;> simp [h] <;> omega
      rw [h1]
      have h2 : ((if V.getLsbD k then 1#32 <<< k else 0#32) : BitVec 32).getLsbD i = false := by
        cases V.getLsbD k
        · simp
        · simp only [if_true, BitVec.getLsbD_shiftLeft, BitVec.getLsbD_one]
          by_cases hlt : i < k
          · simp [hlt]
          · simp; omega
      rw [h2]; simp
theorem low_all (V : BitVec 32) : low V 32 = V := by
  apply BitVec.eq_of_getLsbD_eq
  intro i hi
  rw [low_bit V 32 (by omega) i hi]; simp [hi]
theorem sumTo_lin {M : List (BitVec 32)} {f : BitVec 32 → BitVec 32} (hf : Lin f) (hM : isMat M f) (V : BitVec 32) : ∀ k, k ≤ 32 → sumTo M V k = f (low V k) := by
  intro k
  induction k with
  | zero => intro _; exact hf.zero.symm
  | succ k ih =>
    intro hk
    simp only [sumTo, low]
    rw [ih (by omega), hf.xor]
    congr 1
    cases V.getLsbD k
    · simp [hf.zero]
    · simp only [if_true]; exact hM.2 k (by omega)
theorem tms_lin {M : List (BitVec 32)} {f : BitVec 32 → BitVec 32} (hf : Lin f) (hM : isMat M f) (V : BitVec 32) : tms M V = f V := by
  unfold tms; rw [sumTo_lin hf hM V 32 (by omega), low_all]
theorem sumTo_stop (M : List (BitVec 32)) (V : BitVec 32) (k : Nat) (h : V >>> k = 0#32) : ∀ d, sumTo M V (k + d) = sumTo M V k := by
  intro d
  induction d with
  | zero => rfl
  | succ d ih =>
    rw [← Nat.add_assoc]
    simp only [sumTo]
    have : V.getLsbD (k + d) = false := by
      have := congrArg (fun x => x.getLsbD d) h
      simpa using this
    rw [this, ih]; simp
theorem tms_stop (M : List (BitVec 32)) (V : BitVec 32) (k : Nat) (hk : k ≤ 32) (h : V >>> k = 0#32) : tms M V = sumTo M V k := by
  have := sumTo_stop M V k h (32 - k)
  rw [show k + (32 - k) = 32 by omega] at this
  exact this
def sq (M : List (BitVec 32)) : List (BitVec 32) := M.map (tms M)
/-- j steps of a register of some bits -/
def fj (p mask : BitVec 32) (j : Nat) (V : BitVec 32) : BitVec 32 := stN p j (V &&& mask)
theorem fj_lin (p mask : BitVec 32) (j : Nat) : Lin (fj p mask j) := by
  constructor
  · simp [fj, stN_zero]
  · intro a b
    unfold fj
    rw [← stN_xor]
    congr 1
    apply BitVec.eq_of_getLsbD_eq
    intro i hi
    simp
    cases a.getLsbD i <;> cases b.getLsbD i <;> cases mask.getLsbD i <;> rfl
/-- a register stays within the mask -/
structure Mask (p mask : BitVec 32) : Prop where
  step : ∀ r, r &&& mask = r → stp p r &&& mask = stp p r
  idem : ∀ r : BitVec 32, (r &&& mask) &&& mask = r &&& mask
theorem Mask.steps {p mask : BitVec 32} (h : Mask p mask) (j : Nat) : ∀ r, r &&& mask = r → stN p j r &&& mask = stN p j r := by
  induction j with
  | zero => intro r hr; exact hr
  | succ j ih => intro r hr; exact ih _ (h.step r hr)
theorem fj_fj {p mask : BitVec 32} (h : Mask p mask) (j k : Nat) (V : BitVec 32) : fj p mask k (fj p mask j V) = fj p mask (j + k) V := by
  unfold fj
  rw [h.steps j _ (h.idem V), stN_add]
theorem sq_mat {p mask : BitVec 32} (h : Mask p mask) {M : List (BitVec 32)} {j : Nat} (hM : isMat M (fj p mask j)) : isMat (sq M) (fj p mask (2 * j)) := by
  refine ⟨by simp [sq, hM.1], fun k hk => ?_⟩
  have hk' : k < M.length := by rw [hM.1]; exact hk
  have e : (sq M).getD k 0#32 = tms M (M.getD k 0#32) := by
    simp [sq, List.getElem?_eq_getElem hk']
  rw [e, tms_lin (fj_lin p mask j) hM, hM.2 k hk, fj_fj h, Nat.two_mul]
theorem stN_fixed {p mask : BitVec 32} (j : Nat) (r : BitVec 32) (hr : r &&& mask = r) : fj p mask j r = stN p j r := by unfold fj; rw [hr]
theorem mask16 : Mask 0x8408#32 0xffff#32 := by
  constructor
  · intro r hr
    apply BitVec.eq_of_getLsbD_eq
    intro i hi
    have hb : ∀ i, 16 ≤ i → r.getLsbD i = false := by
      intro i hi
      rw [← hr]
      have : (0xffff#32).getLsbD i = false := by
        by_cases h : i < 32
        · have : ∀ j : Fin 32, 16 ≤ j.val → (0xffff#32).getLsbD j = false := by decide
          exact this ⟨i, h⟩ hi
        · exact BitVec.getLsbD_of_ge _ _ (by omega)
      simp [this]
    have hm : ∀ j : Fin 32, (0xffff#32).getLsbD j = decide (j.val < 16) := by decide
    rw [BitVec.getLsbD_and, hm ⟨i, hi⟩]
    by_cases h : i < 16
    · simp [h]
    · have hp : ∀ j : Fin 32, 16 ≤ j.val → (0x8408#32).getLsbD j = false := by decide
      have h1 : (stp 0x8408#32 r).getLsbD i = false := by
        unfold stp
        simp only [BitVec.getLsbD_xor, BitVec.getLsbD_ushiftRight]
        rw [hb (1 + i) (by omega)]
        cases r.getLsbD 0
        · simp
        · simp [hp ⟨i, hi⟩ (by show 16 ≤ i; omega)]
      rw [h1]; simp
  · intro r
    apply BitVec.eq_of_getLsbD_eq
    intro i hi
    simp
theorem mask32 (p : BitVec 32) : Mask p 0xffffffff#32 := by
  have h : ∀ r : BitVec 32, r &&& 0xffffffff#32 = r := fun r => BitVec.and_allOnes
  exact ⟨fun r _ => h _, fun r => by rw [h, h]⟩
/-- the first matrix -/
def mat0 (p : BitVec 32) (b : Nat) : List (BitVec 32) := (List.range 32).map fun k => if k = 0 then p else if k < b then 1#32 <<< (k - 1) else 0#32
theorem mat0_16 : isMat (mat0 0x8408#32 16) (fj 0x8408#32 0xffff#32 1) := by
  refine ⟨by decide, ?_⟩
  have : ∀ k : Fin 32, (mat0 0x8408#32 16).getD k 0#32 = fj 0x8408#32 0xffff#32 1 (1#32 <<< k.val) := by decide +kernel
  exact fun k hk => this ⟨k, hk⟩
theorem mat0_32 : isMat (mat0 0xedb88320#32 32) (fj 0xedb88320#32 0xffffffff#32 1) := by
  refine ⟨by decide, ?_⟩
  have : ∀ k : Fin 32, (mat0 0xedb88320#32 32).getD k 0#32 = fj 0xedb88320#32 0xffffffff#32 1 (1#32 <<< k.val) := by decide +kernel
  exact fun k hk => this ⟨k, hk⟩
end Go.Proofs.Ytmfncddgbapocaa.F
