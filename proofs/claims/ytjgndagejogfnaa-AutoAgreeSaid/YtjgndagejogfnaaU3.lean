import Derived.Test.YtjgndagejogfnaaU2
set_option linter.unusedVariables false
set_option linter.unusedSimpArgs false
namespace Go.Proofs.Ytjgndagejogfnaa.F
open Go.RowKit Go.Proofs.Ytjgndagejogfnaa.K
def txt : List (List (List UInt8)) := [
  [[47, 50], [105, 114, 99, 32, 115, 99, 114, 47, 54], [45], [45], [45], [45], [45], [45], [45], [45]],
  [[45], [45], [47, 48], [116, 108, 115, 47, 49], [47, 48], [47, 49], [47, 49], [47, 49], [47, 49], [116, 108, 100, 47, 49]],
  [[116, 108, 115, 47, 49], [47, 49], [105, 114, 99, 32, 115, 99, 114, 47, 54], [47, 51], [47, 53], [47, 53], [47, 54], [47, 55], [47, 56], [47, 57]],
  [[47, 48], [116, 108, 102, 47, 48], [47, 50], [47, 50], [47, 52], [47, 52], [105, 114, 99, 32, 115, 116, 114, 47, 52], [105, 114, 99, 32, 115, 116, 114, 47, 52], [105, 114, 99, 32, 115, 116, 114, 47, 52], [116, 108, 100, 32, 105, 114, 99, 32, 115, 116, 114, 47, 52]],
  [[45], [45], [45], [45], [115, 116, 114, 47, 52], [115, 116, 114, 47, 53], [115, 99, 114, 47, 54], [115, 99, 114, 47, 54], [115, 99, 114, 47, 56], [45]],
  [[45], [45], [45], [45], [116, 108, 102, 47, 50], [116, 108, 102, 47, 51], [116, 108, 102, 47, 51], [116, 108, 102, 47, 51], [116, 108, 102, 47, 51], [45]],
  [[45], [45], [115, 116, 97, 47, 50], [105, 114, 99, 32, 115, 99, 114, 32, 115, 99, 97, 47, 56], [47, 52], [47, 53], [115, 99, 97, 47, 56], [115, 99, 97, 32, 116, 108, 117, 47, 57], [115, 99, 97, 47, 56], [116, 108, 100, 32, 115, 99, 114, 32, 115, 99, 97, 47, 56]],
  [[45], [45], [115, 116, 97, 47, 50], [105, 114, 99, 32, 115, 99, 114, 32, 115, 99, 110, 47, 54], [47, 52], [47, 53], [115, 99, 110, 47, 54], [115, 99, 110, 47, 55], [115, 99, 110, 47, 54], [116, 108, 100, 32, 115, 99, 114, 32, 115, 99, 110, 47, 54]],
  [[45], [45], [115, 116, 97, 47, 50], [115, 116, 97, 47, 51], [47, 52], [47, 53], [105, 114, 99, 47, 55], [115, 99, 114, 47, 54], [105, 114, 99, 32, 116, 108, 117, 47, 57], [116, 108, 100, 32, 115, 99, 114, 47, 54]],
  [[45], [45], [115, 116, 97, 47, 50], [115, 116, 97, 47, 51], [47, 52], [47, 53], [105, 114, 99, 32, 115, 99, 114, 47, 54], [115, 99, 114, 47, 54], [105, 114, 99, 32, 115, 99, 114, 47, 56], [116, 108, 100, 32, 115, 99, 114, 47, 54]],
  [[45], [45], [115, 116, 97, 47, 50], [115, 116, 97, 47, 51], [115, 116, 97, 47, 52], [115, 116, 97, 47, 53], [115, 116, 97, 47, 54], [115, 116, 97, 47, 54], [115, 116, 97, 47, 54], [116, 108, 100, 32, 122, 114, 99, 32, 115, 116, 97, 47, 53]],
  [[45], [45], [47, 50], [47, 51], [116, 108, 102, 47, 50], [116, 108, 102, 47, 51], [47, 54], [47, 54], [47, 56], [116, 108, 100, 32, 115, 99, 114, 47, 54]],
  [[45], [45], [115, 99, 106, 47, 50], [115, 99, 106, 47, 51], [115, 99, 106, 47, 52], [115, 99, 106, 47, 53], [115, 99, 106, 47, 54], [115, 99, 106, 47, 55], [115, 99, 106, 47, 56], [115, 99, 106, 47, 57]],
  [[45], [45], [47, 50], [47, 51], [47, 52], [47, 53], [47, 54], [47, 54], [47, 56], [47, 57]],
  [[45], [45], [116, 108, 102, 47, 50], [116, 108, 102, 47, 51], [116, 108, 102, 47, 50], [116, 108, 102, 47, 51], [116, 108, 102, 47, 51], [116, 108, 102, 47, 51], [116, 108, 102, 47, 51], [116, 108, 100, 32, 105, 114, 99, 32, 115, 116, 114, 47, 53]],
  [[45], [45], [47, 50], [47, 51], [47, 52], [47, 53], [47, 54], [47, 55], [47, 56], [115, 101, 114, 47, 57]]]
def cellT (s e : Int) : List UInt8 := (txt.getD e.toNat []).getD s.toNat []
theorem refS_at (s e : Int) (hi : inT s e) : (refS e.toNat)[s.toNat]? = some (.string ⟨(cellT s e).toArray⟩) := by
  have h : ∀ (i : Fin 16) (j : Fin 10), (refS i.val)[j.val]? = some (.string ⟨((txt.getD i.val []).getD j.val []).toArray⟩) := by
    intro i j
    obtain ⟨i, hi⟩ := i
    obtain ⟨j, hj⟩ := j
    rcases (show i = 0 ∨ i = 1 ∨ i = 2 ∨ i = 3 ∨ i = 4 ∨ i = 5 ∨ i = 6 ∨ i = 7 ∨ i = 8 ∨ i = 9 ∨ i = 10 ∨ i = 11 ∨ i = 12 ∨ i = 13 ∨ i = 14 ∨ i = 15 by omega) with rfl | rfl | rfl | rfl | rfl | rfl | rfl | rfl | rfl | rfl | rfl | rfl | rfl | rfl | rfl | rfl <;> rcases (show j = 0 ∨ j = 1 ∨ j = 2 ∨ j = 3 ∨ j = 4 ∨ j = 5 ∨ j = 6 ∨ j = 7 ∨ j = 8 ∨ j = 9 by omega) with rfl | rfl | rfl | rfl | rfl | rfl | rfl | rfl | rfl | rfl <;> rfl
  obtain ⟨h0, h9, h1, h15⟩ := hi
  exact h ⟨e.toNat, by omega⟩ ⟨s.toNat, by omega⟩
def pstep (l : List UInt8) (st : List Int × Nat) (i : Nat) : List Int × Nat :=
  if l.getD i 0 = 32 ∨ l.getD i 0 = 47 then (if st.2 < i then st.1 ++ [wordOf ((l.drop st.2).take (i - st.2))] else st.1, i + 1) else st
def pTo (l : List UInt8) (n : Nat) : List Int × Nat := (List.range n).foldl (pstep l) ([], 0)
theorem pTo_succ (l : List UInt8) (n : Nat) : pTo l (n + 1) = pstep l (pTo l n) n := by
  unfold pTo
  rw [List.range_succ, List.foldl_append]
  rfl
theorem pTo_le (l : List UInt8) (n : Nat) : (pTo l n).2 ≤ n ∧ (pTo l n).1.length ≤ n := by
  induction n with
  | zero => exact ⟨Nat.le_refl _, Nat.le_refl _⟩
  | succ n ih =>
    rw [pTo_succ]
    unfold pstep
    split
    · split
      · simp; omega
      · simp; omega
    · omega
def cellOk (s e : Nat) : Bool := match ent s e with
  | none => cellT s e == [45]
  | some (t, a) => (cellT s e != [45]) && ((pTo (cellT s e) (cellT s e).length).1 == a) && (((cellT s e).getD ((cellT s e).length - 1) 0).toNat == (48 + t).toNat) && decide (1 ≤ (cellT s e).length) && decide ((cellT s e).length ≤ 20)
theorem cell_ok (s e : Int) (hi : inT s e) : cellOk s.toNat e.toNat = true := by
  have h : ∀ (i : Fin 16) (j : Fin 10), cellOk j.val i.val = true := by decide +kernel
  obtain ⟨h0, h9, h1, h15⟩ := hi
  exact h ⟨e.toNat, by omega⟩ ⟨s.toNat, by omega⟩
theorem cell_none {s e : Int} (hi : inT s e) (h : ent s e = none) : cellT s e = [45] := by
  have := cell_ok s e hi
  unfold cellOk at this
  rw [Int.toNat_of_nonneg hi.1, Int.toNat_of_nonneg hi.2.2.1, h] at this
  simpa using this
theorem cell_some {s e t : Int} {a : List Int} (hi : inT s e) (h : ent s e = some (t, a)) : cellT s e ≠ [45] ∧ (pTo (cellT s e) (cellT s e).length).1 = a ∧ ((cellT s e).getD ((cellT s e).length - 1) 0).toNat = 48 + t ∧ 1 ≤ (cellT s e).length ∧ (cellT s e).length ≤ 20 := by
  have := cell_ok s e hi
  have ht := (ent_to hi h).1
  unfold cellOk at this
  rw [Int.toNat_of_nonneg hi.1, Int.toNat_of_nonneg hi.2.2.1, h] at this
  simp only [Bool.and_eq_true, bne_iff_ne, beq_iff_eq, decide_eq_true_eq] at this
  obtain ⟨⟨⟨⟨a, b⟩, c⟩, d⟩, e⟩ := this
  exact ⟨a, b, by omega, d, e⟩
end Go.Proofs.Ytjgndagejogfnaa.F
