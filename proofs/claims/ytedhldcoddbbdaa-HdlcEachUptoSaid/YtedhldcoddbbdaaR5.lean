import Derived.Test.YtedhldcoddbbdaaR4
set_option linter.unusedVariables false
set_option linter.unusedSimpArgs false
set_option linter.unnecessarySimpa false
namespace Go.Proofs.Ytedhldcoddbbdaa.F
open Go.RowKit Go.Proofs.Ytedhldcoddbbdaa.K Go.Shelf
attribute [local go_sem] Oper.semAt_some
/-- frames' cells -/
def frs : List Fv → List Value
  | [] => []
  | x :: r => .int .i64 x.n :: x.u :: frs r
theorem frs_append (a b : List Fv) : frs (a ++ b) = frs a ++ frs b := by
  induction a with
  | nil => rfl
  | cons x r ih => simp [frs, ih]
theorem frs_len (a : List Fv) : (frs a).length = a.length * 2 := by
  induction a with
  | nil => rfl
  | cons x r ih => simp only [frs, List.length_cons, ih]; omega
/-- what Feed holds between two rounds -/
structure FI (w w3 : World) (Bo g bx : Nat) (pre : List Fv) (W : World) : Prop where
  size : w3.heap.size ≤ W.heap.size
  out : ∃ v, W.heap[Bo]? = some (.cells #[v] 42 (0, 0)) ∧ Row W w3.heap.size 24 2 v pre.length (frs pre) ∧ ∀ k, v.ownBlock = some k → rowOf W g ≠ some k ∧ ∀ x ∈ pre, x.u.ownBlock ≠ some k
  info : ∀ x ∈ pre, Row W w3.heap.size 5 1 x.u x.l.length (x.l.map b8) ∧ ∀ k, x.u.ownBlock = some k → rowOf W g ≠ some k
  bo : rowOf W g ≠ some Bo
  grow : Grown2 w W g (rowOf w g)
  own : ∀ k, rowOf W g = some k → rowOf w g = some k ∨ w.heap.size ≤ k
  live : ∀ k, rowOf W g = some k → k < W.heap.size
  nd : pre.Pairwise (fun a b => ∀ k, a.u.ownBlock = some k → b.u.ownBlock ≠ some k)
/-- the constants -/
structure FC (w w3 : World) (Bo g bx : Nat) : Prop where
  ne : Bo ≠ bx
  hbo : w.heap.size ≤ Bo
  hbx : w.heap.size ≤ bx
  lo : Bo < w3.heap.size
  lx : bx < w3.heap.size
  hg : g < w.heap.size
  sz : w.heap.size ≤ w3.heap.size
theorem Row.moved {W W' : World} {B : Nat} {e : TypeId} {size : Nat} {v : Value} {n : Nat} {xs : List Value} (h : Row W B e size v n xs) (hk : ∀ (k : Nat) (o : Obj), v.ownBlock = some k → W.heap[k]? = some o → o.isCells = true → W'.heap[k]? = some o) : Row W' B e size v n xs := by
  refine ⟨h.len, h.form.imp id fun ⟨b, cap, cur, q1, q2, q3, q4⟩ => ⟨b, cap, cur, q1, q2, ?_, q4⟩⟩
  exact hk b _ (by rw [q1]; rfl) q3 rfl
theorem FI.rl {w w3 : World} {Bo g bx : Nat} {pre : List Fv} {A B : World} (hc : FC w w3 Bo g bx) (h : FI w w3 Bo g bx pre A) (hr : Rl g bx A B) : FI w w3 Bo g bx pre B := by
  obtain ⟨h1, ⟨v, h2, h3, h4⟩, h5, h6, h7, h8, h9, h10⟩ := h
  have hgo : ∀ k, k < A.heap.size → rowOf A g ≠ some k → rowOf B g ≠ some k := fun k hk hn e => by
    rcases hr.row k e with q | q
    · exact hn q
    · omega
  have hb := hc.hbo
  have hg := hc.hg
  have hlx := hc.lx
  have hlo := hc.lo
  have hsz := hc.sz
  refine ⟨Nat.le_trans h1 hr.size, ⟨v, hr.same Bo _ h2 (by omega) hc.ne h6, Row.moved h3 (fun k o hk ho _ => ?_), fun k hk => ⟨hgo k (Row.live h3 hk).2 (h4 k hk).1, (h4 k hk).2⟩⟩, fun x hx => ⟨Row.moved (h5 x hx).1 (fun k o hk ho _ => ?_), fun k hk => hgo k (Row.live (h5 x hx).1 hk).2 ((h5 x hx).2 k hk)⟩, hgo Bo (Array.getElem?_eq_some_iff.1 h2).1 h6, ⟨hr.os.trans h7.os, hr.tape.trans h7.tape, hr.output.trans h7.output, Nat.le_trans h7.size hr.size, fun k hk k1 k2 => ?_⟩, fun k hk => ?_, fun k hk => (hr.row k hk).elim (fun q => Nat.lt_of_lt_of_le (h9 k q) hr.size) (fun q => q.2), h10⟩
  · have := (Row.live h3 hk).1
    exact hr.same k o ho (by omega) (by omega) (h4 k hk).1
  · have := (Row.live (h5 x hx).1 hk).1
    exact hr.same k o ho (by omega) (by omega) ((h5 x hx).2 k hk)
  · have e := h7.block k hk k1 k2
    have hlt : k < A.heap.size := Nat.lt_of_lt_of_le hk h7.size
    obtain ⟨o, ho⟩ : ∃ o, A.heap[k]? = some o := ⟨_, Array.getElem?_eq_getElem hlt⟩
    have hbx := hc.hbx
    rw [hr.same k o ho k1 (by omega) (fun q => by
      rcases h8 k q with q | q
      · exact k2 q.symm
      · omega), ← ho, e]
  · rcases hr.row k hk with q | q
    · exact h8 k q
    · exact .inr (Nat.le_trans h7.size q.1)
/-- a block that is no cells turns -/
theorem FI.own' {w w3 : World} {Bo g bx : Nat} (hc : FC w w3 Bo g bx) : OwnFrom w3.heap.size (FI w w3 Bo g bx) := fun pre A B row h hg hr => by
  obtain ⟨h1, ⟨v, h2, h3, h4⟩, h5, h6, h7, h8, h9, h10⟩ := h
  have key : ∀ (k : Nat) (o : Obj), A.heap[k]? = some o → o.isCells = true → B.heap[k]? = some o := fun k o hk ho => (hg.block k (Array.getElem?_eq_some_iff.1 hk).1 (fun e => by
    obtain ⟨-, o', q1, q2⟩ := hr k e.symm
    rw [hk] at q1
    cases q1
    rw [ho] at q2
    cases q2)).trans hk
  have hrow : rowOf B g = rowOf A g := by
    have hg2 : g < A.heap.size := Nat.lt_of_lt_of_le hc.hg h7.size
    exact rowOf_block (hg.block g hg2 (fun e => by have := (hr g e.symm).1; have := hc.hg; have := hc.sz; omega))
  refine ⟨Nat.le_trans h1 hg.size, ⟨v, key _ _ h2 rfl, Row.moved h3 (fun k o hk ho hcl => key k o ho hcl), by rw [hrow]; exact h4⟩, fun x hx => ⟨Row.moved (h5 x hx).1 (fun k o hk ho hcl => key k o ho hcl), by rw [hrow]; exact (h5 x hx).2⟩, by rw [hrow]; exact h6, ⟨hg.os.trans h7.os, hg.tape.trans h7.tape, hg.output.trans h7.output, Nat.le_trans h7.size hg.size, fun k hk k1 k2 => (hg.block k (Nat.lt_of_lt_of_le hk h7.size) (fun e => by have := (hr k e.symm).1; have := hc.sz; omega)).trans (h7.block k hk k1 k2)⟩, by rw [hrow]; exact h8, fun k hk => Nat.lt_of_lt_of_le (h9 k (by rw [← hrow]; exact hk)) hg.size, h10⟩
end Go.Proofs.Ytedhldcoddbbdaa.F
