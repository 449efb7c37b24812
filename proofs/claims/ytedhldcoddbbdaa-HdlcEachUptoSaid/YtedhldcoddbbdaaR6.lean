import Derived.Test.YtedhldcoddbbdaaR5
set_option linter.unusedVariables false
set_option linter.unusedSimpArgs false
set_option linter.unnecessarySimpa false
namespace Go.Proofs.Ytedhldcoddbbdaa.F
open Go.RowKit Go.Proofs.Ytedhldcoddbbdaa.K Go.Shelf
attribute [local go_sem] Oper.semAt_some
theorem elF : ElemT Try.prog 42 24 2 32 (.agg #[.int .i64 0, .slice none 0 0]) := elemT_of Try.underlying42 (by kernel_rfl) rfl (by decide)
theorem src_fv (w : World) (n : Int) (A : Option Addr) (m cap : Nat) (l : List (BitVec 8)) : SrcR (w.alloc (.cells #[.int .i64 n, .slice A m cap] 24)) 2 (.slice (some ⟨w.heap.size, 0, none⟩) 1 1) 1 (frs [⟨n, .slice A m cap, l⟩]) :=
  ⟨rfl, fun u hu => by simp [frs] at hu; rcases hu with rfl | rfl <;> rfl, _, _, rfl, fun e => by (cases e), fun ad e' j x hj => by
    cases e'
    have hlt := (List.getElem?_eq_some_iff.1 hj).1
    have hj2 : j < 2 := hlt
    rw [add_mid]
    have : j = 0 ∨ j = 1 := by omega
    rcases this with rfl | rfl
    · simp [frs] at hj; subst hj; simp
    · simp [frs] at hj; subst hj; simp⟩
/-- a frame has come -/
structure FX (w w3 : World) (Bo g bx : Nat) (pre : List Fv) (x : Fv) (W : World) : Prop where
  fi : FI w w3 Bo g bx pre W
  row : Row W w3.heap.size 5 1 x.u x.l.length (x.l.map b8)
  no : ∀ k, x.u.ownBlock = some k → rowOf W g ≠ some k
  off : ∀ v, W.heap[Bo]? = some (.cells #[v] 42 (0, 0)) → ∀ k, v.ownBlock = some k → x.u.ownBlock ≠ some k
  new : ∀ y ∈ pre, ∀ k, y.u.ownBlock = some k → x.u.ownBlock ≠ some k
theorem FX.of {w w3 : World} {Bo g bx : Nat} {pre : List Fv} {x : Fv} {A B : World} (hc : FC w w3 Bo g bx) (h : FI w w3 Bo g bx pre A) (hr : Rl g bx A B) (hx : Gx g x A B) : FX w w3 Bo g bx pre x B := by
  have hi := h.rl hc hr
  obtain ⟨v, h2, h3, -⟩ := h.out
  refine ⟨hi, hx.row.weak h.size, fun k _ => (by rw [hx.none]; simp), fun v' hv' k hk e => ?_, fun y hy k hk e => by have := (Row.live (h.info y hy).1 hk).2; have := (Row.live hx.row e).1; omega⟩
  have hb : B.heap[Bo]? = some (.cells #[v] 42 (0, 0)) := hr.same Bo _ h2 (by have := hc.hbo; have := hc.hg; omega) hc.ne h.bo
  rw [hb] at hv'
  cases hv'
  have h5 := (Row.live h3 hk).2
  have h6 := (Row.live hx.row e).1
  omega
theorem FX.own {w w3 : World} {Bo g bx : Nat} (hc : FC w w3 Bo g bx) (pre : List Fv) (x : Fv) {A B : World} {row : Option Nat} (h : FX w w3 Bo g bx pre x A) (hg : A.grownBy B row) (hr : ∀ r, row = some r → w3.heap.size ≤ r ∧ ∃ o : Obj, A.heap[r]? = some o ∧ o.isCells = false) : FX w w3 Bo g bx pre x B := by
  have key : ∀ (k : Nat) (o : Obj), A.heap[k]? = some o → o.isCells = true → B.heap[k]? = some o := fun k o hk ho => (hg.block k (Array.getElem?_eq_some_iff.1 hk).1 (fun e => by
    obtain ⟨-, o', q1, q2⟩ := hr k e.symm
    rw [hk] at q1
    cases q1
    rw [ho] at q2
    cases q2)).trans hk
  have hrow : rowOf B g = rowOf A g := by
    have hg2 : g < A.heap.size := Nat.lt_of_lt_of_le hc.hg h.fi.grow.size
    exact rowOf_block (hg.block g hg2 (fun e => by have := (hr g e.symm).1; have := hc.hg; have := hc.sz; omega))
  obtain ⟨v, h2, -, -⟩ := h.fi.out
  refine ⟨FI.own' hc pre A B row h.fi hg hr, Row.moved h.row (fun k o hk ho hcl => key k o ho hcl), by rw [hrow]; exact h.no, fun v' hv' => ?_, h.new⟩
  rw [key _ _ h2 rfl] at hv'
  cases hv'
  exact h.off v h2
/-- .. is appended, and the row's value is written -/
theorem FX.step {w w3 : World} {Bo g bx : Nat} {pre : List Fv} {x : Fv} {W w4 : World} {v v4 : Value} (hc : FC w w3 Bo g bx) (h : FX w w3 Bo g bx pre x W) (hv : W.heap[Bo]? = some (.cells #[v] 42 (0, 0))) (hr4 : RowR (W.alloc (.cells #[.int .i64 x.n, x.u] 24)) w4 w3.heap.size 24 2 v v4 (pre.length + 1) (frs pre ++ frs [x])) :
    FI w w3 Bo g bx (pre ++ [x]) (w4.setCell ⟨Bo, 0, none⟩ v4) ∧ KeepsFrom w3.heap.size W (w4.setCell ⟨Bo, 0, none⟩ v4) ∧ ∀ T : List Nat, (∀ j ∈ T, j < w3.heap.size ∧ j ≠ Bo) → Kp T g W (w4.setCell ⟨Bo, 0, none⟩ v4) := by
  obtain ⟨⟨h1, ⟨v', h2, h3, h4⟩, h5, h6, h7, h8, h9, h10⟩, hx1, hx2, hx3, hx4⟩ := h
  rw [hv] at h2
  cases h2
  have hlo := hc.lo
  have hbo := hc.hbo
  have hg := hc.hg
  have hsz := hc.sz
  have hwz : (W.alloc (.cells #[.int .i64 x.n, x.u] 24)).heap.size = W.heap.size + 1 := by simp
  have hz4 : W.heap.size + 1 ≤ w4.heap.size := by have := hr4.grow.size; omega
  have hz5 : (w4.setCell ⟨Bo, 0, none⟩ v4).heap.size = w4.heap.size := by simp [World.setCell]
  have key : ∀ k, k < W.heap.size → v.ownBlock ≠ some k → k ≠ Bo → (w4.setCell ⟨Bo, 0, none⟩ v4).heap[k]? = W.heap[k]? := fun k hk k1 k2 =>
    (heap_setCell_other _ _ _ _ k2).trans ((hr4.grow.block k (by omega) (fun e => k1 e.symm)).trans (Below.heap_alloc _ _ _ hk))
  have hvl : ∀ k, v.ownBlock = some k → w3.heap.size ≤ k ∧ k < W.heap.size := fun k hk => Row.live h3 hk
  have hbl := (Array.getElem?_eq_some_iff.1 hv).1
  have hvb : v.ownBlock ≠ some Bo := fun e => by have := (hvl Bo e).1; omega
  have hrow : rowOf (w4.setCell ⟨Bo, 0, none⟩ v4) g = rowOf W g := rowOf_block (key g (by have := h7.size; omega) (fun e => by have := (hvl g e).1; omega) (by omega))
  have h4b : w4.heap[Bo]? = some (.cells #[v] 42 (0, 0)) := (hr4.grow.block Bo (by omega) (fun e => hvb e.symm)).trans ((Below.heap_alloc _ _ _ hbl).trans hv)
  have hset : w4.grownBy (w4.setCell ⟨Bo, 0, none⟩ v4) (some Bo) := ⟨rfl, rfl, rfl, by simp [World.setCell], fun k _ hk => heap_setCell_other _ _ _ _ (fun e => hk (by simp [e]))⟩
  have hown : ∀ k, v4.ownBlock = some k → v.ownBlock = some k ∨ W.heap.size + 1 ≤ k := fun k hk => (hr4.own k hk).imp id (fun q => by omega)
  have mv : ∀ y : Fv, Row W w3.heap.size 5 1 y.u y.l.length (y.l.map b8) → (∀ k, v.ownBlock = some k → y.u.ownBlock ≠ some k) → Row (w4.setCell ⟨Bo, 0, none⟩ v4) w3.heap.size 5 1 y.u y.l.length (y.l.map b8) := fun y hy hn => Row.moved hy (fun k o hk ho _ => (key k (Row.live hy hk).2 (fun e => hn k e hk) (fun e => by have := (Row.live hy hk).1; omega)).trans ho)
  refine ⟨⟨by omega, ⟨v4, (heap_setCell_same _ _ _ _ _ _ h4b).trans rfl, ?_, fun k hk => ⟨?_, ?_⟩⟩, ?_, by rw [hrow]; exact h6, ⟨hset.os.trans (hr4.grow.os.trans h7.os), hset.tape.trans (hr4.grow.tape.trans h7.tape), hset.output.trans (hr4.grow.output.trans h7.output), by have := h7.size; omega, fun k hk k1 k2 => (key k (by have := h7.size; omega) (fun e => by have := (hvl k e).1; omega) (by omega)).trans (h7.block k hk k1 k2)⟩, by rw [hrow]; exact h8, fun k hk => by rw [hrow] at hk; have := h9 k hk; omega, List.pairwise_append.2 ⟨h10, List.pairwise_singleton _ _, fun a ha b hb => by rw [List.mem_singleton.1 hb]; exact hx4 a ha⟩⟩, ⟨by omega, fun k o hB ho hcl => ?_⟩, fun T hT => ⟨by omega, fun k o ho hcl hm => ?_⟩⟩
  · rw [frs_append, List.length_append]
    exact hr4.row.kept hset (fun k hk e => by
      cases e
      rcases hown Bo hk with q | q
      · exact hvb q
      · omega)
  · rw [hrow]
    intro e
    rcases hown k hk with q | q
    · exact (h4 k q).1 e
    · have := h9 k e; omega
  · intro y hy e
    rcases List.mem_append.1 hy with hy | hy
    · rcases hown k hk with q | q
      · exact (h4 k q).2 y hy e
      · have := (Row.live (h5 y hy).1 e).2; omega
    · obtain rfl : y = x := by simpa using hy
      rcases hown k hk with q | q
      · exact hx3 v hv k q e
      · have := (Row.live hx1 e).2; omega
  · intro y hy
    rw [hrow]
    rcases List.mem_append.1 hy with hy | hy
    · exact ⟨mv y (h5 y hy).1 (fun k hk => (h4 k hk).2 y hy), (h5 y hy).2⟩
    · obtain rfl : y = x := by simpa using hy
      exact ⟨mv _ hx1 (fun k hk => hx3 v hv k hk), hx2⟩
  · refine (key k (Array.getElem?_eq_some_iff.1 ho).1 (fun e => ?_) (by omega)).trans ho
    obtain ⟨b, cap, cur, q1, q2, q3, -⟩ := h3.form.resolve_left (fun q => by rw [q.1] at e; simp [Value.ownBlock] at e)
    rw [q1] at e
    simp only [Value.ownBlock, Option.some.injEq] at e
    subst e
    rw [q3] at ho
    cases ho
    cases hcl
  · rcases hm with hm | hm
    · have := hT k hm
      exact (key k (Array.getElem?_eq_some_iff.1 ho).1 (fun e => by have := (hvl k e).1; omega) this.2).trans ho
    · exact (key k (Array.getElem?_eq_some_iff.1 ho).1 (fun e => (h4 k e).1 hm) (fun e => h6 (by rw [← e]; exact hm))).trans ho
end Go.Proofs.Ytedhldcoddbbdaa.F
