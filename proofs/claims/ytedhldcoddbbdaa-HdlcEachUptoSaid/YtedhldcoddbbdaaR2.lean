import Derived.Test.YtedhldcoddbbdaaR1
set_option linter.unusedVariables false
set_option linter.unusedSimpArgs false
set_option linter.unnecessarySimpa false
namespace Go.Proofs.Ytedhldcoddbbdaa.F
open Go.RowKit Go.Proofs.Ytedhldcoddbbdaa.K Go.Shelf
attribute [local go_sem] Oper.semAt_some
structure Hold (p : Prop) : Prop where
  h : p
/-- 'append' to a row, in a fenced walk -/
theorem wpListIn_row {F : Fence} {nf : Nat} {P : Program} {w : World} {ops : Array Oper} {rest : List Oper} {o : Oper} {a : Act} {Q : Exit → Act → World → Prop} {t e : TypeId} {size bytes : Nat} {z : Value} (E : ElemT P t e size bytes z)
    (hgd : o.guard = none) (s x : Operand) (ho : o.op = .call { callee := .builtin .append, args := #[s, x], argTypes := #[t, t] })
    (B : Nat) (v : Value) (n : Nat) (xs : List Value) (hs : a.eval s = v) (hown : Row w B e size v n xs)
    (xv : Value) (m : Nat) (news : List Value) (hx : a.eval x = xv) (hsrc : SrcR w size xv m news)
    (h63 : n + m ≤ maxLen) (hbytes : (n + m) * bytes ≤ 140737488355328) (hB : B ≤ w.heap.size)
    (h : ∀ v' w', RowR w w' B e size v v' (n + m) (xs ++ news) → wpListIn F nf P ops Q rest (a.put o.dst v') w') : wpListIn F nf P ops Q (o :: rest) a w := by
  refine wpListIn_plain hgd fun K hK => ?_
  obtain ⟨v', w', hr, h2, h3, h4⟩ := run_row (P := P) w E B o.type v n xs hown xv m news hsrc h63 hbytes hB
  unfold Oper.wpIn
  refine ⟨by simp [Oper.about, ho, resolve, Target.leads, Sem.run_pure], ?_⟩
  rw [Oper.semAt_plain F _ _ (by rw [ho]; intro c hc'; cases hc')]
  simp [execOp, ho, resolve, invoke, builtin, hs, hx, hr, Result.andThen]
  exact hK _ _ (h v' w' ⟨h2, h3, h4⟩)
/-- the block of the bytes that a receiver holds -/
def rowOf (W : World) (g : Nat) : Option Nat := (W.cell? ⟨g, 259, none⟩).bind Value.ownBlock
theorem rowOf_block {W W' : World} {g : Nat} (h : W'.heap[g]? = W.heap[g]?) : rowOf W' g = rowOf W g := by
  unfold rowOf
  rw [show W'.cell? ⟨g, 259, none⟩ = W.cell? ⟨g, 259, none⟩ from World.cell?_of_block h]
theorem LnAt.rowOf {w : World} {g : Nat} {d : Ln} {v : Value} (h : LnAt w g d v) : rowOf w g = v.ownBlock := by
  unfold F.rowOf
  rw [show w.cell? ⟨g, 259, none⟩ = some v from (h.tl 2 (by omega)).trans rfl]
  rfl
theorem rowOf_cells {W : World} {g k : Nat} (h : rowOf W g = some k) : ∃ o : Obj, W.heap[g]? = some o ∧ o.isCells = true := by
  unfold rowOf at h
  cases hc : W.cell? ⟨g, 259, none⟩ with
  | none => rw [hc] at h; simp at h
  | some v => exact cells_of_cell hc
/-- the steps of a receiver's iterator -/
structure Rl (g bx : Nat) (A B : World) : Prop where
  os : B.os = A.os
  tape : B.tape = A.tape
  output : B.output = A.output
  size : A.heap.size ≤ B.heap.size
  same : ∀ (k : Nat) (o : Obj), A.heap[k]? = some o → k ≠ g → k ≠ bx → rowOf A g ≠ some k → B.heap[k]? = some o
  other : ∀ (k : Nat) (o : Obj), A.heap[k]? = some o → o.isCells = false → B.heap[k]? = some o
  row : ∀ k, rowOf B g = some k → rowOf A g = some k ∨ (A.heap.size ≤ k ∧ k < B.heap.size)
theorem Rl.refl (g bx : Nat) (A : World) : Rl g bx A A := ⟨rfl, rfl, rfl, Nat.le_refl _, fun _ _ h _ _ _ => h, fun _ _ h _ => h, fun _ h => .inl h⟩
theorem Rl.trans {g bx : Nat} {A B C : World} (h : Rl g bx A B) (h2 : Rl g bx B C) : Rl g bx A C :=
  ⟨h2.os.trans h.os, h2.tape.trans h.tape, h2.output.trans h.output, Nat.le_trans h.size h2.size, fun k o hk h1 h3 h4 => h2.same k o (h.same k o hk h1 h3 h4) h1 h3 (fun e => by
    rcases h.row k e with q | q
    · exact h4 q
    · have := (Array.getElem?_eq_some_iff.1 hk).1; omega), fun k o hk ho => h2.other k o (h.other k o hk ho) ho, fun k hk => by
    rcases h2.row k hk with q | q
    · exact (h.row k q).imp id (fun q => ⟨q.1, Nat.lt_of_lt_of_le q.2 h2.size⟩)
    · exact .inr ⟨Nat.le_trans h.size q.1, q.2⟩⟩
theorem Rl.below {g bx : Nat} {A B : World} (h : Below A.heap.size A B) (hg : g < A.heap.size) : Rl g bx A B :=
  ⟨h.os, h.tape, h.output, h.size, fun k o hk _ _ _ => (h.block k (Array.getElem?_eq_some_iff.1 hk).1).trans hk, fun k o hk _ => (h.block k (Array.getElem?_eq_some_iff.1 hk).1).trans hk, fun k hk => .inl (by rwa [rowOf_block (h.block g hg)] at hk)⟩
theorem Rl.lns {g bx : Nat} {A B : World} {d d1 : Ln} {v v1 : Value} (h : LnAt A g d v) (hs : LnS A B g v v1 d1) : Rl g bx A B :=
  ⟨hs.grow.os, hs.grow.tape, hs.grow.output, hs.grow.size, fun k o hk h1 _ h3 => (hs.grow.block k (Array.getElem?_eq_some_iff.1 hk).1 h1 (by rw [h.rowOf] at h3; exact fun e => h3 e.symm)).trans hk, fun k o hk ho => (hs.grow.block k (Array.getElem?_eq_some_iff.1 hk).1 (fun e => by subst e; rw [h.blk] at hk; cases hk; cases ho) (fun e => by
    rcases h.row.form with ⟨q, -⟩ | ⟨b, cap, cur, q1, q2, q3, q4⟩
    · rw [q] at e; simp [Value.ownBlock] at e
    · rw [q1] at e; simp only [Value.ownBlock, Option.some.injEq] at e; subst e; rw [q3] at hk; cases hk; cases ho)).trans hk, fun k hk => by
      rw [hs.q.rowOf] at hk
      rw [h.rowOf]
      exact (hs.own k hk).imp id (fun q => ⟨q, (Row.live hs.q.row hk).2⟩)⟩
theorem Rl.grown {g bx : Nat} {A B : World} (h : A.grownBy B (some bx)) (hg : g < A.heap.size) (hne : g ≠ bx) (hc : ∃ o : Obj, A.heap[bx]? = some o ∧ o.isCells = true) : Rl g bx A B :=
  ⟨h.os, h.tape, h.output, h.size, fun k o hk _ h2 _ => (h.block k (Array.getElem?_eq_some_iff.1 hk).1 (by simp; omega)).trans hk, fun k o hk ho => (h.block k (Array.getElem?_eq_some_iff.1 hk).1 (fun e => by
    obtain ⟨o', q1, q2⟩ := hc
    simp at e
    subst e
    rw [hk] at q1
    cases q1
    rw [ho] at q2
    cases q2)).trans hk, fun k hk => .inl (by rwa [rowOf_block (h.block g hg (by simp; omega))] at hk)⟩
/-- what a round keeps -/
structure Kp (T : List Nat) (g : Nat) (A B : World) : Prop where
  size : A.heap.size ≤ B.heap.size
  same : ∀ (k : Nat) (o : Obj), A.heap[k]? = some o → o.isCells = true → (k ∈ T ∨ rowOf A g = some k) → B.heap[k]? = some o
theorem Kp.refl (T : List Nat) (g : Nat) (A : World) : Kp T g A A := ⟨Nat.le_refl _, fun _ _ h _ _ => h⟩
theorem Kp.rowOf {T : List Nat} {g k : Nat} {A B : World} (hg : g ∈ T) (h : Kp T g A B) (hk : rowOf A g = some k) : rowOf B g = some k := by
  obtain ⟨o, q1, q2⟩ := rowOf_cells hk
  rw [rowOf_block ((h.same g o q1 q2 (.inl hg)).trans q1.symm)]
  exact hk
theorem Kp.trans {T : List Nat} {g : Nat} {A B C : World} (hg : g ∈ T) (h : Kp T g A B) (h2 : Kp T g B C) : Kp T g A C :=
  ⟨Nat.le_trans h.size h2.size, fun k o hk ho hm => h2.same k o (h.same k o hk ho hm) ho (hm.imp id (fun e => h.rowOf hg e))⟩
theorem Kp.putObj {T : List Nat} {g : Nat} (W : World) (l : Nat) (o o' : Obj) (h : W.heap[l]? = some o) (ho : o.isCells = false) : Kp T g W (W.putObj l o') :=
  ⟨by simp, fun k p hk hp _ => (World.putObj_heap_other (fun e => by subst e; rw [h] at hk; cases hk; rw [ho] at hp; cases hp)).trans hk⟩
theorem Kp.below {T : List Nat} {g : Nat} {A B : World} (h : Below A.heap.size A B) : Kp T g A B := ⟨h.size, fun k o hk _ _ => (h.block k (Array.getElem?_eq_some_iff.1 hk).1).trans hk⟩
/-- the receiver abides a round -/
theorem LnAt.kept {T : List Nat} {g : Nat} {A B : World} {d : Ln} {v : Value} (h : LnAt A g d v) (hg : g ∈ T) (hk : Kp T g A B) : LnAt B g d v := by
  refine ⟨hk.same g _ h.blk rfl (.inl hg), ⟨h.row.len, h.row.form.imp id fun ⟨b, cap, cur, q1, q2, q3, q4⟩ => ⟨b, cap, cur, q1, q2, ?_, q4⟩⟩, h.ne⟩
  exact hk.same b _ q3 rfl (.inr (by rw [h.rowOf, q1]; rfl))
set_option maxHeartbeats 4000000 in
set_option maxRecDepth 100000 in
/-- Each's function value: it has a copy of the bytes -/
theorem each34_in (F : Fence) (nf : Nat) (h34 : F.fn 34) (hro : F.round = none) (p : Option Addr) (l : List (BitVec 8)) (v : Value) (w : World) (h : BytesAt w v l) (hl : l.length ≤ 140737488355328) :
    CallsIn F nf Try.prog 34 #[.pointer p, v] w fun e w' => e = .returned (.func (.func 43) #[] #[.pointer (some ⟨w.heap.size, 0, none⟩), .pointer (some ⟨w.heap.size + 1, 0, none⟩)]) ∧ Below w.heap.size w w' ∧ w'.heap[w.heap.size]? = some (.cells #[.pointer p] 46 (0, 0)) ∧ ∃ v', w'.heap[w.heap.size + 1]? = some (.cells #[v'] 22 (0, 0)) ∧ Row w' (w.heap.size + 2) 5 1 v' l.length (l.map b8) := by
  obtain ⟨A, cap, rfl, k1, k2, -, -⟩ := h.at_
  unfold maxLen at k2
  have hb : Below w.heap.size w ((w.alloc (.cells #[.pointer p] 46)).alloc (.cells #[.slice A l.length cap] 22)) := ((Below.refl _ w).alloc (Nat.le_refl _) _).alloc (by simp) _
  have HS := Lib.hid (h.below hb).src
  have HB := Lib.hid hb
  have H1 : Hid (((w.alloc (.cells #[.pointer p] 46)).alloc (.cells #[.slice A l.length cap] 22)).heap[w.heap.size]? = some (.cells #[.pointer p] 46 (0, 0))) := Lib.hid (by rw [Below.heap_alloc _ _ _ (by simp)]; exact heap_alloc_new w _)
  have H2 : Hid (((w.alloc (.cells #[.pointer p] 46)).alloc (.cells #[.slice A l.length cap] 22)).heap[w.heap.size + 1]? = some (.cells #[.slice A l.length cap] 22 (0, 0))) := Lib.hid (by
    have := heap_alloc_new (w.alloc (.cells #[.pointer p] 46)) (.cells #[.slice A l.length cap] 22)
    rwa [World.size_alloc] at this)
  have hz : ((w.alloc (.cells #[.pointer p] 46)).alloc (.cells #[.slice A l.length cap] 22)).heap.size = w.heap.size + 2 := by simp
  have hrow := Lib.hid (Row.nil ((w.alloc (.cells #[.pointer p] 46)).alloc (.cells #[.slice A l.length cap] 22)) (w.heap.size + 2) 5 1)
  have c1 : ((w.alloc (.cells #[.pointer p] 46)).alloc (.cells #[.slice A l.length cap] 22)).cell? ⟨w.heap.size + 1, 0, none⟩ = some (.slice A l.length cap) := cell_of_row _ _ _ _ _ _ H2.out
  have s1 : 0 + l.length ≤ maxLen := by unfold maxLen; omega
  have s2 : (0 + l.length) * 1 ≤ 140737488355328 := by omega
  clear hb h
  refine callsIn_of_wp Try.func34 rfl h34 ?_ hro
  simp only [Try.ntmps34, List.size_toArray, List.length_cons, List.length_nil, Nat.reduceAdd, Nat.reduceSub, Array.replicate_succ, Array.replicate_zero, List.push_toArray, List.append_toArray, List.nil_append, List.cons_append]
  generalize hW0 : (w.alloc (.cells #[.pointer p] 46)).alloc (.cells #[.slice A l.length cap] 22) = W0 at *
  gi_wp2_with (gi_at_builtin; refine wpListIn_row elB rfl _ _ rfl (w.heap.size + 2) _ 0 [] rfl hrow.out _ l.length _ rfl HS.out s1 s2 (Nat.le_of_eq hz.symm) ?_)
  intro v2 w2 hr2
  have h22 := (hr2.grow.block (w.heap.size + 1) (by omega) (by simp [Value.ownBlock])).trans H2.out
  have h21 := (hr2.grow.block w.heap.size (by omega) (by simp [Value.ownBlock])).trans H1.out
  have HB2 := Lib.hid (HB.out.trans (⟨hr2.grow.os, hr2.grow.tape, hr2.grow.output, hr2.grow.size, fun k hk => hr2.grow.block k (by omega) (by simp [Value.ownBlock])⟩ : Below w.heap.size W0 w2))
  have HR2 := Lib.hid hr2.row
  clear hr2
  have c2 : w2.cell? ⟨w.heap.size + 1, 0, none⟩ = some (.slice A l.length cap) := cell_of_row _ _ _ _ _ _ h22
  have f2 : w2.frozen? ⟨w.heap.size + 1, 0, none⟩ = false := frozen_of_row _ _ _ _ _ h22
  have H22 := Lib.hid h22
  have H21 := Lib.hid h21
  obtain ⟨A2, cp2, rfl, -, -⟩ := Row.slice HR2.out
  clear h22 h21
  gi_wp2
  go_ret
  refine ⟨rfl, HB2.out.setCell (p := ⟨w.heap.size + 1, 0, none⟩) (by simp) _, (heap_setCell_other _ _ _ _ (by simp)).trans H21.out, _, heap_setCell_same _ _ _ _ _ _ H22.out, ?_⟩
  have := HR2.out
  refine this.kept (r := some (w.heap.size + 1)) ⟨rfl, rfl, rfl, by simp [World.setCell], fun k _ hk => heap_setCell_other _ _ _ _ (fun e => hk (by simp [e]))⟩ (fun k hk e => ?_)
  have := (Row.live this hk).1
  simp at e
  omega
end Go.Proofs.Ytedhldcoddbbdaa.F
