import Derived.Test.YtcgihilcjijckaaH4
set_option linter.unusedVariables false
set_option linter.unusedSimpArgs false
set_option linter.unnecessarySimpa false
namespace Go.Proofs.Ytcgihilcjijckaa.F
open Go.RowKit Go.Proofs.Ytcgihilcjijckaa.K
/-- a step of one of them, all else beside -/
structure StepW (w w' : World) (P P' : Foot) : Prop where
  st : Step w w' P P'
  os : w'.os = w.os
  tape : w'.tape = w.tape
  output : w'.output = w.output
theorem SetS.stepW {w w' : World} {g : Nat} {v v' : Value} {n n' : Int} {l l' : List Tm} (h0 : QAt w g v n l) (h : SetS w w' g v v' n' l') : StepW w w' (QF g v) (QF g v') := ⟨h.step h0, h.grow.os, h.grow.tape, h.grow.output⟩
theorem RowR.stepW {w w' : World} {B : Nat} {e : TypeId} {size : Nat} {v v' : Value} {n : Nat} {xs : List Value} (h : RowR w w' B e size v v' n xs) : StepW w w' (RF v) (RF v') := ⟨RowR.step h, h.grow.os, h.grow.tape, h.grow.output⟩
/-- what a call has made itself -/
structure Own (w0 w : World) (fs : List Foot) : Prop where
  held : Held w fs
  low : ∀ P ∈ fs, ∀ k, P k → w0.heap.size ≤ k
  base : Below w0.heap.size w0 w
theorem Own.start (w : World) : Own w w [] := ⟨Held.nil w, fun P hP => (by cases hP), Below.refl _ _⟩
theorem Own.step {w0 w w' : World} {fs : List Foot} {i : Nat} {P P' : Foot} (h : Own w0 w fs) (hi : i < fs.length) (hP : fs[i] = P) (hs : StepW w w' P P') : Own w0 w' (fs.set i P') := by
  refine ⟨h.held.step hi hP hs.st, fun Q hQ k hk => ?_, ⟨hs.os.trans h.base.os, hs.tape.trans h.base.tape, hs.output.trans h.base.output, Nat.le_trans h.base.size hs.st.size, fun k hk => (hs.st.same k (Nat.lt_of_lt_of_le hk h.base.size) (fun e => ?_)).trans (h.base.block k hk)⟩⟩
  · obtain ⟨j, hj, rfl⟩ := List.mem_iff_getElem.1 hQ
    rw [List.getElem_set] at hk
    split at hk
    · rcases (hs.st.own k hk).2 with q | q
      · exact h.low P (by rw [← hP]; exact List.getElem_mem hi) k q
      · exact Nat.le_trans h.base.size q
    · have hj2 : j < fs.length := by simpa using hj
      exact h.low (fs[j]'hj2) (List.getElem_mem hj2) k hk
  · have := h.low P (by rw [← hP]; exact List.getElem_mem hi) k e
    omega
theorem Own.below {w0 w w' : World} {fs : List Foot} (h : Own w0 w fs) (hb : Below w.heap.size w w') : Own w0 w' fs := ⟨h.held.below hb, h.low, h.base.trans (hb.mono h.base.size)⟩
theorem Own.new {w0 w w' : World} {fs : List Foot} {P : Foot} (h : Own w0 w fs) (hb : Below w.heap.size w w') (hP : ∀ k, P k → w.heap.size ≤ k ∧ k < w'.heap.size) : Own w0 w' (P :: fs) :=
  ⟨h.held.new hb.size hP, fun Q hQ k hk => by
    rcases List.mem_cons.1 hQ with rfl | hQ
    · exact Nat.le_trans h.base.size (hP k hk).1
    · exact h.low Q hQ k hk, h.base.trans (hb.mono h.base.size)⟩
theorem Own.drop {w0 w : World} {fs : List Foot} {P : Foot} (h : Own w0 w (P :: fs)) : Own w0 w fs :=
  ⟨⟨fun Q hQ => h.held.live Q (List.mem_cons_of_mem _ hQ), fun i j hi hj hij => by
    have := h.held.sep (i + 1) (j + 1) (by simpa using hi) (by simpa using hj) (by omega)
    simpa using this⟩, fun Q hQ => h.low Q (List.mem_cons_of_mem _ hQ), h.base⟩
theorem Own.keep {w0 w w' : World} {fs : List Foot} {i : Nat} {P P' : Foot} (h : Own w0 w fs) (hi : i < fs.length) (hP : fs[i] = P) (hs : StepW w w' P P') (j : Nat) (hj : j < fs.length) (hij : i ≠ j) : ∀ k, fs[j] k → w'.heap[k]? = w.heap[k]? := h.held.keep hs.st hi hj hP rfl hij
theorem Own.keepB {w0 w w' : World} {fs : List Foot} (h : Own w0 w fs) (hb : Below w.heap.size w w') (j : Nat) (hj : j < fs.length) : ∀ k, fs[j] k → w'.heap[k]? = w.heap[k]? := h.held.keepB hb hj rfl
/-- the two side by side -/
structure Pr (w : World) (gq gr : Nat) (vq vr : Value) (n : Int) (l : List Tm) (R : List On) : Prop where
  t : TwS w w gq gr vq vr vq vr n l R
  like : Like l R
def PF (gq gr : Nat) (vq vr : Value) : Foot := fun k => QF gq vq k ∨ QF gr vr k
def BF (b : Nat) : Foot := fun k => k = b
theorem Pr.same {w w' : World} {gq gr : Nat} {vq vr : Value} {n : Int} {l : List Tm} {R : List On} (h : Pr w gq gr vq vr n l R) (hs : ∀ k, PF gq gr vq vr k → w'.heap[k]? = w.heap[k]?) : Pr w' gq gr vq vr n l R :=
  ⟨⟨h.t.q.same (fun k hk => hs k (.inl hk)), h.t.r.same (fun k hk => hs k (.inr hk)), h.t.ne, h.t.a1, h.t.a2, h.t.a3, Grown4.refl _ _ _ _ _, fun k hk => .inl hk, fun k hk => .inl hk⟩, h.like⟩
theorem TwS.stepW {w w' : World} {gq gr : Nat} {vq vr vq' vr' : Value} {n' : Int} {l' : List Tm} {R' : List On} (h : TwS w w' gq gr vq vr vq' vr' n' l' R') (h0 : gq < w.heap.size) (h1 : gr < w.heap.size) : StepW w w' (PF gq gr vq vr) (PF gq gr vq' vr') :=
  ⟨⟨h.grow.size, fun k hk hn => h.grow.block k hk (fun e => hn (.inl (.inl e))) (fun e => hn (.inl (.inr e.symm))) (fun e => hn (.inr (.inl e))) (fun e => hn (.inr (.inr e.symm))), fun k hk => by
    rcases hk with (rfl | hk) | (rfl | hk)
    · exact ⟨Nat.lt_of_lt_of_le h0 h.grow.size, .inl (.inl (.inl rfl))⟩
    · exact ⟨(Row.live h.q.row hk).2, (h.ownq k hk).imp (fun q => .inl (.inr q)) id⟩
    · exact ⟨Nat.lt_of_lt_of_le h1 h.grow.size, .inl (.inr (.inl rfl))⟩
    · exact ⟨(Row.live h.r.row hk).2, (h.ownr k hk).imp (fun q => .inr (.inr q)) id⟩⟩, h.grow.os, h.grow.tape, h.grow.output⟩
/-- step, of a pair -/
theorem stepP {w : World} {gq gr : Nat} {vq vr : Value} {n : Int} {l : List Tm} {R : List On} (h : Pr w gq gr vq vr n l R) (kd id at_ sp : Int) : Calls Try.prog 14 #[.pointer (some ⟨gq, 0, none⟩), .pointer (some ⟨gr, 0, none⟩), .agg #[.int .i64 kd, .int .i64 id, .int .i64 at_, .int .i64 sp]] w fun e w' => e = .returned (.bool true) ∧ ∃ (vq' vr' : Value) (n' : Int) (l' : List Tm) (R' : List On), Pr w' gq gr vq' vr' n' l' R' ∧ StepW w w' (PF gq gr vq vr) (PF gq gr vq' vr') := by
  refine (step14 gq gr w vq vr n kd id at_ sp l R h.like h.t).mono ?_
  rintro e w' ⟨rfl, vq', vr', n', l', R', h2, hk2⟩
  exact ⟨rfl, vq', vr', n', l', R', ⟨h2.again, hk2⟩, h2.stepW (Array.getElem?_eq_some_iff.1 h.t.q.blk).1 (Array.getElem?_eq_some_iff.1 h.t.r.blk).1⟩
/-- what a world holds of them -/
structure One (w0 w : World) (gq gr : Nat) (vq vr : Value) (n : Int) (l : List Tm) (R : List On) (b : Nat) (kd id at_ sp : Int) : Prop where
  own : Own w0 w [BF b, PF gq gr vq vr]
  p : Pr w gq gr vq vr n l R
  box : BoxO w b kd id at_ sp
structure Duo (w0 w : World) (gq gr : Nat) (vq vr : Value) (n : Int) (l : List Tm) (R : List On) (gc gd : Nat) (vc vd : Value) (nc : Int) (lc : List Tm) (Rc : List On) : Prop where
  own : Own w0 w [PF gc gd vc vd, PF gq gr vq vr]
  p : Pr w gq gr vq vr n l R
  c : Pr w gc gd vc vd nc lc Rc
end Go.Proofs.Ytcgihilcjijckaa.F
