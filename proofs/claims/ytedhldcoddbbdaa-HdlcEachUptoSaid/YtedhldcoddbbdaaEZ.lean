import Derived.Test.YtedhldcoddbbdaaVA
import Derived.Test.YtedhldcoddbbdaaVB
import Derived.Test.YtedhldcoddbbdaaR6
import Derived.Test.YtedhldcoddbbdaaR4
import Derived.Test.YtedhldcoddbbdaaV9
import Derived.Test.YtedhldcoddbbdaaS6
set_option linter.unusedVariables false
set_option linter.unusedSimpArgs false
set_option linter.unnecessarySimpa false
/- Plain: which frame comes where. -/
namespace Go.Proofs.Ytedhldcoddbbdaa.F
open Go.RowKit Go.Proofs.Ytedhldcoddbbdaa.K
theorem Rn.feed_split (r : Rn) (bs : List (BitVec 8)) (k : Nat) : (r.feed bs).2 = (r.feed (bs.take k)).2 ++ ((r.feed (bs.take k)).1.feed (bs.drop k)).2 := by
  conv => lhs; rw [← List.take_append_drop k bs]
  rw [Rn.feed_append]
theorem Rn.feed_mono (r : Rn) (bs : List (BitVec 8)) (j k : Nat) (h : j ≤ k) : (r.feed (bs.take j)).2.length ≤ (r.feed (bs.take k)).2.length := by
  have := Rn.feed_split r (bs.take k) j
  rw [List.take_take, Nat.min_eq_left h] at this
  rw [this, List.length_append]
  omega
/-- the next frame is the one that is told next -/
theorem Rn.feed_here (r : Rn) (bs : List (BitVec 8)) (k : Nat) (hk : k < bs.length) (pre : List (Int × List (BitVec 8))) (x f : Int × List (BitVec 8)) (h : (r.feed (bs.take k)).2 = pre) (hs : ((r.feed (bs.take k)).1.step bs[k]).2 = some f) (hx : pre ++ [x] = (r.feed bs).2.take (pre.length + 1)) : f = x ∧ (r.feed (bs.take (k + 1))).2 = pre ++ [x] := by
  have h1 := Rn.feed_take r bs k hk
  rw [hs, h] at h1
  have h2 := Rn.feed_split r bs (k + 1)
  rw [h1] at h2
  have h3 : pre ++ [x] = pre ++ [f] := by
    rw [hx, h2]
    show List.take (pre.length + 1) ((pre ++ [f]) ++ _) = _
    rw [List.take_append_of_le_length (by simp), List.take_of_length_le (by simp)]
  have h4 : x = f := by simpa using h3
  subst h4
  exact ⟨rfl, by rw [h1]; rfl⟩
/-- no frame comes here -/
theorem Rn.feed_none (r : Rn) (bs : List (BitVec 8)) (k : Nat) (hk : k < bs.length) (pre : List (Int × List (BitVec 8))) (h : (r.feed (bs.take k)).2 = pre) (hs : ((r.feed (bs.take k)).1.step bs[k]).2 = none) : (r.feed (bs.take (k + 1))).2 = pre := by
  have h1 := Rn.feed_take r bs k hk
  rw [hs, h] at h1
  rw [h1]
  simp
/-- there is one more -/
theorem Rn.feed_more (r : Rn) (bs : List (BitVec 8)) (pre : List (Int × List (BitVec 8))) (x : Int × List (BitVec 8)) (h : (r.feed bs).2 = pre) (hx : pre ++ [x] = (r.feed bs).2.take (pre.length + 1)) : False := by
  rw [h] at hx
  have := congrArg List.length hx
  simp at this
/-- all have been told -/
theorem Rn.feed_all (r : Rn) (bs : List (BitVec 8)) (k : Nat) (hk : k < bs.length) (pre : List (Int × List (BitVec 8))) (h : (r.feed (bs.take k)).2 = pre) (ha : (r.feed bs).2 = pre) : ((r.feed (bs.take k)).1.step bs[k]).2 = none := by
  cases hs : ((r.feed (bs.take k)).1.step bs[k]).2 with
  | none => rfl
  | some f =>
    have h1 := Rn.feed_take r bs k hk
    rw [hs, h] at h1
    have h2 := Rn.feed_split r bs (k + 1)
    rw [h1, ha] at h2
    have := congrArg List.length h2
    simp at this
/-- where a frame ends -/
theorem Rn.feed_spot (r : Rn) (bs : List (BitVec 8)) (at_ m n : Nat) (h1 : (r.feed (bs.take at_)).2.length = n) (h0 : at_ = 0 ∨ (r.feed (bs.take (at_ - 1))).2.length < n) (hn : 0 < n) (h2 : (r.feed (bs.take m)).2.length < n) (h3 : (r.feed (bs.take (m + 1))).2.length = n) : at_ = m + 1 := by
  rcases Nat.lt_trichotomy at_ (m + 1) with q | q | q
  · have := Rn.feed_mono r bs at_ m (by omega)
    omega
  · exact q
  · rcases h0 with h0 | h0
    · omega
    · have := Rn.feed_mono r bs (m + 1) (at_ - 1) (by omega)
      omega
end Go.Proofs.Ytedhldcoddbbdaa.F

namespace Go.Proofs.Ytedhldcoddbbdaa.F
open Go.RowKit Go.Proofs.Ytedhldcoddbbdaa.K Go.Shelf
/-- the boxes -/
structure EB where
  bb : Nat
  bm : Nat
  bo : Nat
  g : Nat
  G : Nat
  br : Nat
  bn : Nat
  ba : Nat
  bl : Nat
  bx : Nat
structure EK (w w3 : World) (E : EB) : Prop where
  l0 : w.heap.size ≤ E.bb
  l1 : E.bb < E.bm
  l2 : E.bm < E.bo
  l3 : E.bo < E.g
  l4 : E.g < E.G
  l5 : E.G < E.br
  l6 : E.br < E.bn
  l7 : E.bn < E.ba
  l8 : E.ba < E.bl
  l9 : E.bl < E.bx
  l10 : E.bx < w3.heap.size
/-- between two rounds -/
structure EN (w w3 : World) (E : EB) (M : Int) (vb : Value) (bs : List (BitVec 8)) (r0 : Rn) (pre : List Fv) (W : World) : Prop where
  size : w3.heap.size ≤ W.heap.size
  below : Below w.heap.size w W
  bb : W.heap[E.bb]? = some (.cells #[vb] 22 (0, 0))
  bm : W.heap[E.bm]? = some (.cells #[.int .i64 M] 3 (0, 0))
  bo : ∃ o, W.heap[E.bo]? = some (.cells #[.bool o] 4 (0, 0))
  br : W.heap[E.br]? = some (.cells #[.pointer (some ⟨E.G, 0, none⟩)] 53 (0, 0))
  bn : W.heap[E.bn]? = some (.cells #[.int .i64 pre.length] 3 (0, 0))
  ba : ∃ (k : Nat) (u : Value), W.heap[E.ba]? = some (.cells #[.int .i64 k] 3 (0, 0)) ∧ k ≤ bs.length ∧ RnAt W E.G (r0.feed (bs.take k)).1 u ∧ (r0.feed (bs.take k)).2 = pre.map Fv.fr ∧ (k = 0 ∨ (r0.feed (bs.take (k - 1))).2.length < pre.length) ∧ ∀ j, u.ownBlock = some j → w3.heap.size ≤ j ∧ rowOf W E.g ≠ some j
  rw : ∀ j, rowOf W E.g = some j → w3.heap.size ≤ j ∧ j < W.heap.size
theorem RnAt.moved {W W' : World} {g : Nat} {r : Rn} {v : Value} (h : RnAt W g r v) (hb : W'.heap[g]? = W.heap[g]?) (hk : ∀ (k : Nat) (o : Obj), v.ownBlock = some k → W.heap[k]? = some o → o.isCells = true → W'.heap[k]? = some o) : RnAt W' g r v :=
  ⟨hb.trans h.blk, Row.moved h.row hk, h.ne⟩
theorem EN.rl {w w3 : World} {E : EB} {M : Int} {vb : Value} {bs : List (BitVec 8)} {r0 : Rn} {pre : List Fv} {A B : World} (hK : EK w w3 E) (h : EN w w3 E M vb bs r0 pre A) (hr : Rl E.g E.bx A B) : EN w w3 E M vb bs r0 pre B := by
  obtain ⟨l0, l1, l2, l3, l4, l5, l6, l7, l8, l9, l10⟩ := hK
  obtain ⟨h1, h2, h3, h4, ⟨o, h5⟩, h6, h7, ⟨k, u, h8, h9, h10, h11, h12, h13⟩, h14⟩ := h
  have hno : ∀ j, j < w3.heap.size → rowOf A E.g ≠ some j := fun j hj e => by have := (h14 j e).1; omega
  have mv : ∀ (j : Nat) (o : Obj), A.heap[j]? = some o → j < w3.heap.size → j ≠ E.g → j ≠ E.bx → B.heap[j]? = some o := fun j o hj k1 k2 k3 => hr.same j o hj k2 k3 (hno j k1)
  refine ⟨Nat.le_trans h1 hr.size, ⟨hr.os.trans h2.os, hr.tape.trans h2.tape, hr.output.trans h2.output, Nat.le_trans h2.size hr.size, fun j hj => ?_⟩, mv _ _ h3 (by omega) (by omega) (by omega), mv _ _ h4 (by omega) (by omega) (by omega), ⟨o, mv _ _ h5 (by omega) (by omega) (by omega)⟩, mv _ _ h6 (by omega) (by omega) (by omega), mv _ _ h7 (by omega) (by omega) (by omega), ⟨k, u, mv _ _ h8 (by omega) (by omega) (by omega), h9, ?_, h11, h12, fun j hj => ⟨(h13 j hj).1, fun e => ?_⟩⟩, fun j hj => ?_⟩
  · have e := h2.block j hj
    obtain ⟨o', ho⟩ : ∃ o', A.heap[j]? = some o' := ⟨_, Array.getElem?_eq_getElem (Nat.lt_of_lt_of_le hj h2.size)⟩
    rw [mv j o' ho (by omega) (by omega) (by omega), ← ho, e]
  · refine h10.moved ?_ (fun j o' hj ho _ => hr.same j o' ho ?_ ?_ (h13 j hj).2)
    · rw [mv _ _ h10.blk (by omega) (by omega) (by omega), h10.blk]
    · have := (h13 j hj).1; omega
    · have := (h13 j hj).1; omega
  · rcases hr.row j e with q | q
    · exact (h13 j hj).2 q
    · have := (Row.live h10.row hj).2; omega
  · rcases hr.row j hj with q | q
    · have := h14 j q
      exact ⟨this.1, Nat.lt_of_lt_of_le this.2 hr.size⟩
    · exact ⟨Nat.le_trans h1 q.1, q.2⟩
/-- a block that is no cells turns -/
theorem EN.own' {w w3 : World} {E : EB} {M : Int} {vb : Value} {bs : List (BitVec 8)} {r0 : Rn} (hK : EK w w3 E) : OwnFrom w3.heap.size (EN w w3 E M vb bs r0) := fun pre A B row h hg hr => by
  obtain ⟨l0, l1, l2, l3, l4, l5, l6, l7, l8, l9, l10⟩ := hK
  obtain ⟨h1, h2, h3, h4, ⟨o, h5⟩, h6, h7, ⟨k, u, h8, h9, h10, h11, h12, h13⟩, h14⟩ := h
  have key : ∀ (j : Nat) (o : Obj), A.heap[j]? = some o → o.isCells = true → B.heap[j]? = some o := fun j o hk ho => (hg.block j (Array.getElem?_eq_some_iff.1 hk).1 (fun e => by
    obtain ⟨-, o', q1, q2⟩ := hr j e.symm
    rw [hk] at q1
    cases q1
    rw [ho] at q2
    cases q2)).trans hk
  have hlo : ∀ j, j < w3.heap.size → B.heap[j]? = A.heap[j]? := fun j hj => hg.block j (by omega) (fun e => by have := (hr j e.symm).1; omega)
  have hrow : rowOf B E.g = rowOf A E.g := rowOf_block (hlo _ (by omega))
  refine ⟨Nat.le_trans h1 hg.size, ⟨hg.os.trans h2.os, hg.tape.trans h2.tape, hg.output.trans h2.output, Nat.le_trans h2.size hg.size, fun j hj => (hlo j (by omega)).trans (h2.block j hj)⟩, key _ _ h3 rfl, key _ _ h4 rfl, ⟨o, key _ _ h5 rfl⟩, key _ _ h6 rfl, key _ _ h7 rfl, ⟨k, u, key _ _ h8 rfl, h9, h10.moved (hlo _ (by omega)) (fun j o' hj ho hc => key j o' ho hc), h11, h12, by rw [hrow]; exact h13⟩, by rw [hrow]; exact fun j hj => ⟨(h14 j hj).1, Nat.lt_of_lt_of_le (h14 j hj).2 hg.size⟩⟩
/-- a frame has come -/
structure EX (w w3 : World) (E : EB) (M : Int) (vb : Value) (bs : List (BitVec 8)) (r0 : Rn) (pre : List Fv) (x : Fv) (W : World) : Prop where
  en : EN w w3 E M vb bs r0 pre W
  row : Row W w3.heap.size 5 1 x.u x.l.length (x.l.map b8)
  off : ∀ u, W.cell? ⟨E.G, 4, none⟩ = some u → ∀ j, u.ownBlock = some j → x.u.ownBlock ≠ some j
  no : ∀ j, x.u.ownBlock = some j → rowOf W E.g ≠ some j
  next : pre.map Fv.fr ++ [x.fr] = (r0.feed bs).2.take (pre.length + 1)
theorem EX.of {w w3 : World} {E : EB} {M : Int} {vb : Value} {bs : List (BitVec 8)} {r0 : Rn} {pre : List Fv} {x : Fv} {A B : World} (hK : EK w w3 E) (h : EN w w3 E M vb bs r0 pre A) (hr : Rl E.g E.bx A B) (hx : Gx E.g x A B) (hn : pre.map Fv.fr ++ [x.fr] = (r0.feed bs).2.take (pre.length + 1)) : EX w w3 E M vb bs r0 pre x B := by
  have hi := h.rl hK hr
  obtain ⟨k, u, -, -, h10, -, -, h13⟩ := h.ba
  obtain ⟨k', u', -, -, h10', -, -, -⟩ := hi.ba
  refine ⟨hi, hx.row.weak h.size, fun u2 hu j hj e => ?_, fun j _ => by rw [hx.none]; simp, hn⟩
  have e1 : A.heap[E.G]? = B.heap[E.G]? := by
    have := hr.same E.G _ h10.blk (by have := hK.l4; omega) (by have := hK.l5; have := hK.l6; have := hK.l7; have := hK.l8; have := hK.l9; omega) (fun e => by have := (h.rw _ e).1; have := hK.l5; have := hK.l6; have := hK.l7; have := hK.l8; have := hK.l9; have := hK.l10; omega)
    rw [this, h10.blk]
  have e2 : A.cell? ⟨E.G, 4, none⟩ = some u2 := (World.cell?_of_block (a := ⟨E.G, 4, none⟩) e1).trans hu
  have e3 : A.cell? ⟨E.G, 4, none⟩ = some u := h10.f.c4
  rw [e2] at e3
  cases e3
  have q1 := (Row.live h10.row hj).2
  have q2 := (Row.live hx.row e).1
  omega
theorem EX.own' {w w3 : World} {E : EB} {M : Int} {vb : Value} {bs : List (BitVec 8)} {r0 : Rn} (hK : EK w w3 E) {pre : List Fv} {x : Fv} {A B : World} {row : Option Nat} (h : EX w w3 E M vb bs r0 pre x A) (hg : A.grownBy B row) (hr : ∀ r, row = some r → w3.heap.size ≤ r ∧ ∃ o : Obj, A.heap[r]? = some o ∧ o.isCells = false) : EX w w3 E M vb bs r0 pre x B := by
  have key : ∀ (j : Nat) (o : Obj), A.heap[j]? = some o → o.isCells = true → B.heap[j]? = some o := fun j o hk ho => (hg.block j (Array.getElem?_eq_some_iff.1 hk).1 (fun e => by
    obtain ⟨-, o', q1, q2⟩ := hr j e.symm
    rw [hk] at q1
    cases q1
    rw [ho] at q2
    cases q2)).trans hk
  have hz := h.en.size
  have hlo : ∀ j, j < w3.heap.size → B.heap[j]? = A.heap[j]? := fun j hj => hg.block j (by omega) (fun e => by have := (hr j e.symm).1; omega)
  have hk5 := hK.l5; have hk6 := hK.l6; have hk7 := hK.l7; have hk8 := hK.l8; have hk9 := hK.l9; have hk10 := hK.l10; have hk4 := hK.l4
  have hrow : rowOf B E.g = rowOf A E.g := rowOf_block (hlo _ (by omega))
  refine ⟨EN.own' hK pre A B row h.en hg hr, Row.moved h.row (fun j o _ ho hc => key j o ho hc), fun u hu => h.off u ?_, by rw [hrow]; exact h.no, h.next⟩
  rw [← hu]
  exact World.cell?_of_block (a := ⟨E.G, 4, none⟩) (hlo E.G (by omega)).symm
end Go.Proofs.Ytedhldcoddbbdaa.F

namespace Go.Proofs.Ytedhldcoddbbdaa.F
open Go.RowKit Go.Proofs.Ytedhldcoddbbdaa.K Go.Shelf
/-- only some blocks have been written -/
structure Chg (X : Nat → Prop) (A B : World) : Prop where
  os : B.os = A.os
  tape : B.tape = A.tape
  output : B.output = A.output
  size : A.heap.size ≤ B.heap.size
  block : ∀ k, k < A.heap.size → ¬ X k → B.heap[k]? = A.heap[k]?
theorem Chg.refl (X : Nat → Prop) (A : World) : Chg X A A := ⟨rfl, rfl, rfl, Nat.le_refl _, fun _ _ _ => rfl⟩
theorem Chg.below {X : Nat → Prop} {A B C : World} (h : Chg X A B) (hb : Below B.heap.size B C) : Chg X A C :=
  ⟨hb.os.trans h.os, hb.tape.trans h.tape, hb.output.trans h.output, Nat.le_trans h.size hb.size, fun k hk hx => (hb.block k (Nat.lt_of_lt_of_le hk h.size)).trans (h.block k hk hx)⟩
theorem Chg.set {X : Nat → Prop} {A B : World} (h : Chg X A B) (b o : Nat) (v : Value) (hb : X b ∨ A.heap.size ≤ b) : Chg X A (B.setCell ⟨b, o, none⟩ v) :=
  ⟨h.os, h.tape, h.output, by simpa [World.setCell] using h.size, fun k hk hx => (heap_setCell_other _ _ _ _ (show k ≠ b from fun e => by
    subst e
    rcases hb with q | q
    · exact hx q
    · omega)).trans (h.block k hk hx)⟩
theorem Chg.rns {X : Nat → Prop} {A B C : World} {G : Nat} {u u' : Value} {r : Rn} (h : Chg X A B) (hs : RnS B C G u u' r) (hG : X G) (hu : ∀ j, u.ownBlock = some j → X j ∨ A.heap.size ≤ j) : Chg X A C :=
  ⟨hs.grow.os.trans h.os, hs.grow.tape.trans h.tape, hs.grow.output.trans h.output, Nat.le_trans h.size hs.grow.size, fun k hk hx => (hs.grow.block k (Nat.lt_of_lt_of_le hk h.size) (fun e => by subst e; exact hx hG) (fun e => by
    rcases hu k e.symm with q | q
    · exact hx q
    · omega)).trans (h.block k hk hx)⟩
theorem Chg.keeps {X : Nat → Prop} {A B : World} {n : Nat} (h : Chg X A B) (hx : ∀ k o, X k → A.heap[k]? = some o → o.isCells = true) : KeepsFrom n A B :=
  ⟨h.size, fun k o hB ho hcl => (h.block k (Array.getElem?_eq_some_iff.1 ho).1 (fun e => by
    have := hx k o e ho
    rw [this] at hcl
    cases hcl)).trans ho⟩
theorem Chg.kp {X : Nat → Prop} {A B : World} {T : List Nat} {g : Nat} (h : Chg X A B) (h1 : ∀ k ∈ T, ¬ X k) (h2 : ∀ k, rowOf A g = some k → ¬ X k) : Kp T g A B :=
  ⟨h.size, fun k o ho hcl hm => (h.block k (Array.getElem?_eq_some_iff.1 ho).1 (hm.elim (h1 k) (h2 k))).trans ho⟩
/-- what a round writes -/
def XX (E : EB) (gb : Nat) (u0 : Value) (k : Nat) : Prop := k = E.ba ∨ k = E.G ∨ k = gb ∨ u0.ownBlock = some k
/-- within a round, at the inner loop -/
structure L1 (w3 W0 : World) (E : EB) (bs : List (BitVec 8)) (r0 : Rn) (pre : List Fv) (x : Fv) (gb : Nat) (u0 : Value) (k : Nat) (ok : Bool) (W : World) : Prop where
  chg : Chg (XX E gb u0) W0 W
  ba : W.heap[E.ba]? = some (.cells #[.int .i64 k] 3 (0, 0))
  kle : k ≤ bs.length
  line : ∃ u, RnAt W E.G (r0.feed (bs.take k)).1 u ∧ ∀ j, u.ownBlock = some j → u0.ownBlock = some j ∨ W0.heap.size ≤ j
  gbx : ∃ gn gu, W.heap[gb]? = some (.cells #[.int .i64 gn, gu] 24 (0, 0)) ∧ (∃ A n c, gu = .slice A n c) ∧ (ok = true → gn = x.n ∧ Row W W0.heap.size 5 1 gu x.l.length (x.l.map b8))
  seq : (ok = false ∧ (r0.feed (bs.take k)).2 = pre.map Fv.fr) ∨ (ok = true ∧ 1 ≤ k ∧ (r0.feed (bs.take k)).2 = pre.map Fv.fr ++ [x.fr] ∧ (r0.feed (bs.take (k - 1))).2 = pre.map Fv.fr)
/-- the round's constants -/
structure LK (w w3 W0 : World) (E : EB) (gb : Nat) (u0 : Value) : Prop where
  ek : EK w w3 E
  lo : w3.heap.size ≤ gb
  hi : gb < W0.heap.size
  u0 : ∀ j, u0.ownBlock = some j → w3.heap.size ≤ j ∧ j ≠ gb ∧ j < W0.heap.size
theorem L1.own {w w3 W0 W : World} {E : EB} {bs : List (BitVec 8)} {r0 : Rn} {pre : List Fv} {x : Fv} {gb : Nat} {u0 u : Value} (hK : LK w w3 W0 E gb u0) (hu : ∀ j, u.ownBlock = some j → u0.ownBlock = some j ∨ W0.heap.size ≤ j) : ∀ j, u.ownBlock = some j → w3.heap.size ≤ j ∧ j ≠ gb := fun j hj => by
  have h1 := hK.lo
  have h2 := hK.hi
  rcases hu j hj with q | q
  · exact ⟨(hK.u0 j q).1, (hK.u0 j q).2.1⟩
  · exact ⟨by omega, by omega⟩
/-- the boxes behind a byte -/
theorem L1.boxes {w w3 W0 W wx : World} {E : EB} {bs : List (BitVec 8)} {r0 : Rn} {pre : List Fv} {x : Fv} {gb k : Nat} {u0 u u' : Value} {ok : Bool} {r1 : Rn} (hK : LK w w3 W0 E gb u0) (h : L1 w3 W0 E bs r0 pre x gb u0 k ok W) (hu : ∀ j, u.ownBlock = some j → u0.ownBlock = some j ∨ W0.heap.size ≤ j) (hs : RnS W wx E.G u u' r1) : wx.heap[gb]? = W.heap[gb]? ∧ wx.heap[E.ba]? = some (.cells #[.int .i64 k] 3 (0, 0)) := by
  obtain ⟨l0, l1, l2, l3, l4, l5, l6, l7, l8, l9, l10⟩ := hK.ek
  have h1 := hK.lo
  have h2 := hK.hi
  have h3 := h.chg.size
  have ho := L1.own (bs := bs) (r0 := r0) (pre := pre) (x := x) (W := W) hK hu
  refine ⟨hs.grow.block gb (by omega) (by omega) (fun e => (ho gb e.symm).2 rfl), (hs.grow.block E.ba (Array.getElem?_eq_some_iff.1 h.ba).1 (by omega) (fun e => by have := (ho _ e.symm).1; omega)).trans h.ba⟩
theorem L1.next {w w3 W0 W wx : World} {E : EB} {bs : List (BitVec 8)} {r0 : Rn} {pre : List Fv} {x : Fv} {gb k : Nat} {u0 u u' : Value} (hK : LK w w3 W0 E gb u0) (h : L1 w3 W0 E bs r0 pre x gb u0 k false W) (hk : k < bs.length) (hn : pre.map Fv.fr ++ [x.fr] = (r0.feed bs).2.take (pre.length + 1)) (hu : ∀ j, u.ownBlock = some j → u0.ownBlock = some j ∨ W0.heap.size ≤ j) {n : Int} {uu : Value} {okb : Bool} (huu : ∃ A m c, uu = .slice A m c)
    (hs : RnS W wx E.G u u' ((r0.feed (bs.take k)).1.step bs[k]).1) (hc : (okb = false ∧ ((r0.feed (bs.take k)).1.step bs[k]).2 = none ∧ n = 0 ∧ uu = .slice none 0 0) ∨ ∃ l, okb = true ∧ ((r0.feed (bs.take k)).1.step bs[k]).2 = some (n, l) ∧ Row wx W.heap.size 5 1 uu l.length (l.map b8) ∧ u'.ownBlock = none) :
    L1 w3 W0 E bs r0 pre x gb u0 (k + 1) okb (((wx.setCell ⟨gb, 0, none⟩ (.int .i64 n)).setCell ⟨gb, 1, none⟩ uu).setCell ⟨E.ba, 0, none⟩ (.int .i64 ((k + 1 : Nat) : Int))) := by
  obtain ⟨hb1, hb2⟩ := L1.boxes hK h hu hs
  have ho := L1.own (bs := bs) (r0 := r0) (pre := pre) (x := x) (W := W) hK hu
  obtain ⟨l0, l1, l2, l3, l4, l5, l6, l7, l8, l9, l10⟩ := hK.ek
  have h1 := hK.lo
  have h2 := hK.hi
  have h3 := h.chg.size
  have h4 := hs.grow.size
  obtain ⟨gn, gu, q1, -, -⟩ := h.gbx
  rw [q1] at hb1
  have hf := Rn.feed_take r0 bs k hk
  have hpre : (r0.feed (bs.take k)).2 = pre.map Fv.fr := by
    rcases h.seq with q | q
    · exact q.2
    · exact absurd q.1 (by simp)
  have hown' : ∀ j, u'.ownBlock = some j → u0.ownBlock = some j ∨ W0.heap.size ≤ j := fun j hj => by
    rcases hs.own j hj with q | q
    · exact hu j q
    · exact .inr (by omega)
  have ho' := L1.own (bs := bs) (r0 := r0) (pre := pre) (x := x) (W := W) hK hown'
  have s1 : wx.grownBy ((wx.setCell ⟨gb, 0, none⟩ (.int .i64 n)).setCell ⟨gb, 1, none⟩ uu) (some gb) := ⟨rfl, rfl, rfl, by simp [World.setCell], fun k _ hk => (heap_setCell_other _ _ _ _ (fun e => hk (by simp [e]))).trans (heap_setCell_other _ _ _ _ (fun e => hk (by simp [e])))⟩
  generalize hWa : (wx.setCell ⟨gb, 0, none⟩ (.int .i64 n)).setCell ⟨gb, 1, none⟩ uu = Wa at *
  have hfa : Wa.heap[gb]? = some (.cells #[.int .i64 n, uu] 24 (0, 0)) := by rw [← hWa]; exact frame_set hb1
  have hba : Wa.heap[E.ba]? = some (.cells #[.int .i64 k] 3 (0, 0)) := (s1.block E.ba (Array.getElem?_eq_some_iff.1 hb2).1 (by simp; omega)).trans hb2
  have s2 : Wa.grownBy (Wa.setCell ⟨E.ba, 0, none⟩ (.int .i64 ((k + 1 : Nat) : Int))) (some E.ba) := ⟨rfl, rfl, rfl, by simp [World.setCell], fun k _ hk => heap_setCell_other _ _ _ _ (fun e => hk (by simp [e]))⟩
  refine ⟨?_, (heap_setCell_same _ _ _ _ _ _ hba).trans rfl, by omega, ⟨u', ⟨?_, ?_, hs.q.ne⟩, hown'⟩, ⟨n, uu, ?_, huu, fun hok => ?_⟩, ?_⟩
  · refine Chg.set ?_ E.ba 0 _ (.inl (.inl rfl))
    rw [← hWa]
    refine Chg.set (Chg.set ?_ gb 0 _ (.inl (.inr (.inr (.inl rfl))))) gb 1 _ (.inl (.inr (.inr (.inl rfl))))
    exact h.chg.rns hs (.inr (.inl rfl)) (fun j hj => (hu j hj).imp (fun q => .inr (.inr (.inr q))) id)
  · rw [hf]
    refine (s2.block E.G ?_ (by simp; omega)).trans ((s1.block E.G (Array.getElem?_eq_some_iff.1 hs.q.blk).1 (by simp; omega)).trans hs.q.blk)
    have := s1.size
    have := (Array.getElem?_eq_some_iff.1 hs.q.blk).1
    omega
  · rw [hf]
    exact (hs.q.row.kept s1 (fun j hj e => by simp at e; exact (ho' j hj).2 e.symm)).kept s2 (fun j hj e => by simp at e; have := (ho' j hj).1; omega)
  · refine (s2.block gb ?_ (by simp; omega)).trans hfa
    have := (Array.getElem?_eq_some_iff.1 hfa).1
    exact this
  · rcases hc with ⟨e, -⟩ | ⟨l, -, c2, c3, -⟩
    · rw [hok] at e; cases e
    · obtain ⟨e1, -⟩ := Rn.feed_here r0 bs k hk _ x.fr (n, l) hpre c2 (by rw [List.length_map]; exact hn)
      have e2 : n = x.n := congrArg Prod.fst e1
      have e3 : l = x.l := congrArg Prod.snd e1
      subst e2 e3
      refine ⟨rfl, ((c3.weak (by omega)).kept s1 (fun j hj e => ?_)).kept s2 (fun j hj e => ?_)⟩
      · have := (Row.live c3 hj).1
        simp at e
        omega
      · have := (Row.live c3 hj).1
        simp at e
        omega
  · rcases hc with ⟨e, c2, -⟩ | ⟨l, e, c2, -, -⟩
    · exact .inl ⟨e, Rn.feed_none r0 bs k hk _ hpre c2⟩
    · obtain ⟨-, e2⟩ := Rn.feed_here r0 bs k hk _ x.fr (n, l) hpre c2 (by rw [List.length_map]; exact hn)
      exact .inr ⟨e, by omega, e2, by rw [Nat.add_sub_cancel]; exact hpre⟩
/-- the round begins -/
theorem EX.start {w w3 : World} {E : EB} {M : Int} {vb : Value} {bs : List (BitVec 8)} {r0 : Rn} {pre : List Fv} {x : Fv} {W : World} (hK : EK w w3 E) (h : EX w w3 E M vb bs r0 pre x W) : ∃ (k : Nat) (u0 : Value), W.cell? ⟨E.G, 4, none⟩ = some u0 ∧ LK w w3 (W.alloc (.cells #[.int .i64 0, .slice none 0 0] 24)) E W.heap.size u0 ∧ L1 w3 (W.alloc (.cells #[.int .i64 0, .slice none 0 0] 24)) E bs r0 pre x W.heap.size u0 k false (W.alloc (.cells #[.int .i64 0, .slice none 0 0] 24)) := by
  obtain ⟨k, u, h8, h9, h10, h11, h12, h13⟩ := h.en.ba
  have hb : Below W.heap.size W (W.alloc (.cells #[.int .i64 0, .slice none 0 0] 24)) := (Below.refl _ W).alloc (Nat.le_refl _) _
  have hz : (W.alloc (.cells #[.int .i64 0, .slice none 0 0] 24)).heap.size = W.heap.size + 1 := by simp
  refine ⟨k, u, h10.f.c4, ⟨hK, h.en.size, by omega, fun j hj => ?_⟩, ⟨Chg.refl _ _, (hb.block _ (Array.getElem?_eq_some_iff.1 h8).1).trans h8, h9, ⟨u, h10.below hb, fun j hj => .inl hj⟩, ⟨0, .slice none 0 0, heap_alloc_new _ _, ⟨none, 0, 0, rfl⟩, fun e => by cases e⟩, .inl ⟨rfl, h11⟩⟩⟩
  have := (Row.live h10.row hj).2
  exact ⟨(h13 j hj).1, by omega, by omega⟩
/-- what lay there ahead of the round, but for what a round writes -/
theorem L1.old {w3 Wb W : World} {E : EB} {bs : List (BitVec 8)} {r0 : Rn} {pre : List Fv} {x : Fv} {gb k : Nat} {u0 : Value} {ok : Bool} {c : Obj} (h : L1 w3 (Wb.alloc c) E bs r0 pre x gb u0 k ok W) : ∀ j, j < Wb.heap.size → ¬ XX E gb u0 j → W.heap[j]? = Wb.heap[j]? := fun j hj hx =>
  (h.chg.block j (by simp; omega) hx).trans (Below.heap_alloc _ _ _ hj)
/-- .. and ends -/
theorem L1.done {w w3 Wb W W2 : World} {E : EB} {M : Int} {vb : Value} {bs : List (BitVec 8)} {r0 : Rn} {pre : List Fv} {x : Fv} {k : Nat} {u0 : Value} (hx : EX w w3 E M vb bs r0 pre x Wb) (hc4 : Wb.cell? ⟨E.G, 4, none⟩ = some u0) (hK : LK w w3 (Wb.alloc (.cells #[.int .i64 0, .slice none 0 0] 24)) E Wb.heap.size u0) (h : L1 w3 (Wb.alloc (.cells #[.int .i64 0, .slice none 0 0] 24)) E bs r0 pre x Wb.heap.size u0 k true W) (hb : Below W.heap.size W W2) :
    EN w w3 E M vb bs r0 (pre ++ [x]) (W2.setCell ⟨E.bn, 0, none⟩ (.int .i64 ((pre.length + 1 : Nat) : Int))) ∧ KeepsFrom w3.heap.size Wb (W2.setCell ⟨E.bn, 0, none⟩ (.int .i64 ((pre.length + 1 : Nat) : Int))) ∧ ∀ T : List Nat, (∀ j ∈ T, j < w3.heap.size ∧ j ≠ E.bn ∧ j ≠ E.ba ∧ j ≠ E.G) → Kp T E.g Wb (W2.setCell ⟨E.bn, 0, none⟩ (.int .i64 ((pre.length + 1 : Nat) : Int))) := by
  obtain ⟨l0, l1, l2, l3, l4, l5, l6, l7, l8, l9, l10⟩ := hK.ek
  obtain ⟨k0, u, h8, h9, h10, h11, h12, h13⟩ := hx.en.ba
  have e0 : u = u0 := by
    have := h10.f.c4
    rw [hc4] at this
    cases this
    rfl
  subst e0
  have hz0 := hx.en.size
  have hzs : (Wb.alloc (.cells #[.int .i64 0, .slice none 0 0] 24)).heap.size = Wb.heap.size + 1 := by simp
  have hz1 := h.chg.size
  have hz2 := hb.size
  have hW2 : ∀ j, j < W.heap.size → W2.heap[j]? = W.heap[j]? := fun j hj => hb.block j hj
  have hold : ∀ j, j < Wb.heap.size → ¬ (j = E.bn ∨ XX E Wb.heap.size u j) → (W2.setCell ⟨E.bn, 0, none⟩ (.int .i64 ((pre.length + 1 : Nat) : Int))).heap[j]? = Wb.heap[j]? := fun j hj hxx => by
    rw [heap_setCell_other _ _ _ _ (show j ≠ E.bn from fun e => hxx (.inl e)), hW2 j (by omega)]
    exact h.old j hj (fun q => hxx (.inr q))
  have hlow : ∀ j, j < w3.heap.size → j ≠ E.ba → j ≠ E.G → ¬ XX E Wb.heap.size u j := fun j hj k2 k3 q => by
    rcases q with q | q | q | q
    · exact k2 q
    · exact k3 q
    · omega
    · have := (h13 j q).1; omega
  have hlow2 : ∀ j, j < w3.heap.size → j ≠ E.bn → j ≠ E.ba → j ≠ E.G → ¬ (j = E.bn ∨ XX E Wb.heap.size u j) := fun j hj k1 k2 k3 q => q.elim k1 (hlow j hj k2 k3)
  have hchg : Chg (fun j => j = E.bn ∨ XX E Wb.heap.size u j) Wb (W2.setCell ⟨E.bn, 0, none⟩ (.int .i64 ((pre.length + 1 : Nat) : Int))) := ⟨hb.os.trans h.chg.os, hb.tape.trans h.chg.tape, hb.output.trans h.chg.output, by simp [World.setCell]; omega, hold⟩
  have hset : W2.grownBy (W2.setCell ⟨E.bn, 0, none⟩ (.int .i64 ((pre.length + 1 : Nat) : Int))) (some E.bn) := ⟨rfl, rfl, rfl, by simp [World.setCell], fun k _ hk => heap_setCell_other _ _ _ _ (fun e => hk (by simp [e]))⟩
  have hrow : rowOf (W2.setCell ⟨E.bn, 0, none⟩ (.int .i64 ((pre.length + 1 : Nat) : Int))) E.g = rowOf Wb E.g := rowOf_block (hold _ (by omega) (hlow2 _ (by omega) (by omega) (by omega) (by omega)))
  obtain ⟨uu, hl1, hl2⟩ := h.line
  have ho := L1.own (bs := bs) (r0 := r0) (pre := pre) (x := x) (W := W) hK hl2
  have hbn : W2.heap[E.bn]? = some (.cells #[.int .i64 pre.length] 3 (0, 0)) := (hW2 _ (by omega)).trans ((h.old _ (by omega) (hlow _ (by omega) (by omega) (by omega))).trans hx.en.bn)
  have hsz3 : W2.heap.size = (W2.setCell ⟨E.bn, 0, none⟩ (.int .i64 ((pre.length + 1 : Nat) : Int))).heap.size := by simp [World.setCell]
  have hsq : 1 ≤ k ∧ (r0.feed (bs.take k)).2 = pre.map Fv.fr ++ [x.fr] ∧ (r0.feed (bs.take (k - 1))).2 = pre.map Fv.fr := by
    rcases h.seq with q | q
    · exact absurd q.1 (by simp)
    · exact q.2
  have keep : ∀ j, j < w3.heap.size → j ≠ E.bn → j ≠ E.ba → j ≠ E.G → (W2.setCell ⟨E.bn, 0, none⟩ (.int .i64 ((pre.length + 1 : Nat) : Int))).heap[j]? = Wb.heap[j]? := fun j hj k1 k2 k3 => hold j (by omega) (hlow2 j hj k1 k2 k3)
  refine ⟨⟨by omega, ⟨hchg.os.trans hx.en.below.os, hchg.tape.trans hx.en.below.tape, hchg.output.trans hx.en.below.output, Nat.le_trans hx.en.below.size hchg.size, fun j hj => (keep j (by omega) (by omega) (by omega) (by omega)).trans (hx.en.below.block j hj)⟩,
    (keep _ (by omega) (by omega) (by omega) (by omega)).trans hx.en.bb, (keep _ (by omega) (by omega) (by omega) (by omega)).trans hx.en.bm, ?_, (keep _ (by omega) (by omega) (by omega) (by omega)).trans hx.en.br, ?_, ⟨k, uu, ?_, h.kle, ?_, by rw [hsq.2.1]; simp, .inr (by rw [hsq.2.2]; simp), fun j hj => ⟨(ho j hj).1, ?_⟩⟩, ?_⟩, ?_, fun T hT => ?_⟩
  · obtain ⟨o, ho2⟩ := hx.en.bo
    exact ⟨o, (keep _ (by omega) (by omega) (by omega) (by omega)).trans ho2⟩
  · rw [List.length_append]
    exact (heap_setCell_same _ _ _ _ _ _ hbn).trans rfl
  · exact (hset.block E.ba (by omega) (by simp; omega)).trans ((hW2 _ (by omega)).trans h.ba)
  · have hl3 := hl1.below hb
    exact ⟨(hset.block E.G (by omega) (by simp; omega)).trans hl3.blk, hl3.row.kept hset (fun j hj e => by simp at e; have := (ho j hj).1; omega), hl3.ne⟩
  · rw [hrow]
    intro e
    rcases hl2 j hj with q | q
    · exact (h13 j q).2 e
    · have := (hx.en.rw j e).2; omega
  · rw [hrow]
    intro j hj
    have := hx.en.rw j hj
    exact ⟨this.1, by omega⟩
  · refine hchg.keeps (fun j o hj ho2 => ?_)
    rcases hj with q | q | q | q | q
    · subst q; rw [hx.en.bn] at ho2; cases ho2; rfl
    · subst q; rw [h8] at ho2; cases ho2; rfl
    · subst q; rw [h10.blk] at ho2; cases ho2; rfl
    · subst q; rw [Array.getElem?_eq_none (Nat.le_refl _)] at ho2; cases ho2
    · rcases h10.row.form with ⟨q1, -⟩ | ⟨b, cap, cur, q1, q2, q3, -⟩
      · rw [q1] at q; simp [Value.ownBlock] at q
      · rw [q1] at q
        simp only [Value.ownBlock, Option.some.injEq] at q
        subst q
        rw [q3] at ho2; cases ho2; rfl
  · refine hchg.kp (fun j hj q => ?_) (fun j hj q => ?_)
    · have := hT j hj
      exact hlow2 j this.1 this.2.1 this.2.2.1 this.2.2.2 q
    · have h1 := hx.en.rw j hj
      rcases q with q | q | q | q | q
      · omega
      · omega
      · omega
      · omega
      · exact (h13 j q).2 hj
theorem res7 (tmps : Array Value) (W : World) (b : Nat) (x : Bool) (hp : tmps.getD 10 undef = .pointer (some ⟨b, 0, none⟩)) (hc : W.cell? ⟨b, 0, none⟩ = some (.bool x)) : (results Try.f7 tmps).run Try.prog W = .ok (.bool x) W := by
  have h : Try.f7.results = #[.cell 10 4] := rfl
  have hp' : tmps[10]?.getD undef = .pointer (some ⟨b, 0, none⟩) := by simpa using hp
  have hu := run_underlying (P := Try.prog) (w := W) Try.underlying4
  simp [results, h, hp', asAddr, loadVar, hu, go_sem, hc]
/-- the loop variable's box is laid -/
structure E2 (w w3 : World) (E : EB) (M : Int) (vb : Value) (bs : List (BitVec 8)) (r0 : Rn) (act : Fv → Nat → Act) (pre : List Fv) (x : Fv) (a : Act) (W : World) : Prop where
  ex : EX w w3 E M vb bs r0 pre x W
  box : ∃ bf, a = act x bf ∧ W.heap[bf]? = some (.cells #[.int .i64 x.n, x.u] 24 (0, 0)) ∧ w3.heap.size ≤ bf ∧ ∀ u, W.cell? ⟨E.G, 4, none⟩ = some u → u.ownBlock ≠ some bf
theorem E2.own {w w3 : World} {E : EB} {M : Int} {vb : Value} {bs : List (BitVec 8)} {r0 : Rn} {act : Fv → Nat → Act} (hK : EK w w3 E) : OwnFrom w3.heap.size (fun (s : List Fv × Fv × Act) W => E2 w w3 E M vb bs r0 act s.1 s.2.1 s.2.2 W) := fun s A B row h hg hr => by
  obtain ⟨h1, bf, h2, h3, h4, h5⟩ := h
  have hz := h1.en.size
  have hk5 := hK.l5; have hk6 := hK.l6; have hk7 := hK.l7; have hk8 := hK.l8; have hk9 := hK.l9; have hk10 := hK.l10
  refine ⟨h1.own' hK hg hr, bf, h2, (hg.block bf (Array.getElem?_eq_some_iff.1 h3).1 (fun e => ?_)).trans h3, h4, fun u hu => h5 u ?_⟩
  · obtain ⟨-, o', q1, q2⟩ := hr bf e.symm
    rw [h3] at q1
    cases q1
    cases q2
  · rw [← hu]
    exact World.cell?_of_block (a := ⟨E.G, 4, none⟩) (hg.block E.G (by omega) (fun e => by have := (hr _ e.symm).1; omega)).symm
theorem EX.box {w w3 : World} {E : EB} {M : Int} {vb : Value} {bs : List (BitVec 8)} {r0 : Rn} {act : Fv → Nat → Act} {pre : List Fv} {x : Fv} {W : World} {a : Act} (hK : EK w w3 E) (h : EX w w3 E M vb bs r0 pre x W) (ha : a = act x W.heap.size) : E2 w w3 E M vb bs r0 act pre x a (W.alloc (.cells #[.int .i64 x.n, x.u] 24)) := by
  have h1 := h.own' hK (World.grownBy_alloc W (.cells #[.int .i64 x.n, x.u] 24) none) (fun r e => by cases e)
  refine ⟨h1, W.heap.size, ha, heap_alloc_new W _, h.en.size, fun u hu e => ?_⟩
  obtain ⟨k, u', -, -, h10, -, -, -⟩ := h.en.ba
  have hlt := (Array.getElem?_eq_some_iff.1 h10.blk).1
  have e1 : W.cell? ⟨E.G, 4, none⟩ = some u := (World.cell?_of_block (a := ⟨E.G, 4, none⟩) (Below.heap_alloc _ _ _ hlt).symm).trans hu
  rw [h10.f.c4] at e1
  cases e1
  have := (Row.live h10.row e).2
  omega
theorem L1.facts {w w3 Wb W : World} {E : EB} {M : Int} {vb : Value} {bs : List (BitVec 8)} {r0 : Rn} {pre : List Fv} {x : Fv} {k bf : Nat} {u0 : Value} {ok : Bool} (hx : EX w w3 E M vb bs r0 pre x Wb) (hbf : Wb.heap[bf]? = some (.cells #[.int .i64 x.n, x.u] 24 (0, 0))) (hlo : w3.heap.size ≤ bf) (hc4 : Wb.cell? ⟨E.G, 4, none⟩ = some u0) (hbu : u0.ownBlock ≠ some bf) (hK : LK w w3 (Wb.alloc (.cells #[.int .i64 0, .slice none 0 0] 24)) E Wb.heap.size u0) (h : L1 w3 (Wb.alloc (.cells #[.int .i64 0, .slice none 0 0] 24)) E bs r0 pre x Wb.heap.size u0 k ok W) :
    Below w.heap.size w W ∧ W.heap[E.bb]? = some (.cells #[vb] 22 (0, 0)) ∧ W.heap[E.bm]? = some (.cells #[.int .i64 M] 3 (0, 0)) ∧ W.heap[E.br]? = some (.cells #[.pointer (some ⟨E.G, 0, none⟩)] 53 (0, 0)) ∧ W.heap[E.bn]? = some (.cells #[.int .i64 pre.length] 3 (0, 0)) ∧ W.heap[bf]? = some (.cells #[.int .i64 x.n, x.u] 24 (0, 0)) ∧ Row W w3.heap.size 5 1 x.u x.l.length (x.l.map b8) := by
  obtain ⟨l0, l1, l2, l3, l4, l5, l6, l7, l8, l9, l10⟩ := hK.ek
  have hz := hx.en.size
  have hu0 := hK.u0
  have hblt := (Array.getElem?_eq_some_iff.1 hbf).1
  have hzs : (Wb.alloc (.cells #[.int .i64 0, .slice none 0 0] 24)).heap.size = Wb.heap.size + 1 := by simp
  have hz1 := h.chg.size
  have hlow : ∀ j, j < w3.heap.size → j ≠ E.ba → j ≠ E.G → ¬ XX E Wb.heap.size u0 j := fun j hj k2 k3 q => by
    rcases q with q | q | q | q
    · exact k2 q
    · exact k3 q
    · omega
    · have := (hu0 j q).1; omega
  refine ⟨⟨h.chg.os.trans hx.en.below.os, h.chg.tape.trans hx.en.below.tape, h.chg.output.trans hx.en.below.output, by have := hx.en.below.size; omega, fun j hj => (h.old j (by omega) (hlow j (by omega) (by omega) (by omega))).trans (hx.en.below.block j hj)⟩,
    (h.old _ (by omega) (hlow _ (by omega) (by omega) (by omega))).trans hx.en.bb, (h.old _ (by omega) (hlow _ (by omega) (by omega) (by omega))).trans hx.en.bm, (h.old _ (by omega) (hlow _ (by omega) (by omega) (by omega))).trans hx.en.br, (h.old _ (by omega) (hlow _ (by omega) (by omega) (by omega))).trans hx.en.bn, (h.old _ hblt (fun q => ?_)).trans hbf, Row.moved hx.row (fun j o hj ho _ => (h.old j (Array.getElem?_eq_some_iff.1 ho).1 (fun q => ?_)).trans ho)⟩
  · rcases q with q | q | q | q
    · omega
    · omega
    · omega
    · exact hbu q
  · have h1 := (Row.live hx.row hj)
    rcases q with q | q | q | q
    · omega
    · omega
    · omega
    · exact hx.off u0 hc4 j q hj
theorem L1.bel {w3 W0 W W2 : World} {E : EB} {bs : List (BitVec 8)} {r0 : Rn} {pre : List Fv} {x : Fv} {gb k : Nat} {u0 : Value} {ok : Bool} (h : L1 w3 W0 E bs r0 pre x gb u0 k ok W) (hb : Below W.heap.size W W2) : L1 w3 W0 E bs r0 pre x gb u0 k ok W2 := by
  obtain ⟨h1, h2, h3, ⟨u, h4, h5⟩, ⟨gn, gu, h6, h7, h8⟩, h9⟩ := h
  exact ⟨h1.below hb, (hb.block _ (Array.getElem?_eq_some_iff.1 h2).1).trans h2, h3, ⟨u, h4.below hb, h5⟩, ⟨gn, gu, (hb.block _ (Array.getElem?_eq_some_iff.1 h6).1).trans h6, h7, fun e => ⟨(h8 e).1, (h8 e).2.below hb⟩⟩, h9⟩
/-- what is left -/
def mk7 (ba len : Nat) (W : World) : Nat := len - (intOf ((W.cell? ⟨ba, 0, none⟩).getD undef)).toNat
theorem L1.meas {w3 W0 W : World} {E : EB} {bs : List (BitVec 8)} {r0 : Rn} {pre : List Fv} {x : Fv} {gb k : Nat} {u0 : Value} {ok : Bool} (h : L1 w3 W0 E bs r0 pre x gb u0 k ok W) : mk7 E.ba bs.length W = bs.length - k := by
  have : W.cell? ⟨E.ba, 0, none⟩ = some (.int .i64 k) := cell_of_row _ _ _ _ _ _ h.ba
  unfold mk7
  rw [this]
  simp [intOf]
end Go.Proofs.Ytedhldcoddbbdaa.F

namespace Go.Proofs.Ytedhldcoddbbdaa.F
open Go.RowKit Go.Proofs.Ytedhldcoddbbdaa.K Go.Shelf
theorem row_isc {W : World} {B : Nat} {v : Value} {l : List (BitVec 8)} (h : Row W B 5 1 v l.length (l.map b8)) {j : Nat} (hj : v.ownBlock = some j) : ∃ o : Obj, W.heap[j]? = some o ∧ o.isCells = true := by
  rcases h.form with ⟨q1, -⟩ | ⟨b, cap, cur, q1, q2, q3, -⟩
  · rw [q1] at hj; simp [Value.ownBlock] at hj
  · rw [q1] at hj
    simp only [Value.ownBlock, Option.some.injEq] at hj
    subst hj
    exact ⟨_, q3, rfl⟩
theorem row_nod {W : World} {B : Nat} {v : Value} {l : List (BitVec 8)} (h : Row W B 5 1 v l.length (l.map b8)) {D : Nat} (hd : W.heap[D]? = some (.deferred (some []))) : v.ownBlock ≠ some D := fun e => by
  obtain ⟨o, h1, h2⟩ := row_isc h e
  rw [hd] at h1
  cases h1
  cases h2
theorem mk7_of {W : World} {ba k len : Nat} {t : TypeId} {q : Nat × Nat} (h : W.heap[ba]? = some (.cells #[.int .i64 k] t q)) : mk7 ba len W = len - k := by
  have : W.cell? ⟨ba, 0, none⟩ = some (.int .i64 k) := cell_of_row _ _ _ _ _ _ h
  unfold mk7
  rw [this]
  simp [intOf]
/-- behind the range -/
structure T2 (w w3 : World) (E : EB) (M : Int) (vb : Value) (n : Nat) (d : Ln) (v : Value) (D : Nat) (r : Rn) (k : Nat) (u : Value) (W : World) : Prop where
  lo : w3.heap.size ≤ D
  two : Two w W E.g E.G d r v u
  bb : W.heap[E.bb]? = some (.cells #[vb] 22 (0, 0))
  bm : W.heap[E.bm]? = some (.cells #[.int .i64 M] 3 (0, 0))
  bo : ∃ o, W.heap[E.bo]? = some (.cells #[.bool o] 4 (0, 0))
  br : W.heap[E.br]? = some (.cells #[.pointer (some ⟨E.G, 0, none⟩)] 53 (0, 0))
  bn : W.heap[E.bn]? = some (.cells #[.int .i64 n] 3 (0, 0))
  ba : W.heap[E.ba]? = some (.cells #[.int .i64 k] 3 (0, 0))
  dd : W.heap[D]? = some (.deferred (some []))
  vlo : ∀ j, v.ownBlock = some j → w3.heap.size ≤ j
  ulo : ∀ j, u.ownBlock = some j → w3.heap.size ≤ j
section
variable {w w3 W wx : World} {E : EB} {M : Int} {vb : Value} {n : Nat} {d d' : Ln} {v v' : Value} {D : Nat} {r r' : Rn} {k : Nat} {u u' : Value}
theorem T2.of {bs : List (BitVec 8)} {r0 : Rn} {pre : List Fv} (hK : EK w w3 E) (h : EN w w3 E M vb bs r0 pre W) (hl : LnAt W E.g d v) (hlo : w3.heap.size ≤ D) (hd : W.heap[D]? = some (.deferred (some []))) : ∃ (k : Nat) (u : Value), T2 w w3 E M vb pre.length d v D (r0.feed (bs.take k)).1 k u W ∧ k ≤ bs.length ∧ (r0.feed (bs.take k)).2 = pre.map Fv.fr ∧ (k = 0 ∨ (r0.feed (bs.take (k - 1))).2.length < pre.length) := by
  obtain ⟨l0, l1, l2, l3, l4, l5, l6, l7, l8, l9, l10⟩ := hK
  obtain ⟨k, u, h8, h9, h10, h11, h12, h13⟩ := h.ba
  have hrow := hl.rowOf
  refine ⟨k, u, ⟨hlo, ⟨h.below, hl, h10, by omega, by omega, by omega, fun j hj => ?_, fun j hj => ?_⟩, h.bb, h.bm, h.bo, h.br, h.bn, h8, hd, fun j hj => ?_, fun j hj => (h13 j hj).1⟩, h9, h11, h12⟩
  · have := (h.rw j (by rw [hrow]; exact hj)).1
    exact ⟨by omega, by omega, fun e => (h13 j e).2 (by rw [hrow]; exact hj)⟩
  · have := (h13 j hj).1
    exact ⟨by omega, by omega⟩
  · exact (h.rw j (by rw [hrow]; exact hj)).1
theorem T2.rn (hK : EK w w3 E) (h : T2 w w3 E M vb n d v D r k u W) (hs : RnS W wx E.G u u' r') : T2 w w3 E M vb n d v D r' k u' wx := by
  obtain ⟨l0, l1, l2, l3, l4, l5, l6, l7, l8, l9, l10⟩ := hK
  have mv : ∀ (j : Nat) (o : Obj), W.heap[j]? = some o → j < w3.heap.size → j ≠ E.G → wx.heap[j]? = some o := fun j o hj k1 k2 => (hs.grow.block j (Array.getElem?_eq_some_iff.1 hj).1 k2 (fun e => by have := h.ulo j e.symm; omega)).trans hj
  have hD := (Array.getElem?_eq_some_iff.1 h.dd).1
  have hlo := h.lo
  obtain ⟨o, ho⟩ := h.bo
  refine ⟨h.lo, h.two.rn hs, mv _ _ h.bb (by omega) (by omega), mv _ _ h.bm (by omega) (by omega), ⟨o, mv _ _ ho (by omega) (by omega)⟩, mv _ _ h.br (by omega) (by omega), mv _ _ h.bn (by omega) (by omega), mv _ _ h.ba (by omega) (by omega), (hs.grow.block D hD (by omega) (row_nod h.two.b.row h.dd).symm).trans h.dd, h.vlo, fun j hj => ?_⟩
  rcases hs.own j hj with q | q
  · exact h.ulo j q
  · omega
theorem T2.ln (hK : EK w w3 E) (h : T2 w w3 E M vb n d v D r k u W) (hs : LnS W wx E.g v v' d') : T2 w w3 E M vb n d' v' D r k u wx := by
  obtain ⟨l0, l1, l2, l3, l4, l5, l6, l7, l8, l9, l10⟩ := hK
  have mv : ∀ (j : Nat) (o : Obj), W.heap[j]? = some o → j < w3.heap.size → j ≠ E.g → wx.heap[j]? = some o := fun j o hj k1 k2 => (hs.grow.block j (Array.getElem?_eq_some_iff.1 hj).1 k2 (fun e => by have := h.vlo j e.symm; omega)).trans hj
  have hD := (Array.getElem?_eq_some_iff.1 h.dd).1
  have hlo := h.lo
  obtain ⟨o, ho⟩ := h.bo
  refine ⟨h.lo, h.two.ln hs, mv _ _ h.bb (by omega) (by omega), mv _ _ h.bm (by omega) (by omega), ⟨o, mv _ _ ho (by omega) (by omega)⟩, mv _ _ h.br (by omega) (by omega), mv _ _ h.bn (by omega) (by omega), mv _ _ h.ba (by omega) (by omega), (hs.grow.block D hD (by omega) (row_nod h.two.a.row h.dd).symm).trans h.dd, fun j hj => ?_, h.ulo⟩
  rcases hs.own j hj with q | q
  · exact h.vlo j q
  · omega
theorem T2.bel (h : T2 w w3 E M vb n d v D r k u W) (hb : Below W.heap.size W wx) : T2 w w3 E M vb n d v D r k u wx := by
  have mv : ∀ (j : Nat) (o : Obj), W.heap[j]? = some o → wx.heap[j]? = some o := fun j o hj => (hb.block j (Array.getElem?_eq_some_iff.1 hj).1).trans hj
  obtain ⟨o, ho⟩ := h.bo
  exact ⟨h.lo, h.two.bel hb, mv _ _ h.bb, mv _ _ h.bm, ⟨o, mv _ _ ho⟩, mv _ _ h.br, mv _ _ h.bn, mv _ _ h.ba, mv _ _ h.dd, h.vlo, h.ulo⟩
theorem T2.setba (hK : EK w w3 E) (h : T2 w w3 E M vb n d v D r k u W) (j : Nat) : T2 w w3 E M vb n d v D r j u (W.setCell ⟨E.ba, 0, none⟩ (.int .i64 j)) := by
  obtain ⟨l0, l1, l2, l3, l4, l5, l6, l7, l8, l9, l10⟩ := hK
  have hset : W.grownBy (W.setCell ⟨E.ba, 0, none⟩ (.int .i64 j)) (some E.ba) := ⟨rfl, rfl, rfl, by simp [World.setCell], fun k _ hk => heap_setCell_other _ _ _ _ (fun e => hk (by simp [e]))⟩
  have mv : ∀ (j' : Nat) (o : Obj), W.heap[j']? = some o → j' ≠ E.ba → (W.setCell ⟨E.ba, 0, none⟩ (.int .i64 j)).heap[j']? = some o := fun j' o hj k1 => (heap_setCell_other _ _ _ _ k1).trans hj
  obtain ⟨o, ho⟩ := h.bo
  have hlo := h.lo
  exact ⟨h.lo, h.two.grown hset (fun q hq => by
    simp only [Option.some.injEq] at hq
    subst hq
    exact ⟨by omega, by omega, by omega, fun e => by have := h.vlo _ e; omega, fun e => by have := h.ulo _ e; omega⟩), mv _ _ h.bb (by omega), mv _ _ h.bm (by omega), ⟨o, mv _ _ ho (by omega)⟩, mv _ _ h.br (by omega), mv _ _ h.bn (by omega), (heap_setCell_same _ _ _ _ _ _ h.ba).trans rfl, mv _ _ h.dd (by omega), h.vlo, h.ulo⟩
theorem T2.fresh (hK : EK w w3 E) (h : T2 w w3 E M vb n d v D r k u W) {b : Nat} (hb : w3.heap.size ≤ b) (hD : b ≠ D) (hv : v.ownBlock ≠ some b) (hu : u.ownBlock ≠ some b) (hg : W.grownBy wx (some b)) : T2 w w3 E M vb n d v D r k u wx := by
  obtain ⟨l0, l1, l2, l3, l4, l5, l6, l7, l8, l9, l10⟩ := hK
  have mv : ∀ (j' : Nat) (o : Obj), W.heap[j']? = some o → j' ≠ b → wx.heap[j']? = some o := fun j' o hj k1 => (hg.block j' (Array.getElem?_eq_some_iff.1 hj).1 (fun e => k1 (by simpa using e))).trans hj
  obtain ⟨o, ho⟩ := h.bo
  exact ⟨h.lo, h.two.grown hg (fun q hq => by
    simp only [Option.some.injEq] at hq
    subst hq
    exact ⟨by omega, by omega, by omega, hv, hu⟩), mv _ _ h.bb (by omega), mv _ _ h.bm (by omega), ⟨o, mv _ _ ho (by omega)⟩, mv _ _ h.br (by omega), mv _ _ h.bn (by omega), mv _ _ h.ba (by omega), mv _ _ h.dd (fun e => hD e.symm), h.vlo, h.ulo⟩
/-- loop 2's step: the box is made ahead of the call -/
theorem T2.step (hK : EK w w3 E) (h : T2 w w3 E M vb n d v D r k u W) (hs : RnS (W.alloc (.cells #[.int .i64 0, .slice none 0 0] 24)).drew wx E.G u u' r') : wx.heap[W.heap.size]? = some (.cells #[.int .i64 0, .slice none 0 0] 24 (0, 0)) ∧ T2 w w3 E M vb n d v D r' k u' ((wx.setCell ⟨W.heap.size, 0, none⟩ (.int .i64 0)).setCell ⟨W.heap.size, 1, none⟩ (.slice none 0 0)) := by
  have hb : Below W.heap.size W (W.alloc (.cells #[.int .i64 0, .slice none 0 0] 24)).drew := ((Below.refl _ W).alloc (Nat.le_refl _) _).drew
  have hlt := (Array.getElem?_eq_some_iff.1 h.two.b.blk).1
  have hlD := (Array.getElem?_eq_some_iff.1 h.dd).1
  have hlo := h.lo
  have hz : (W.alloc (.cells #[.int .i64 0, .slice none 0 0] 24)).drew.heap.size = W.heap.size + 1 := by
    show (W.alloc (.cells #[.int .i64 0, .slice none 0 0] 24)).heap.size = _
    simp
  have hne : u.ownBlock ≠ some W.heap.size := fun e => by have := (Row.live h.two.b.row e).2; omega
  have h1 : wx.heap[W.heap.size]? = some (.cells #[.int .i64 0, .slice none 0 0] 24 (0, 0)) := (hs.grow.block _ (by omega) (by omega) (fun e => hne e.symm)).trans (heap_alloc_new W _)
  refine ⟨h1, (T2.fresh hK ((h.bel hb).rn hK hs) (b := W.heap.size) (by omega) (by omega) (fun e => by have := (Row.live h.two.a.row e).2; omega) (fun e => ?_) ?_)⟩
  · rcases hs.own _ e with q | q
    · exact hne q
    · omega
  · exact ⟨rfl, rfl, rfl, by simp [World.setCell], fun k _ hk => (heap_setCell_other _ _ _ _ (fun e => hk (by simp [e]))).trans (heap_setCell_other _ _ _ _ (fun e => hk (by simp [e])))⟩
theorem T2.fin (hK : EK w w3 E) (h : T2 w w3 E M vb n d v D r k u W) : (W.setCell ⟨E.bo, 0, none⟩ (.bool true)).heap[D]? = some (.deferred (some [])) ∧ ((W.setCell ⟨E.bo, 0, none⟩ (.bool true)).putObj D (.deferred none)).cell? ⟨E.bo, 0, none⟩ = some (.bool true) ∧ Below w.heap.size w ((W.setCell ⟨E.bo, 0, none⟩ (.bool true)).putObj D (.deferred none)) := by
  obtain ⟨l0, l1, l2, l3, l4, l5, l6, l7, l8, l9, l10⟩ := hK
  have hlo := h.lo
  obtain ⟨o, ho⟩ := h.bo
  have h1 : (W.setCell ⟨E.bo, 0, none⟩ (.bool true)).heap[E.bo]? = some (.cells #[.bool true] 4 (0, 0)) := (heap_setCell_same _ _ _ _ _ _ ho).trans rfl
  have e1 : E.bo ≠ D := by omega
  have e2 : D ≠ E.bo := by omega
  refine ⟨(heap_setCell_other _ _ _ _ e2).trans h.dd, cell_of_row _ _ _ _ _ _ ((World.putObj_heap_other e1).trans h1), ?_⟩
  have hb := h.two.below.setCell (p := ⟨E.bo, 0, none⟩) (by show w.heap.size ≤ E.bo; omega) (.bool true)
  exact ⟨hb.os, hb.tape, hb.output, by simpa [World.putObj] using hb.size, fun j hj => (World.putObj_heap_other (show j ≠ D by omega)).trans (hb.block j hj)⟩
end
end Go.Proofs.Ytedhldcoddbbdaa.F

/- What the range of func 7 ends in, as the code behind it takes it. -/
namespace Go.Proofs.Ytedhldcoddbbdaa.F
open Go.RowKit Go.Proofs.Ytedhldcoddbbdaa.K Go.Shelf
theorem Rn.feed_between (r : Rn) (bs : List (BitVec 8)) (k j : Nat) (hk : k ≤ j) (pre : List (Int × List (BitVec 8))) (h : (r.feed (bs.take k)).2 = pre) (ha : (r.feed bs).2 = pre) : (r.feed (bs.take j)).2 = pre := by
  have h1 := Rn.feed_split r (bs.take j) k
  rw [List.take_take, Nat.min_eq_left hk, h] at h1
  have h2 := Rn.feed_split r bs j
  rw [ha, h1] at h2
  have h3 := congrArg List.length h2
  simp only [List.length_append] at h3
  rw [h1]
  have h4 : ((r.feed (bs.take k)).1.feed (List.drop k (bs.take j))).2.length = 0 := by omega
  rw [List.eq_nil_of_length_eq_zero h4, List.append_nil]
/-- what the code behind takes -/
def Tl (w w6 : World) (E : EB) (M : Int) (vb : Value) (bs : List (BitVec 8)) (r0 : Rn) (D n : Nat) (W : World) : Prop :=
  ∃ (d : Ln) (v : Value) (k K : Nat) (u : Value), k ≤ K ∧ K ≤ bs.length ∧ T2 w w6 E M vb n d v D (r0.feed (bs.take k)).1 k u W ∧ (∀ j (h : j < bs.length), k ≤ j → j < K → ((r0.feed (bs.take j)).1.step bs[j]).2 = none) ∧ ((K = bs.length ∧ (n : Int) < M) ∨ ((n : Int) = M ∧ k = K)) ∧ Sim d (r0.feed (bs.take K)).1 ∧ d.Ok
theorem done7 {w w6 W W0 : World} {E : EB} {M : Int} {vb : Value} {bs : List (BitVec 8)} {r0 : Rn} {d0 : Ln} {xs : List Fv} {D l : Nat} {o o' : Obj} (hK : EK w w6 E) (hsim : Sim d0 r0) (hok : d0.Ok) (hlo : w6.heap.size ≤ D) (hS : EachS E.g d0 bs xs W0) (hl : W0.heap[l]? = some o) (ho : o.isCells = false) (hW : W = W0.putObj l o')
    (hI : EN w w6 E M vb bs r0 xs W) (hM : (xs.length : Int) < M) (hD : W.heap[D]? = some (.deferred (some []))) : Tl w w6 E M vb bs r0 D xs.length W := by
  obtain ⟨hs1, v, hs2⟩ := hS
  have k1 : Kp [E.g] E.g W0 W := by rw [hW]; exact Kp.putObj W0 l o o' hl ho
  have hl2 := hs2.kept (by simp) k1
  obtain ⟨k, u, h1, h2, h3, h4⟩ := T2.of hK hI hl2 hlo hD
  have hf := hsim.feed bs
  have ha : (r0.feed bs).2 = xs.map Fv.fr := by rw [← hf.2, hs1]
  refine ⟨_, v, k, bs.length, u, h2, Nat.le_refl _, h1, fun j hj hkj _ => Rn.feed_all r0 bs j hj _ (Rn.feed_between r0 bs k j hkj _ h3 ha) ha, .inl ⟨rfl, hM⟩, ?_, hok.feed bs⟩
  rw [List.take_length]
  exact hf.1
theorem stop7 {w w6 W W0 : World} {E : EB} {M : Int} {vb : Value} {bs : List (BitVec 8)} {r0 : Rn} {d0 : Ln} {xs : List Fv} {D l : Nat} {o o' : Obj} (hK : EK w w6 E) (hsim : Sim d0 r0) (hok : d0.Ok) (hlo : w6.heap.size ≤ D) (hS : EachX E.g d0 bs xs W0) (hl : W0.heap[l]? = some o) (ho : o.isCells = false) (hW : W = W0.putObj l o')
    (hI : EN w w6 E M vb bs r0 xs W) (hM : (xs.length : Int) = M) (hD : W.heap[D]? = some (.deferred (some []))) : Tl w w6 E M vb bs r0 D xs.length W := by
  obtain ⟨p, q, x, xs0, e1, e2, e3, e4, v, hs2⟩ := hS
  have k1 : Kp [E.g] E.g W0 W := by rw [hW]; exact Kp.putObj W0 l o o' hl ho
  have hl2 := hs2.kept (by simp) k1
  obtain ⟨k, u, h1, h2, h3, h4⟩ := T2.of hK hI hl2 hlo hD
  have t1 : bs.take p.length = p := by rw [e1]; simp
  have t2 : bs.take (p.length + 1) = p ++ [126#8] := by
    rw [e1, show p ++ 126#8 :: q = (p ++ [126#8]) ++ q by simp]
    rw [List.take_append_of_le_length (by simp), List.take_of_length_le (by simp)]
  have f1 := hsim.feed p
  have f2 := hsim.feed (p ++ [126#8])
  have hn : xs.length = xs0.length + 1 := by rw [e2]; simp
  have hk : k = p.length + 1 := by
    refine Rn.feed_spot r0 bs k p.length xs.length (by rw [h3]; simp) h4 (by omega) ?_ ?_
    · rw [t1, ← f1.2, ← e3, List.length_map]; omega
    · rw [t2, ← f2.2, e4, ← e3, List.length_append, List.length_map]; simp; omega
  subst hk
  refine ⟨_, v, _, _, u, Nat.le_refl _, h2, h1, fun j hj hkj hjk => by omega, .inr ⟨hM, rfl⟩, ?_, hok.feed (p ++ [126#8])⟩
  rw [t2]
  exact f2.1
end Go.Proofs.Ytedhldcoddbbdaa.F


/- The code behind the range of func 7. -/
namespace Go.Proofs.Ytedhldcoddbbdaa.F
open Go.RowKit Go.Proofs.Ytedhldcoddbbdaa.K Go.Shelf
def nx : Code → Code
  | .seq _ c => c
  | c => c
theorem T2.rd {w w3 : World} {E : EB} {M : Int} {A : Option Addr} {L c : Nat} {n : Nat} {d : Ln} {v : Value} {D : Nat} {r : Rn} {k : Nat} {u : Value} {W : World} {b1 j : Nat} {x : Value} (h : T2 w w3 E M (.slice A L c) n d v D r k u W) (hd : w.cell? ⟨b1, j, none⟩ = some x) :
    W.cell? ⟨E.bb, 0, none⟩ = some (.slice A L c) ∧ W.cell? ⟨E.ba, 0, none⟩ = some (.int .i64 k) ∧ W.cell? ⟨E.br, 0, none⟩ = some (.pointer (some ⟨E.G, 0, none⟩)) ∧ W.cell? ⟨b1, j, none⟩ = some x :=
  ⟨cell_of_row _ _ _ _ _ _ h.bb, cell_of_row _ _ _ _ _ _ h.ba, cell_of_row _ _ _ _ _ _ h.br, (h.two.below.cell (World.block_lt_of_cell? _ _ hd)).trans hd⟩
/-- what holds at the end -/
def Q7 (w w6 : World) (E : EB) (D : Nat) : Exit → Act → World → Prop
  | .ret, a, W => a.defers = [{ target := .collected D, args := #[] }] ∧ a.tmps.getD 10 undef = .pointer (some ⟨E.bo, 0, none⟩) ∧ ∃ (M : Int) (vb : Value) (n : Nat) (d : Ln) (v : Value) (r : Rn) (k : Nat) (u : Value) (W0 : World), T2 w w6 E M vb n d v D r k u W0 ∧ W = W0.setCell ⟨E.bo, 0, none⟩ (.bool true)
  | _, _, _ => False
set_option maxRecDepth 100000 in
set_option maxHeartbeats 16000000 in
theorem tail7 (m a mst c5 : Int) (bs more : List (BitVec 8)) (Ab Am : Option Addr) (cb cm : Nat) (w w6 : World) (E : EB) (hK : EK w w6 E)
    (hmm : 64 ≤ m ∧ m ≤ 16384 ∧ 0 ≤ a ∧ a ≤ 4294967295) (hb : BytesAt w (.slice Ab bs.length cb) bs) (hl : bs.length ≤ 1048576) (hm : BytesAt w (.slice Am more.length cm) more) (hml : more.length ≤ 1048576) (hc : 0 ≤ c5 ∧ c5 < 5)
    (D : Nat) (W : World) (n : Nat) (d : Ln) (v : Value) (k K : Nat) (u : Value) (hkK : k ≤ K) (hKl : K ≤ bs.length) (hT0 : T2 w w6 E (1 + c5) (.slice Ab bs.length cb) n d v D ((Rn.start m a true true).feed (bs.take k)).1 k u W)
    (hno : ∀ j (h : j < bs.length), k ≤ j → j < K → (((Rn.start m a true true).feed (bs.take j)).1.step bs[j]).2 = none) (hor : (K = bs.length ∧ (n : Int) < 1 + c5) ∨ ((n : Int) = 1 + c5 ∧ k = K))
    (hsm : Sim d ((Rn.start m a true true).feed (bs.take K)).1) (hok : d.Ok) :
    (nx (nx (nx (nx (nx (nx (nx (nx (nx (nx (Try.f7.body.getD .skip))))))))))).wp Try.prog (Q7 w w6 E D) { tmps := #[.int .i64 m, .int .i64 a, .slice Ab bs.length cb, .int .i64 mst, .slice Am more.length cm, undef, undef, .pointer (some ⟨E.bb, 0, none⟩), .pointer (some ⟨E.bm, 0, none⟩), undef, .pointer (some ⟨E.bo, 0, none⟩), .pointer (some ⟨E.g, 0, none⟩), .pointer (some ⟨E.br, 0, none⟩), .pointer (some ⟨E.bn, 0, none⟩), .pointer (some ⟨E.ba, 0, none⟩), .func (.func 43) #[] #[.pointer (some ⟨E.bl, 0, none⟩), .pointer (some ⟨E.bx, 0, none⟩)], undef, undef, undef, undef, undef, .int .i64 m, .int .i64 a, .pointer (some ⟨E.g, 0, none⟩), .int .i64 m, .int .i64 a, .pointer (some ⟨E.G, 0, none⟩), .pointer (some ⟨E.g, 0, none⟩), .bool false, .bool false, .pointer (some ⟨E.G, 0, none⟩), .bool false, .bool false, undef, undef, undef, undef, undef, undef, undef, undef, undef, .int .i64 mst, .int .i64 c5, .int .i64 (1 + c5), .pointer (some ⟨E.g, 0, none⟩), .slice Ab bs.length cb, .func (.func 43) #[] #[.pointer (some ⟨E.bl, 0, none⟩), .pointer (some ⟨E.bx, 0, none⟩)], .func (.func 43) #[] #[.pointer (some ⟨E.bl, 0, none⟩), .pointer (some ⟨E.bx, 0, none⟩)], .bool false, .func (.func 43) #[] #[.pointer (some ⟨E.bl, 0, none⟩), .pointer (some ⟨E.bx, 0, none⟩)], undef, undef, undef, undef, undef, undef, undef, undef, undef, undef, undef, undef, undef, undef, undef, undef, undef, undef, undef, undef, undef, undef, undef, undef, undef, undef, undef, undef, undef, undef, undef, undef, undef, undef, undef, undef, undef, undef, undef, undef, undef, undef, undef, undef, undef, undef, undef, undef, undef, undef, undef, undef, undef, undef, undef, undef, undef, undef, undef, undef, undef, undef, undef, undef, undef, undef, undef, undef, undef, undef, undef, undef, undef, undef, undef], defers := [{ target := .collected D, args := #[] }] } W := by
  have HT0 := Lib.hid hT0
  have HNO := Lib.hid hno
  have HSM := Lib.hid hsm
  have HOKd := Lib.hid hok
  have HKK := Lib.hid hK
  have HMM := Lib.hid hmm
  have HBY := Lib.hid hb
  have HMO := Lib.hid hm
  obtain ⟨_, _, e1, k1, k2, -, -⟩ := hb.at_
  cases e1
  obtain ⟨_, _, e1, k3, k4, -, -⟩ := hm.at_
  cases e1
  unfold maxLen at k2 k4
  have hc0 := hc.1
  have hc1 := hc.2
  clear hT0 hno hsm hok hK hmm hb hm hc
  simp only [Try.f7, nx, Option.getD_some]
  go_upto_block 4 with fail
  go_cut [19, 20] from 86 to 107 (fun _ _ wx => ∃ u' : Value, Hid (T2 w w6 E (1 + c5) (.slice Ab bs.length cb) n d v D ((Rn.start m a true true).feed (bs.take K)).1 K u' wx))
  case first =>
    have HLEN := Lib.hid (fun (k' : Nat) => (show ((Rn.start m a true true).feed (bs.take k')).1.B.length ≤ 1099511627776 by
      have h1 := Rn.feed_len (Rn.start m a true true) (bs.take k')
      have h2 : (Rn.start m a true true).B.length = 0 := rfl
      rw [List.length_take] at h1
      omega))
    go_wp2_with fail
    go_loopw [] (fun wr => ∃ (k' : Nat) (u' : Value), k ≤ k' ∧ k' ≤ K ∧ Hid (T2 w w6 E (1 + c5) (.slice Ab bs.length cb) n d v D ((Rn.start m a true true).feed (bs.take k')).1 k' u' wr)) (fun wr => mk7 E.ba bs.length wr)
    case atStart => exact ⟨k, u, Nat.le_refl _, hkK, HT0⟩
    case round =>
      clear HT0
      obtain ⟨k', u', hk1, hk2, HT⟩ := hrel
      have e1 : wr.cell? ⟨E.bb, 0, none⟩ = some (.slice Ab bs.length cb) := cell_of_row _ _ _ _ _ _ HT.out.bb
      have e2 : wr.cell? ⟨E.bm, 0, none⟩ = some (.int .i64 (1 + c5)) := cell_of_row _ _ _ _ _ _ HT.out.bm
      have e4 : wr.cell? ⟨E.bn, 0, none⟩ = some (.int .i64 n) := cell_of_row _ _ _ _ _ _ HT.out.bn
      have e5 : wr.cell? ⟨E.ba, 0, none⟩ = some (.int .i64 k') := cell_of_row _ _ _ _ _ _ HT.out.ba
      have i3 : (0 : Int) ≤ (n : Int) := by omega
      by_cases hkl : k' < bs.length
      · by_cases hgo : (n : Int) < 1 + c5
        · have hbd : Below wr.heap.size wr wr.drew := (Below.refl _ wr).drew
          have HTd := Lib.hid (HT.out.bel hbd)
          obtain ⟨b1, o1, hAb, d0⟩ := BytesAt.get HBY.out hkl
          subst hAb
          have hNN := HNO.out k' hkl hk1 (by omega)
          have hFT := congrArg Prod.fst (Rn.feed_take (Rn.start m a true true) bs k' hkl)
          obtain ⟨c, hc⟩ : ∃ c, c = bs[k'] := ⟨_, rfl⟩
          rw [← hc] at d0 hNN hFT
          have HNN := Lib.hid hNN
          have HFT := Lib.hid hFT
          have hacc := Rn.feed_acc (Rn.start m a true true) (bs.take k')
          have hm1 : 64 ≤ ((Rn.start m a true true).feed (bs.take k')).1.mru ∧ ((Rn.start m a true true).feed (bs.take k')).1.mru ≤ 16384 := by rw [hacc.1]; exact ⟨HMM.out.1, HMM.out.2.1⟩
          have ha1 : 0 ≤ ((Rn.start m a true true).feed (bs.take k')).1.accm ∧ ((Rn.start m a true true).feed (bs.take k')).1.accm ≤ 4294967295 := by rw [hacc.2]; exact HMM.out.2.2
          have hbe : Below wr.heap.size wr (wr.alloc (.cells #[.int .i64 0, .slice none 0 0] 24)).drew := ((Below.refl _ wr).alloc (Nat.le_refl _) _).drew
          have HTe := Lib.hid (HT.out.bel hbe)
          have H35a := Lib.hid (byte35 E.G wr.drew ((Rn.start m a true true).feed (bs.take k')).1 u' c hm1 ha1 (HLEN.out k') HTd.out.two.b)
          have H35b := Lib.hid (byte35 E.G (wr.alloc (.cells #[.int .i64 0, .slice none 0 0] 24)).drew ((Rn.start m a true true).feed (bs.take k')).1 u' c hm1 ha1 (HLEN.out k') HTe.out.two.b)
          have i0 : (0 : Int) ≤ (k' : Int) := by omega
          have i1 : (k' : Int) < (bs.length : Int) := by omega
          have D0 := Lib.hid d0
          clear hNN hFT hc hacc hm1 ha1 hbd hbe d0
          go_wp2_with fail
          have HZ := Lib.hid (fun (n0 : Int) (uu u2 : Value) (okx : Bool) (wy wx : World) (hcs : (okx = false ∧ (((Rn.start m a true true).feed (bs.take k')).1.step c).2 = none ∧ n0 = 0 ∧ uu = .slice none 0 0) ∨ ∃ l, okx = true ∧ (((Rn.start m a true true).feed (bs.take k')).1.step c).2 = some (n0, l) ∧ Row wx wy.heap.size 5 1 uu l.length (l.map b8) ∧ u2.ownBlock = none) => (show okx = false ∧ n0 = 0 ∧ uu = Value.slice none 0 0 by
            rcases hcs with ⟨q1, -, q2, q3⟩ | ⟨l, -, q1, -⟩
            · exact ⟨q1, q2, q3⟩
            · rw [HNN.out] at q1; cases q1))
          have S0 := T2.rd HTd.out D0.out
          go_region_held3 (fun w' => w'.cell? ⟨E.bb, 0, none⟩ = some (.slice (some ⟨b1, o1, none⟩) bs.length cb) ∧ w'.cell? ⟨E.ba, 0, none⟩ = some (.int .i64 k') ∧ w'.cell? ⟨E.br, 0, none⟩ = some (.pointer (some ⟨E.G, 0, none⟩)) ∧ w'.cell? ⟨b1, o1 + k', none⟩ = some (.int .u8 (v8 c)))
            (first | exact S0 | exact T2.rd HTy.out D0.out | exact T2.rd HTx.out D0.out | exact T2.rd HTe.out D0.out)
            (first
              | (go_at_call 35; refine H35a.out.mono ?_; rintro e wx ⟨n0, uu, okx, u2, rfl, hs, hcs⟩; obtain ⟨rfl, rfl, rfl⟩ := HZ.out _ _ _ _ _ _ hcs; have HTx := Lib.hid (HTd.out.rn HKK.out hs); have HTy := Lib.hid (HTx.out.bel ((Below.refl _ wx).alloc (Nat.le_refl _) (.cells #[.int .i64 0, .slice none 0 0] 24))); clear hs hcs)
              | (go_at_call 35; refine H35b.out.mono ?_; rintro e wx ⟨n0, uu, okx, u2, rfl, hs, hcs⟩; obtain ⟨rfl, rfl, rfl⟩ := HZ.out _ _ _ _ _ _ hcs; have HTx := Lib.hid (HTe.out.rn HKK.out hs); obtain ⟨q1, hq⟩ := T2.step HKK.out HT.out hs; have HTy := Lib.hid hq; have s1 : wx.cell? ⟨wr.heap.size, 0, none⟩ = some (.int .i64 0) := cell_of_row _ _ _ _ _ _ q1; have s2 : wx.cell? ⟨wr.heap.size, 1, none⟩ = some (.slice none 0 0) := cell_of_row _ _ _ _ _ _ q1; have s3 : wx.frozen? ⟨wr.heap.size, 0, none⟩ = false := frozen_of_row _ _ _ _ _ q1; have s4 : wx.frozen? ⟨wr.heap.size, 1, none⟩ = false := frozen_of_row _ _ _ _ _ q1; clear hs hcs q1 hq))
          all_goals have q5 := HTy.out.ba
          all_goals have s5 : World.cell? _ ⟨E.ba, 0, none⟩ = some (.int .i64 k') := cell_of_row _ _ _ _ _ _ q5
          all_goals have s6 : World.frozen? _ ⟨E.ba, 0, none⟩ = false := frozen_of_row _ _ _ _ _ q5
          all_goals clear q5
          all_goals go_wp2_with fail
          all_goals go_roundw
          all_goals have hq := HTy.out.setba HKK.out (k' + 1)
          all_goals rw [← HFT.out] at hq
          all_goals first
            | exact ⟨k' + 1, u2, by omega, by omega, Lib.hid hq⟩
            | (have m4 := mk7_of (len := bs.length) hq.ba; have m5 := mk7_of (len := bs.length) HT.out.ba; refine Nat.lt_of_le_of_lt (Nat.le_of_eq m4) ?_; rw [m5]; omega)
        · have hKe : k' = K := by omega
          go_wp2_with fail
          go_meet
          exact ⟨u', by rw [← hKe]; exact HT⟩
      · have i1 : ¬ (k' : Int) < (bs.length : Int) := by omega
        have hKe : k' = K := by omega
        go_wp2_with fail
        go_meet
        exact ⟨u', by rw [← hKe]; exact HT⟩
  case rest =>
    clear HT0 HNO HBY
    obtain ⟨u', HT⟩ := hcut
    generalize hr : ((Rn.start m a true true).feed (bs.take K)).1 = r at *
    have HRR : Hid ((64 ≤ r.mru ∧ r.mru ≤ 16384) ∧ (0 ≤ r.accm ∧ r.accm ≤ 4294967295) ∧ r.B.length ≤ 1048576) := Lib.hid (by
      have hacc := Rn.feed_acc (Rn.start m a true true) (bs.take K)
      have h1 := Rn.feed_len (Rn.start m a true true) (bs.take K)
      have h2 : (Rn.start m a true true).B.length = 0 := rfl
      rw [List.length_take] at h1
      rw [hr] at hacc h1
      rw [hacc.1, hacc.2]
      exact ⟨⟨HMM.out.1, HMM.out.2.1⟩, HMM.out.2.2, by omega⟩)
    clear hr HMM W hkK hor hKl
    have HSIM := Lib.hid (HSM.out.feed more)
    have HCN : Hid ((feedL d more).1.cnt = (r.feed more).1.cnt) := Lib.hid (by
      have := HSIM.out.1.cs
      unfold Ln.cnt Rn.cnt
      simp [this])
    have hbd : Below wc.heap.size wc wc.drew := (Below.refl _ wc).drew
    have HTd := Lib.hid (HT.out.bel hbd)
    have H28 := Lib.hid (feed28 E.g wc.drew d v HOKd.out HTd.out.two.a more _ (HMO.out.below HTd.out.two.below) (by omega))
    have HLO := Lib.hid (fun (b : Nat) (o : Nat) (x : Value) (h : w.cell? ⟨b, o, none⟩ = some x) => World.block_lt_of_cell? _ _ h)
    have hA : ∀ k, (Value.slice Am more.length cm).ownBlock = some k → more ≠ [] → k < w.heap.size := fun k hk hne => by
      have hl0 : 0 < more.length := by cases more with | nil => exact absurd rfl hne | cons => simp
      obtain ⟨b', o', e', hc'⟩ := BytesAt.get HMO.out (k := 0) hl0
      subst e'
      simp only [Value.ownBlock, Option.some.injEq] at hk
      subst hk
      exact World.block_lt_of_cell? _ _ hc'
    have HA := Lib.hid hA
    have S0 : wc.drew.cell? ⟨E.br, 0, none⟩ = some (.pointer (some ⟨E.G, 0, none⟩)) := cell_of_row _ _ _ _ _ _ HTd.out.br
    clear hA hbd
    go_wp2_with fail
    go_region_with
      (first
        | (go_at_call 28; refine H28.out.mono ?_; rintro e w1 ⟨v1, vf, xs, rfl, hfed⟩; have HT1 := Lib.hid (HTd.out.ln HKK.out hfed.ln); have HFD := Lib.hid hfed; obtain ⟨A6, c6, hv6, -, -⟩ := Row.slice hfed.row; subst hv6; have S1 : w1.cell? ⟨E.br, 0, none⟩ = some (.pointer (some ⟨E.G, 0, none⟩)) := cell_of_row _ _ _ _ _ _ HT1.out.br; clear hfed)
        | (go_at_call 31; refine (rfeed31 E.G w1 r u' HRR.out.1 HRR.out.2.1 HT1.out.two.b more _ (HMO.out.below HT1.out.two.below) (fun hne k hk _ => by
              have h0 := HA.out k hk hne
              have h1 := HT1.out.two.g2
              exact ⟨by omega, fun e => by have := (HT1.out.two.ub _ e).1; omega⟩) (by have := HRR.out.2.2; omega)).mono ?_; rintro e w2 ⟨u2, vr, ys, rfl, hfr⟩; have HT2 := Lib.hid (HT1.out.rn HKK.out hfr.rn); have HF1 := Lib.hid (HFD.out.frames hfr.rn.grow (Array.getElem?_eq_some_iff.1 HTd.out.two.b.blk).1 (fun k e => (Row.live HTd.out.two.b.row e).2)); have HF2 : Hid (FramesAt w2 vr (feedL d more).2) := Lib.hid (by rw [HSIM.out.2, ← hfr.told]; exact frames_of hfr.row (fun x hx => RowB.bytes ((hfr.info x hx).weak (Nat.zero_le _)))); obtain ⟨A7, c7, hv7, -, -⟩ := Row.slice hfr.row; subst hv7; have S2 : w2.cell? ⟨E.br, 0, none⟩ = some (.pointer (some ⟨E.G, 0, none⟩)) := cell_of_row _ _ _ _ _ _ HT2.out.br; clear hfr)
        | (go_at_call 24; refine (same_true _ _ _ _ w2 HF1.out HF2.out rfl).mono ?_; rintro e w3 ⟨rfl, hb3⟩; have HT3 := Lib.hid (HT2.out.bel hb3); have S3 : w3.cell? ⟨E.br, 0, none⟩ = some (.pointer (some ⟨E.G, 0, none⟩)) := cell_of_row _ _ _ _ _ _ HT3.out.br; obtain ⟨-, -, -, -, -, p5, p6, p7, p8, p9, p10⟩ := HT3.out.two.b.f; clear hb3)
        | (go_at_call 33; refine (counts33 E.g w3 _ v1 HT3.out.two.a).mono ?_; rintro e w4 ⟨rfl, hb4⟩; have HT4 := Lib.hid (HT3.out.bel hb4); have S4 : w4.cell? ⟨E.br, 0, none⟩ = some (.pointer (some ⟨E.G, 0, none⟩)) := cell_of_row _ _ _ _ _ _ HT4.out.br; obtain ⟨-, -, -, -, -, q5, q6, q7, q8, q9, q10⟩ := HT4.out.two.b.f; clear hb4)
        | (go_at_call 32; refine (counts_true (feedL d more).1.cnt (r.feed more).1.cnt w4 HCN.out).mono ?_; rintro e w5 ⟨rfl, hb5⟩; have HT5 := Lib.hid (HT4.out.bel hb5); have S5 : w5.cell? ⟨E.br, 0, none⟩ = some (.pointer (some ⟨E.G, 0, none⟩)) := cell_of_row _ _ _ _ _ _ HT5.out.br; clear hb5)
        | (go_at_call 21; refine (known21 w5).mono ?_; rintro e w6' ⟨rfl, hb6⟩; have HT6 := Lib.hid (HT5.out.bel hb6); have S6 : w6'.cell? ⟨E.br, 0, none⟩ = some (.pointer (some ⟨E.G, 0, none⟩)) := cell_of_row _ _ _ _ _ _ HT6.out.br; obtain ⟨o6, hbo⟩ := HT6.out.bo; have z1 : w6'.cell? ⟨E.bo, 0, none⟩ = some (.bool o6) := cell_of_row _ _ _ _ _ _ hbo; have z2 : w6'.frozen? ⟨E.bo, 0, none⟩ = false := frozen_of_row _ _ _ _ _ hbo; have S7 : (w6'.setCell ⟨E.bo, 0, none⟩ (.bool true)).cell? ⟨E.br, 0, none⟩ = some (.pointer (some ⟨E.G, 0, none⟩)) := cell_of_row _ _ _ _ _ _ ((heap_setCell_other _ _ _ _ (show E.br ≠ E.bo by have h1 := HKK.out.l3; have h2 := HKK.out.l4; have h3 := HKK.out.l5; omega)).trans HT6.out.br); clear hb6))
    all_goals go_wp2_with fail
    all_goals exact ⟨rfl, rfl, _, _, _, _, _, _, _, _, _, HT6.out, rfl⟩
theorem fin7 {w w6 : World} {E : EB} {D : Nat} {e : Exit} {a : Act} {W : World} {F : Fence} {n : Nat} (hK : EK w w6 E) (h : Q7 w w6 E D e a W) : bodyPostM F n Try.prog Try.f7 (fun e w' => e = .returned (.bool true) ∧ Below w.heap.size w w') e a W := by
  cases e <;> first | exact (show False from h).elim | skip
  obtain ⟨h1, h2, M, vb, n', d, v, r, k, u, W0, h3, rfl⟩ := h
  obtain ⟨q1, q2, q3⟩ := h3.fin hK
  rcases a with ⟨tmps, defers⟩
  dsimp only at h1 h2
  subst h1
  exact ⟨by simp, .inl ⟨_, _, rfl, run_takeDeferred q1, _, res7 _ _ _ true h2 q2, rfl, q3⟩⟩
end Go.Proofs.Ytedhldcoddbbdaa.F
