import Derived.Test.YtcgihilcjijckaaG2
set_option linter.unusedVariables false
set_option linter.unusedSimpArgs false
set_option linter.unnecessarySimpa false
namespace Go.Proofs.Ytcgihilcjijckaa.F
open Go.RowKit Go.Proofs.Ytcgihilcjijckaa.K
/-- four blocks may have been written -/
structure Grown4 (w w' : World) (g : Nat) (r : Option Nat) (g2 : Nat) (r2 : Option Nat) : Prop where
  os : w'.os = w.os
  tape : w'.tape = w.tape
  output : w'.output = w.output
  size : w.heap.size ≤ w'.heap.size
  block : ∀ k, k < w.heap.size → k ≠ g → some k ≠ r → k ≠ g2 → some k ≠ r2 → w'.heap[k]? = w.heap[k]?
/-- the program's queue and the document's, side by side, behind some calls -/
structure TwS (w w1 : World) (gq gr : Nat) (vq vr vq1 vr1 : Value) (n : Int) (l : List Tm) (R : List On) : Prop where
  q : QAt w1 gq vq1 n l
  r : RAt w1 gr vr1 R
  ne : gq ≠ gr
  a1 : vq1.ownBlock ≠ some gr
  a2 : vr1.ownBlock ≠ some gq
  a3 : Apart vq1 vr1
  grow : Grown4 w w1 gq vq.ownBlock gr vr.ownBlock
  ownq : ∀ k, vq1.ownBlock = some k → vq.ownBlock = some k ∨ w.heap.size ≤ k
  ownr : ∀ k, vr1.ownBlock = some k → vr.ownBlock = some k ∨ w.heap.size ≤ k
theorem Grown4.refl (w : World) (g : Nat) (r : Option Nat) (g2 : Nat) (r2 : Option Nat) : Grown4 w w g r g2 r2 := ⟨rfl, rfl, rfl, Nat.le_refl _, fun _ _ _ _ _ _ => rfl⟩
theorem TwS.again {w w1 : World} {gq gr : Nat} {vq vr vq1 vr1 : Value} {n : Int} {l : List Tm} {R : List On} (h : TwS w w1 gq gr vq vr vq1 vr1 n l R) : TwS w1 w1 gq gr vq1 vr1 vq1 vr1 n l R :=
  ⟨h.q, h.r, h.ne, h.a1, h.a2, h.a3, Grown4.refl _ _ _ _ _, fun k hk => .inl hk, fun k hk => .inl hk⟩
theorem TwS.left {w w1 w2 : World} {gq gr : Nat} {vq vr vq1 vr1 vq2 : Value} {n n2 : Int} {l l2 : List Tm} {R : List On} (h : TwS w w1 gq gr vq vr vq1 vr1 n l R) (hs : SetS w1 w2 gq vq1 vq2 n2 l2) : TwS w w2 gq gr vq vr vq2 vr1 n2 l2 R := by
  have hgr := (Array.getElem?_eq_some_iff.1 h.r.blk).1
  refine ⟨hs.q, ⟨(hs.grow.block gr hgr (fun e => h.ne e.symm) (fun e => h.a1 e.symm)).trans h.r.blk, h.r.row.grown2 hs.grow h.a2 (fun k hk e => h.a3 k e hk), h.r.ne⟩, h.ne, fun e => ?_, h.a2, fun k hk e => ?_, ⟨hs.grow.os.trans h.grow.os, hs.grow.tape.trans h.grow.tape, hs.grow.output.trans h.grow.output, Nat.le_trans h.grow.size hs.grow.size, fun k hk k1 k2 k3 k4 => (hs.grow.block k (Nat.lt_of_lt_of_le hk h.grow.size) k1 (fun e => ?_)).trans (h.grow.block k hk k1 k2 k3 k4)⟩, fun k hk => ?_, h.ownr⟩
  · rcases hs.own gr e with q | q
    · exact h.a1 q
    · omega
  · rcases hs.own k hk with q | q
    · exact h.a3 k q e
    · have := (Row.live h.r.row e).2; omega
  · rcases h.ownq k e.symm with q | q
    · exact k2 q.symm
    · omega
  · rcases hs.own k hk with q | q
    · exact h.ownq k q
    · exact .inr (Nat.le_trans h.grow.size q)
theorem TwS.right {w w1 w2 : World} {gq gr : Nat} {vq vr vq1 vr1 vr2 : Value} {n : Int} {l : List Tm} {R R2 : List On} (h : TwS w w1 gq gr vq vr vq1 vr1 n l R) (hs : RS w1 w2 gr vr1 vr2 R2) : TwS w w2 gq gr vq vr vq1 vr2 n l R2 := by
  have hgq := (Array.getElem?_eq_some_iff.1 h.q.blk).1
  refine ⟨⟨(hs.grow.block gq hgq h.ne (fun e => h.a2 e.symm)).trans h.q.blk, h.q.row.grown2 hs.grow h.a1 (fun k hk e => h.a3 k hk e), h.q.ne⟩, hs.q, h.ne, h.a1, fun e => ?_, fun k hk e => ?_, ⟨hs.grow.os.trans h.grow.os, hs.grow.tape.trans h.grow.tape, hs.grow.output.trans h.grow.output, Nat.le_trans h.grow.size hs.grow.size, fun k hk k1 k2 k3 k4 => (hs.grow.block k (Nat.lt_of_lt_of_le hk h.grow.size) k3 (fun e => ?_)).trans (h.grow.block k hk k1 k2 k3 k4)⟩, h.ownq, fun k hk => ?_⟩
  · rcases hs.own gq e with q | q
    · exact h.a2 q
    · omega
  · rcases hs.own k e with q | q
    · exact h.a3 k hk q
    · have := (Row.live h.q.row hk).2; omega
  · rcases h.ownr k e.symm with q | q
    · exact k4 q.symm
    · omega
  · rcases hs.own k hk with q | q
    · exact h.ownr k q
    · exact .inr (Nat.le_trans h.grow.size q)
theorem SetS.below0 {w w2 : World} {g : Nat} {v : Value} {n : Int} {l : List Tm} (h : QAt w g v n l) (hb : Below w.heap.size w w2) : SetS w w2 g v v n l := ⟨h.below hb, Grown2.below hb _ _, fun k hk => .inl hk⟩
theorem TwS.below {w w1 w2 : World} {gq gr : Nat} {vq vr vq1 vr1 : Value} {n : Int} {l : List Tm} {R : List On} (h : TwS w w1 gq gr vq vr vq1 vr1 n l R) (hb : Below w1.heap.size w1 w2) : TwS w w2 gq gr vq vr vq1 vr1 n l R := h.left (SetS.below0 h.q hb)
/-- a block of neither's lies as it lay -/
theorem TwS.other {w w1 : World} {gq gr : Nat} {vq vr vq1 vr1 : Value} {n : Int} {l : List Tm} {R : List On} (h : TwS w w1 gq gr vq vr vq1 vr1 n l R) {b : Nat} {o : Obj} (hb : w.heap[b]? = some o) (h1 : b ≠ gq) (h2 : vq.ownBlock ≠ some b) (h3 : b ≠ gr) (h4 : vr.ownBlock ≠ some b) : w1.heap[b]? = some o := (h.grow.block b (Array.getElem?_eq_some_iff.1 hb).1 h1 (fun e => h2 e.symm) h3 (fun e => h4 e.symm)).trans hb
theorem TwS.trans {w w1 w2 : World} {gq gr : Nat} {vq vr vq1 vr1 vq2 vr2 : Value} {n n2 : Int} {l l2 : List Tm} {R R2 : List On} (h : TwS w w1 gq gr vq vr vq1 vr1 n l R) (h2 : TwS w1 w2 gq gr vq1 vr1 vq2 vr2 n2 l2 R2) : TwS w w2 gq gr vq vr vq2 vr2 n2 l2 R2 := by
  refine ⟨h2.q, h2.r, h2.ne, h2.a1, h2.a2, h2.a3, ⟨h2.grow.os.trans h.grow.os, h2.grow.tape.trans h.grow.tape, h2.grow.output.trans h.grow.output, Nat.le_trans h.grow.size h2.grow.size, fun k hk k1 k2 k3 k4 => (h2.grow.block k (Nat.lt_of_lt_of_le hk h.grow.size) k1 (fun e => ?_) k3 (fun e => ?_)).trans (h.grow.block k hk k1 k2 k3 k4)⟩, fun k hk => ?_, fun k hk => ?_⟩
  · rcases h.ownq k e.symm with q | q
    · exact k2 q.symm
    · omega
  · rcases h.ownr k e.symm with q | q
    · exact k4 q.symm
    · omega
  · rcases h2.ownq k hk with q | q
    · exact h.ownq k q
    · exact .inr (Nat.le_trans h.grow.size q)
  · rcases h2.ownr k hk with q | q
    · exact h.ownr k q
    · exact .inr (Nat.le_trans h.grow.size q)
/-- a write elsewhere, to a block that is the call's own -/
theorem TwS.elsewhere {w w1 w2 : World} {gq gr : Nat} {vq vr vq1 vr1 : Value} {n : Int} {l : List Tm} {R : List On} {b : Nat} (h : TwS w w1 gq gr vq vr vq1 vr1 n l R) (hg : w1.grownBy w2 (some b)) (hb : w.heap.size ≤ b) (h1 : b ≠ gq) (h2 : vq1.ownBlock ≠ some b) (h3 : b ≠ gr) (h4 : vr1.ownBlock ≠ some b) : TwS w w2 gq gr vq vr vq1 vr1 n l R := by
  have hgq := (Array.getElem?_eq_some_iff.1 h.q.blk).1
  have hgr := (Array.getElem?_eq_some_iff.1 h.r.blk).1
  exact ⟨⟨(hg.block gq hgq (by simp; omega)).trans h.q.blk, h.q.row.kept hg (fun k hk e => h2 (by rw [hk, ← e])), h.q.ne⟩, ⟨(hg.block gr hgr (by simp; omega)).trans h.r.blk, h.r.row.kept hg (fun k hk e => h4 (by rw [hk, ← e])), h.r.ne⟩, h.ne, h.a1, h.a2, h.a3, ⟨hg.os.trans h.grow.os, hg.tape.trans h.grow.tape, hg.output.trans h.grow.output, Nat.le_trans h.grow.size hg.size, fun k hk k1 k2 k3 k4 => (hg.block k (Nat.lt_of_lt_of_le hk h.grow.size) (by simp; omega)).trans (h.grow.block k hk k1 k2 k3 k4)⟩, h.ownq, h.ownr⟩
end Go.Proofs.Ytcgihilcjijckaa.F
