import Derived.Test.YtedhldcoddbbdaaP2
set_option linter.unusedVariables false
set_option linter.unusedSimpArgs false
set_option linter.unnecessarySimpa false
namespace Go.Proofs.Ytedhldcoddbbdaa.F
open Go.RowKit Go.Proofs.Ytedhldcoddbbdaa.K
/-- two blocks may have been written -/
structure Grown2 (w w' : World) (g : Nat) (r : Option Nat) : Prop where
  os : w'.os = w.os
  tape : w'.tape = w.tape
  output : w'.output = w.output
  size : w.heap.size ≤ w'.heap.size
  block : ∀ k, k < w.heap.size → k ≠ g → some k ≠ r → w'.heap[k]? = w.heap[k]?
theorem Grown2.refl (w : World) (g : Nat) (r : Option Nat) : Grown2 w w g r := ⟨rfl, rfl, rfl, Nat.le_refl _, fun _ _ _ _ => rfl⟩
theorem Grown2.trans {w w1 w2 : World} {g : Nat} {r r1 : Option Nat} (h : Grown2 w w1 g r) (h2 : Grown2 w1 w2 g r1) (hr : ∀ k, r1 = some k → r = some k ∨ w.heap.size ≤ k) : Grown2 w w2 g r :=
  ⟨h2.os.trans h.os, h2.tape.trans h.tape, h2.output.trans h.output, Nat.le_trans h.size h2.size, fun k hk h1 h3 => (h2.block k (Nat.lt_of_lt_of_le hk h.size) h1 (fun e => by
    rcases hr k e.symm with q | q
    · exact h3 q.symm
    · omega)).trans (h.block k hk h1 h3)⟩
theorem Grown2.below {w w1 : World} (h : Below w.heap.size w w1) (g : Nat) (r : Option Nat) : Grown2 w w1 g r := ⟨h.os, h.tape, h.output, h.size, fun k hk _ _ => h.block k hk⟩
theorem _root_.Go.Proofs.Ytedhldcoddbbdaa.K.Row.grown2 {w w' : World} {B : Nat} {e : TypeId} {size : Nat} {u : Value} {n : Nat} {xs : List Value} {g : Nat} {r : Option Nat} (h : Row w B e size u n xs) (hg : Grown2 w w' g r) (h1 : u.ownBlock ≠ some g) (h2 : ∀ k, u.ownBlock = some k → r ≠ some k) : Row w' B e size u n xs := by
  refine ⟨h.len, h.form.imp id fun ⟨b, cap, cur, q1, q2, q3, q4⟩ => ⟨b, cap, cur, q1, q2, ?_, q4⟩⟩
  have e1 : u.ownBlock = some b := by rw [q1]; rfl
  exact (hg.block b (Array.getElem?_eq_some_iff.1 q3).1 (fun e => h1 (by rw [e1, e])) (fun e => h2 b e1 e.symm)).trans q3
/-- a receiver -/
structure Ln where
  mru : Int
  drop : Nat → Bool
  pfc : Bool
  acfc : Bool
  l : List (BitVec 8)
  any : Bool
  esc : Bool
  last : BitVec 8
  c0 : Int
  c1 : Int
  c2 : Int
  c3 : Int
  c4 : Int
  c5 : Int
def Ln.tail (d : Ln) (v : Value) : Array Value := #[.bool d.pfc, .bool d.acfc, v, .bool d.any, .bool d.esc, .int .u8 (v8 d.last), .int .i64 d.c0, .int .i64 d.c1, .int .i64 d.c2, .int .i64 d.c3, .int .i64 d.c4, .int .i64 d.c5]
def front (d : Ln) : Array Value := #[.int .i64 d.mru] ++ MK d.drop
def LC (d : Ln) (v : Value) : Array Value := front d ++ d.tail v
theorem front_size (d : Ln) : (front d).size = 257 := by unfold front; rw [Array.size_append, MK_size]; rfl
theorem LC_size (d : Ln) (v : Value) : (LC d v).size = 269 := by unfold LC; rw [Array.size_append, front_size]; rfl
theorem LC_mru (d : Ln) (v : Value) : (LC d v)[0]? = some (.int .i64 d.mru) := by
  unfold LC
  rw [Array.getElem?_append_left (by rw [front_size]; omega)]
  unfold front
  rw [Array.getElem?_append_left (by simp)]
  rfl
theorem LC_drop (d : Ln) (v : Value) (i : Nat) (h : i < 256) : (LC d v)[1 + i]? = some (.bool (d.drop i)) := by
  unfold LC
  rw [Array.getElem?_append_left (by rw [front_size]; omega)]
  unfold front
  rw [Array.getElem?_append_right (by simp), show 1 + i - (#[Value.int .i64 d.mru]).size = i from (by show 1 + i - 1 = i; omega)]
  exact MK_get _ i h
theorem LC_tail (d : Ln) (v : Value) (k : Nat) (hk : k < 12) : (LC d v)[257 + k]? = (d.tail v)[k]? := by
  unfold LC
  rw [Array.getElem?_append_right (by rw [front_size]; omega), front_size, Nat.add_sub_cancel_left]
theorem LC_put (d d' : Ln) (v v' : Value) (k : Nat) (hm : d'.mru = d.mru) (hd : d'.drop = d.drop) (u : Value) (ht : (d.tail v).setIfInBounds k u = d'.tail v') (hk : k < 12) : (LC d v).setIfInBounds (257 + k) u = LC d' v' := by
  apply Array.ext_getElem?
  intro j
  rw [Array.getElem?_setIfInBounds]
  by_cases e : 257 + k = j
  · subst e
    rw [if_pos rfl, if_pos (by rw [LC_size]; omega), LC_tail _ _ _ hk, ← ht, Array.getElem?_setIfInBounds, if_pos rfl, if_pos (show k < (d.tail v).size from hk)]
  · rw [if_neg e]
    by_cases h2 : j < 257
    · unfold LC
      rw [Array.getElem?_append_left (by rw [front_size]; exact h2), Array.getElem?_append_left (by rw [front_size]; exact h2)]
      unfold front
      rw [hm, hd]
    · by_cases h3 : j < 269
      · obtain ⟨i, rfl⟩ : ∃ i, j = 257 + i := ⟨j - 257, by omega⟩
        rw [LC_tail _ _ _ (by omega), LC_tail _ _ _ (by omega), ← ht, Array.getElem?_setIfInBounds, if_neg (by omega)]
      · rw [Array.getElem?_eq_none (by rw [LC_size]; omega), Array.getElem?_eq_none (by rw [LC_size]; omega)]
/-- it lies at a block -/
structure LnAt (w : World) (g : Nat) (d : Ln) (v : Value) : Prop where
  blk : w.heap[g]? = some (.cells (LC d v) 78 (0, 0))
  row : Row w 0 5 1 v d.l.length (d.l.map b8)
  ne : v.ownBlock ≠ some g
theorem LnAt.tl {w : World} {g : Nat} {d : Ln} {v : Value} (h : LnAt w g d v) (k : Nat) (hk : k < 12) : w.cell? ⟨g, 257 + k, none⟩ = (d.tail v)[k]? := (cell_of_row _ _ _ _ _ _ h.blk).trans (LC_tail d v k hk)
theorem LnAt.cmru {w : World} {g : Nat} {d : Ln} {v : Value} (h : LnAt w g d v) : w.cell? ⟨g, 0, none⟩ = some (.int .i64 d.mru) := (cell_of_row _ _ _ _ _ _ h.blk).trans (LC_mru d v)
theorem LnAt.cdrop {w : World} {g : Nat} {d : Ln} {v : Value} (h : LnAt w g d v) (i : Nat) (hi : i < 256) : w.cell? ⟨g, 1 + i, none⟩ = some (.bool (d.drop i)) := (cell_of_row _ _ _ _ _ _ h.blk).trans (LC_drop d v i hi)
theorem LnAt.free {w : World} {g : Nat} {d : Ln} {v : Value} (h : LnAt w g d v) (j : Nat) : w.frozen? ⟨g, j, none⟩ = false := frozen_of_row _ _ _ _ _ h.blk
theorem LnAt.below {w w' : World} {g : Nat} {d : Ln} {v : Value} (h : LnAt w g d v) (hb : Below w.heap.size w w') : LnAt w' g d v :=
  ⟨(hb.block g (Array.getElem?_eq_some_iff.1 h.blk).1).trans h.blk, h.row.below hb, h.ne⟩
/-- behind some calls -/
structure LnS (w w1 : World) (g : Nat) (v v1 : Value) (d1 : Ln) : Prop where
  q : LnAt w1 g d1 v1
  grow : Grown2 w w1 g v.ownBlock
  own : ∀ k, v1.ownBlock = some k → v.ownBlock = some k ∨ w.heap.size ≤ k
theorem LnS.refl {w : World} {g : Nat} {v : Value} {d : Ln} (h : LnAt w g d v) : LnS w w g v v d := ⟨h, Grown2.refl _ _ _, fun k hk => .inl hk⟩
theorem LnS.trans {w w1 w2 : World} {g : Nat} {v v1 v2 : Value} {d1 d2 : Ln} (h : LnS w w1 g v v1 d1) (h2 : LnS w1 w2 g v1 v2 d2) : LnS w w2 g v v2 d2 :=
  ⟨h2.q, h.grow.trans h2.grow h.own, fun k hk => by
    rcases h2.own k hk with q | q
    · exact h.own k q
    · exact .inr (Nat.le_trans h.grow.size q)⟩
theorem LnS.below {w w1 w2 : World} {g : Nat} {v v1 : Value} {d1 : Ln} (h : LnS w w1 g v v1 d1) (hb : Below w1.heap.size w1 w2) : LnS w w2 g v v1 d1 := h.trans ⟨h.q.below hb, Grown2.below hb _ _, fun k hk => .inl hk⟩
/-- a cell of the record's own is written; the row's value stays -/
theorem LnS.set {w w1 : World} {g : Nat} {v v1 : Value} {d1 : Ln} (h : LnS w w1 g v v1 d1) (k : Nat) (hk : k < 12) (u : Value) (d2 : Ln) (hm : d2.mru = d1.mru) (hd : d2.drop = d1.drop) (hl : d2.l = d1.l) (ht : (d1.tail v1).setIfInBounds k u = d2.tail v1) : LnS w (w1.setCell ⟨g, 257 + k, none⟩ u) g v v1 d2 := by
  have hset : w1.grownBy (w1.setCell ⟨g, 257 + k, none⟩ u) (some g) := ⟨rfl, rfl, rfl, by simp [World.setCell], fun k _ hk => heap_setCell_other _ _ _ _ (fun e => hk (by simp [e]))⟩
  refine ⟨⟨(heap_setCell_same _ _ _ _ _ _ h.q.blk).trans (by rw [LC_put d1 d2 v1 v1 k hm hd u ht hk]), ?_, h.q.ne⟩, h.grow.trans (r1 := none) ⟨rfl, rfl, rfl, by simp [World.setCell], fun k hk h1 _ => heap_setCell_other _ _ _ _ h1⟩ (fun k e => by cases e), h.own⟩
  rw [hl]
  exact h.q.row.kept hset (fun k hk e => h.q.ne (by rw [hk, ← e]))
/-- the row's value is written -/
theorem LnS.setv {w w1 w2 : World} {g : Nat} {v v1 v2 : Value} {d1 d2 : Ln} (h : LnS w w1 g v v1 d1) (hg : Grown2 w1 w2 g v1.ownBlock) (hb : w2.heap[g]? = w1.heap[g]?) (ho : ∀ k, v2.ownBlock = some k → v1.ownBlock = some k ∨ w1.heap.size ≤ k) (hr : Row w2 0 5 1 v2 d2.l.length (d2.l.map b8)) (hm : d2.mru = d1.mru) (hd : d2.drop = d1.drop) (ht : (d1.tail v1).setIfInBounds 2 v2 = d2.tail v2) : LnS w (w2.setCell ⟨g, 259, none⟩ v2) g v v2 d2 := by
  have hlt := (Array.getElem?_eq_some_iff.1 h.q.blk).1
  have hne : v2.ownBlock ≠ some g := fun e => by
    rcases ho g e with q | q
    · exact h.q.ne q
    · omega
  have hset : w2.grownBy (w2.setCell ⟨g, 259, none⟩ v2) (some g) := ⟨rfl, rfl, rfl, by simp [World.setCell], fun k _ hk => heap_setCell_other _ _ _ _ (fun e => hk (by simp [e]))⟩
  refine h.trans ⟨⟨(heap_setCell_same _ _ _ _ _ _ (hb.trans h.q.blk)).trans (by rw [← LC_put d1 d2 v1 v2 2 hm hd v2 ht (by omega)]), hr.kept hset (fun k hk e => hne (by rw [hk, ← e])), hne⟩, hg.trans (r1 := none) ⟨rfl, rfl, rfl, by simp [World.setCell], fun k hk h1 _ => heap_setCell_other _ _ _ _ h1⟩ (fun k e => by cases e), ho⟩
end Go.Proofs.Ytedhldcoddbbdaa.F
