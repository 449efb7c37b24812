import Derived.Test.YtmfncddgbapocaaX7
import Derived.Outline
import Derived.Lib.Hide
import Derived.BigQuiet
import Derived.Deep.QuietTactic
set_option linter.unusedVariables false
set_option linter.unusedSimpArgs false
namespace Go.Proofs.Ytmfncddgbapocaa.F
open Go.RowKit Go.Proofs.Ytmfncddgbapocaa.K
/-- A check lies at a block. -/
def chk (bits : Int) (r : BitVec 16) (q : BitVec 32) (n : Int) : Array Value := #[.int .i64 bits, .int .u16 (v16 r), .int .u32 (v32 q), .int .i64 n]
structure ChkAt (w : World) (g : Nat) (bits : Int) (r : BitVec 16) (q : BitVec 32) (n : Int) : Prop where
  blk : w.heap[g]? = some (.cells (chk bits r q n) 67 (0, 0))
theorem ChkAt.c0 {w : World} {g : Nat} {bits n : Int} {r : BitVec 16} {q : BitVec 32} (h : ChkAt w g bits r q n) : w.cell? ⟨g, 0, none⟩ = some (.int .i64 bits) := (cell_of_row _ _ _ _ _ _ h.blk).trans rfl
theorem ChkAt.c1 {w : World} {g : Nat} {bits n : Int} {r : BitVec 16} {q : BitVec 32} (h : ChkAt w g bits r q n) : w.cell? ⟨g, 1, none⟩ = some (.int .u16 (v16 r)) := (cell_of_row _ _ _ _ _ _ h.blk).trans rfl
theorem ChkAt.c2 {w : World} {g : Nat} {bits n : Int} {r : BitVec 16} {q : BitVec 32} (h : ChkAt w g bits r q n) : w.cell? ⟨g, 2, none⟩ = some (.int .u32 (v32 q)) := (cell_of_row _ _ _ _ _ _ h.blk).trans rfl
theorem ChkAt.c3 {w : World} {g : Nat} {bits n : Int} {r : BitVec 16} {q : BitVec 32} (h : ChkAt w g bits r q n) : w.cell? ⟨g, 3, none⟩ = some (.int .i64 n) := (cell_of_row _ _ _ _ _ _ h.blk).trans rfl
theorem ChkAt.free {w : World} {g : Nat} {bits n : Int} {r : BitVec 16} {q : BitVec 32} (h : ChkAt w g bits r q n) (j : Nat) : w.frozen? ⟨g, j, none⟩ = false := frozen_of_row _ _ _ _ _ h.blk
theorem ChkAt.below {w w' : World} {g : Nat} {bits n : Int} {r : BitVec 16} {q : BitVec 32} (h : ChkAt w g bits r q n) (hb : Below w.heap.size w w') : ChkAt w' g bits r q n :=
  ⟨(hb.block g (Array.getElem?_eq_some_iff.1 h.blk).1).trans h.blk⟩
/-- New is none for other bits. -/
theorem new_none (b : Int) (w : World) (h1 : b ≠ 16) (h2 : b ≠ 32) : Calls Try.prog 33 #[.int .i64 b] w fun e w' => e = .returned (.pointer none) ∧ w' = w := by
  have e1 : (b == 16) = false := by simpa using h1
  have e2 : (b != 16) = true := by simpa using h1
  have e3 : (b == 32) = false := by simpa using h2
  have e4 : (b != 32) = true := by simpa using h2
  go_enter Try.func33, Try.ntmps33
  go_wp2
  go_ret
  exact ⟨rfl, rfl⟩
theorem reset_nil (w : World) : Calls Try.prog 39 #[.pointer none] w fun e w' => e = .returned (.tuple #[]) ∧ w' = w := by
  go_enter Try.func39, Try.ntmps39
  go_wp2
  go_end0
  exact ⟨rfl, rfl⟩
theorem len_nil (w : World) : Calls Try.prog 38 #[.pointer none] w fun e w' => e = .returned (.int .i64 0) ∧ w' = w := by
  go_enter Try.func38, Try.ntmps38
  go_wp2
  go_ret
  exact ⟨rfl, rfl⟩
theorem sum_nil (w : World) : Calls Try.prog 35 #[.pointer none] w fun e w' => e = .returned (.int .u32 0) ∧ w' = w := by
  go_enter Try.func35, Try.ntmps35
  go_wp2
  go_ret
  exact ⟨rfl, rfl⟩
theorem add_nil (v : Value) (w : World) : Calls Try.prog 34 #[.pointer none, v] w fun e w' => e = .returned (.int .i64 2) ∧ w' = w := by
  go_enter Try.func34, Try.ntmps34
  go_wp2
  go_ret
  exact ⟨rfl, rfl⟩
theorem good_nil (w : World) : Calls Try.prog 36 #[.pointer none] w fun e w' => e = .returned (.bool false) ∧ ∃ n, w' = w.drewN n := by
  go_enter Try.func36, Try.ntmps36
  go_wp2
  go_quiet (fail)
  go_wp2
  go_ret
  exact ⟨rfl, _, rfl⟩
/-- Only block g turned. -/
theorem grown_setCell {w w' : World} {g : Nat} (h : w.grownBy w' (some g)) (o : Nat) (v : Value) : w.grownBy (w'.setCell ⟨g, o, none⟩ v) (some g) :=
  ⟨h.os, h.tape, h.output, by simpa using h.size, fun k hk hne => by rw [heap_setCell_other _ _ _ _ (fun e => hne (by rw [e]))]; exact h.block k hk hne⟩
theorem grown_refl (w : World) (r : Option Nat) : w.grownBy w r := ⟨rfl, rfl, rfl, Nat.le_refl _, fun _ _ _ => rfl⟩
theorem grown_below {w w1 w2 : World} {r : Option Nat} (h : w.grownBy w1 r) (hb : Below w1.heap.size w1 w2) : w.grownBy w2 r :=
  ⟨hb.os.trans h.os, hb.tape.trans h.tape, hb.output.trans h.output, Nat.le_trans h.size hb.size, fun k hk hne => (hb.block k (Nat.lt_of_lt_of_le hk h.size)).trans (h.block k hk hne)⟩
theorem reset_at (g : Nat) (bits n : Int) (r : BitVec 16) (q : BitVec 32) (w : World) (h : ChkAt w g bits r q n) :
  Calls Try.prog 39 #[.pointer (some ⟨g, 0, none⟩)] w fun e w' => e = .returned (.tuple #[]) ∧ ChkAt w' g bits 0xffff#16 0xffffffff#32 0 ∧ w.grownBy w' (some g) := by
  have f1 := h.free 1
  have f2 := h.free 2
  have f3 := h.free 3
  have c1 := h.c1
  have c2 := h.c2
  have c3 := h.c3
  go_enter Try.func39, Try.ntmps39
  go_wp2
  go_end0
  refine ⟨rfl, ⟨?_⟩, grown_setCell (grown_setCell (grown_setCell (grown_refl _ _) _ _) _ _) _ _⟩
  exact heap_setCell_same _ _ _ _ _ _ (heap_setCell_same _ _ _ _ _ _ (heap_setCell_same _ _ _ _ _ _ h.blk))
theorem new_at (b : Int) (w : World) (hb : b = 16 ∨ b = 32) : Calls Try.prog 33 #[.int .i64 b] w fun e w' => e = .returned (.pointer (some ⟨w.heap.size, 0, none⟩)) ∧ ChkAt w' w.heap.size b 0xffff#16 0xffffffff#32 0 ∧ Below w.heap.size w w' := by
  rcases hb with rfl | rfl
  all_goals
    go_enter Try.func33, Try.ntmps33
    go_wp2_with (go_at_call 39; refine (reset_at w.heap.size _ 0 0#16 0#32 _ ⟨heap_alloc_new _ _⟩).mono ?_; rintro e w1 ⟨rfl, hc, hg⟩)
    go_ret
    refine ⟨rfl, hc, ((Below.refl _ w).alloc (Nat.le_refl _) _).grown hg (by simp) (fun k hk => by cases hk; exact Nat.le_refl _)⟩
theorem len_at (g : Nat) (bits n : Int) (r : BitVec 16) (q : BitVec 32) (w : World) (h : ChkAt w g bits r q n) :
  Calls Try.prog 38 #[.pointer (some ⟨g, 0, none⟩)] w fun e w' => e = .returned (.int .i64 n) ∧ w' = w := by
  have c3 := h.c3
  go_enter Try.func38, Try.ntmps38
  go_wp2
  go_ret
  exact ⟨rfl, rfl⟩
theorem ChkAt.set1 {w : World} {g : Nat} {bits n : Int} {r : BitVec 16} {q : BitVec 32} (h : ChkAt w g bits r q n) (r' : BitVec 16) : ChkAt (w.setCell ⟨g, 1, none⟩ (.int .u16 (v16 r'))) g bits r' q n := ⟨heap_setCell_same _ _ _ _ _ _ h.blk⟩
theorem ChkAt.set2 {w : World} {g : Nat} {bits n : Int} {r : BitVec 16} {q : BitVec 32} (h : ChkAt w g bits r q n) (q' : BitVec 32) : ChkAt (w.setCell ⟨g, 2, none⟩ (.int .u32 (v32 q'))) g bits r q' n := ⟨heap_setCell_same _ _ _ _ _ _ h.blk⟩
theorem ChkAt.set3 {w : World} {g : Nat} {bits n : Int} {r : BitVec 16} {q : BitVec 32} (h : ChkAt w g bits r q n) (n' : Int) : ChkAt (w.setCell ⟨g, 3, none⟩ (.int .i64 n')) g bits r q n' := ⟨heap_setCell_same _ _ _ _ _ _ h.blk⟩
theorem add_at (g : Nat) (bits : Int) (n : Nat) (r : BitVec 16) (q : BitVec 32) (l : List (BitVec 8)) (v : Value) (w : World) (h : ChkAt w g bits r q n) (hv : BytesAt w v l) (hn : n + l.length ≤ 9223372036854775807) (hne : v.ownBlock ≠ some g) :
  Calls Try.prog 34 #[.pointer (some ⟨g, 0, none⟩), v] w fun e w' => e = .returned (.int .i64 0) ∧ ChkAt w' g bits (crc P16 r l) (crc P32 q l) ((n + l.length : Nat) : Int) ∧ w.grownBy w' (some g) := by
  have c1 := h.c1
  have hv0 := hv
  obtain ⟨A, cap, rfl, k1, k2, -, -⟩ := hv
  have hN : ((n + l.length : Nat) : Int) = (n : Int) + (l.length : Int) := by omega
  have HN := Lib.hid hN
  clear hN
  have h0 := Lib.hid h
  have Hne := Lib.hid hne
  clear h hne
  go_enter Try.func34, Try.ntmps34
  go_wp2_with (first | (go_at_call 15; refine (on16_at r l _ _ hv0).mono ?_; rintro e w1 ⟨rfl, hb1⟩; have h1 := h0.out.below hb1; have v1 := hv0.below hb1; have f1 := h1.free 1; have c1' := h1.c1; have c2 := h1.c2; have g1 := grown_below (grown_refl w (some g)) hb1; clear c1 hv0) | (go_at_call 16; refine (on32_at q l _ _ (v1.grown (grown_setCell (grown_refl _ _) _ _) (.inr Hne.out))).mono ?_; rintro e w2 ⟨rfl, hb2⟩; have h2 := (h1.set1 (crc P16 r l)).below hb2; have f2 := h2.free 2; have c2' := h2.c2; have c3 := h2.c3; have f3 := h2.free 3; have g2 := grown_below (grown_setCell g1 1 (.int .u16 (v16 (crc P16 r l)))) hb2; clear c1' c2 f1))
  go_ret
  refine ⟨rfl, ?_, grown_setCell (grown_setCell g2 _ _) _ _⟩
  rw [HN.out]
  exact (h2.set2 _).set3 _
attribute [local go_sem high] cv32_16 not16 not32 v16_beq v32_beq
theorem sum_at (g : Nat) (bits n : Int) (r : BitVec 16) (q : BitVec 32) (w : World) (h : ChkAt w g bits r q n) :
  Calls Try.prog 35 #[.pointer (some ⟨g, 0, none⟩)] w fun e w' => e = .returned (.int .u32 (v32 (if bits = 16 then (~~~r).setWidth 32 else ~~~q))) ∧ w' = w := by
  have c0 := h.c0
  have c1 := h.c1
  have c2 := h.c2
  by_cases hb : bits = 16
  · have e : (bits == 16) = true := by simpa using hb
    simp only [if_pos hb]
    clear hb
    go_enter Try.func35, Try.ntmps35
    go_wp2
    go_ret
    exact ⟨rfl, rfl⟩
  · have e : (bits == 16) = false := by simpa using hb
    simp only [if_neg hb]
    clear hb
    go_enter Try.func35, Try.ntmps35
    go_wp2
    go_ret
    exact ⟨rfl, rfl⟩
theorem good_at (g : Nat) (wide : Bool) (n : Int) (r : BitVec 16) (q : BitVec 32) (w : World) (h : ChkAt w g (if wide then 32 else 16) r q n) :
  Calls Try.prog 36 #[.pointer (some ⟨g, 0, none⟩)] w fun e w' => e = .returned (.bool (if wide then decide (4 ≤ n) && decide (q = 0xdebb20e3#32) else decide (2 ≤ n) && decide (r = 0xf0b8#16))) ∧ ∃ n, w' = w.drewN n := by
  have c0 := h.c0
  have c1 := h.c1
  have c2 := h.c2
  have c3 := h.c3
  cases wide with
  | true =>
    by_cases hn : n < 4
    · have h1 : decide (n < 4) = true := by simpa using hn
      go_enter Try.func36, Try.ntmps36
      go_wp2
      go_quiet (fail)
      go_wp2
      go_ret
      exact ⟨by simp; omega, _, rfl⟩
    · have h1 : decide (n < 4) = false := by simpa using hn
      go_enter Try.func36, Try.ntmps36
      go_wp2
      go_quiet (fail)
      go_wp2
      go_ret
      exact ⟨by simp [show 4 ≤ n by omega], _, rfl⟩
  | false =>
    by_cases hn : n < 2
    · have h1 : decide (n < 2) = true := by simpa using hn
      go_enter Try.func36, Try.ntmps36
      go_wp2
      go_quiet (fail)
      go_wp2
      go_ret
      exact ⟨by simp; omega, _, rfl⟩
    · have h1 : decide (n < 2) = false := by simpa using hn
      go_enter Try.func36, Try.ntmps36
      go_wp2
      go_quiet (fail)
      go_wp2
      go_ret
      exact ⟨by simp [show 2 ≤ n by omega], _, rfl⟩
end Go.Proofs.Ytmfncddgbapocaa.F
