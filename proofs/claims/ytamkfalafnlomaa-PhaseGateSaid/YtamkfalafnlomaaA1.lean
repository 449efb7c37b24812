import Derived.Test.YtamkfalafnlomaaProg
import Derived.Test.YtamkfalafnlomaaK
import Derived.Outline
import Derived.Lib.Hide
import Derived.BigQuiet
import Derived.Deep.QuietTactic
set_option linter.unusedVariables false
set_option linter.unusedSimpArgs false
namespace Go.Proofs.Ytamkfalafnlomaa.F
open Go.RowKit Go.Proofs.Ytamkfalafnlomaa.K
/-- A link's phase and all that is kept of it. -/
structure Tk where
  ph : Int
  ma : Bool
  mb : Bool
  ia : Bool
  ib : Bool
  t0 : Int
  t1 : Int
  t2 : Int
  t3 : Int
  t4 : Int
def Tk.zero : Tk := ⟨0, false, false, false, false, 0, 0, 0, 0, 0⟩
def Tk.ok (T : Tk) (N : Int) : Prop := 0 ≤ T.ph ∧ T.ph ≤ 4 ∧ 0 ≤ T.t0 ∧ T.t0 ≤ N ∧ 0 ≤ T.t1 ∧ T.t1 ≤ N ∧ 0 ≤ T.t2 ∧ T.t2 ≤ N ∧ 0 ≤ T.t3 ∧ T.t3 ≤ N ∧ 0 ≤ T.t4 ∧ T.t4 ≤ N
def Tk.to (T : Tk) (n : Int) : Tk := if T.ph = n then T else
  { T with ph := n, t0 := if n = 0 then T.t0 + 1 else T.t0, t1 := if n = 1 then T.t1 + 1 else T.t1, t2 := if n = 2 then T.t2 + 1 else T.t2, t3 := if n = 3 then T.t3 + 1 else T.t3, t4 := if n = 4 then T.t4 + 1 else T.t4 }
def tk (T : Tk) : Array Value := #[.int .i64 T.ph, .bool T.ma, .bool T.mb, .bool T.ia, .bool T.ib, .int .i64 T.t0, .int .i64 T.t1, .int .i64 T.t2, .int .i64 T.t3, .int .i64 T.t4]
structure TkAt (w : World) (ty : TypeId) (g : Nat) (T : Tk) : Prop where
  blk : w.heap[g]? = some (.cells (tk T) ty (0, 0))
section
variable {w : World} {ty : TypeId} {g : Nat} {T : Tk}
theorem TkAt.c0 (h : TkAt w ty g T) : w.cell? ⟨g, 0, none⟩ = some (.int .i64 T.ph) := (cell_of_row _ _ _ _ _ _ h.blk).trans rfl
theorem TkAt.c1 (h : TkAt w ty g T) : w.cell? ⟨g, 1, none⟩ = some (.bool T.ma) := (cell_of_row _ _ _ _ _ _ h.blk).trans rfl
theorem TkAt.c2 (h : TkAt w ty g T) : w.cell? ⟨g, 2, none⟩ = some (.bool T.mb) := (cell_of_row _ _ _ _ _ _ h.blk).trans rfl
theorem TkAt.c3 (h : TkAt w ty g T) : w.cell? ⟨g, 3, none⟩ = some (.bool T.ia) := (cell_of_row _ _ _ _ _ _ h.blk).trans rfl
theorem TkAt.c4 (h : TkAt w ty g T) : w.cell? ⟨g, 4, none⟩ = some (.bool T.ib) := (cell_of_row _ _ _ _ _ _ h.blk).trans rfl
theorem TkAt.c5 (h : TkAt w ty g T) : w.cell? ⟨g, 5, none⟩ = some (.int .i64 T.t0) := (cell_of_row _ _ _ _ _ _ h.blk).trans rfl
theorem TkAt.c6 (h : TkAt w ty g T) : w.cell? ⟨g, 6, none⟩ = some (.int .i64 T.t1) := (cell_of_row _ _ _ _ _ _ h.blk).trans rfl
theorem TkAt.c7 (h : TkAt w ty g T) : w.cell? ⟨g, 7, none⟩ = some (.int .i64 T.t2) := (cell_of_row _ _ _ _ _ _ h.blk).trans rfl
theorem TkAt.c8 (h : TkAt w ty g T) : w.cell? ⟨g, 8, none⟩ = some (.int .i64 T.t3) := (cell_of_row _ _ _ _ _ _ h.blk).trans rfl
theorem TkAt.c9 (h : TkAt w ty g T) : w.cell? ⟨g, 9, none⟩ = some (.int .i64 T.t4) := (cell_of_row _ _ _ _ _ _ h.blk).trans rfl
theorem TkAt.free (h : TkAt w ty g T) (j : Nat) : w.frozen? ⟨g, j, none⟩ = false := frozen_of_row _ _ _ _ _ h.blk
theorem TkAt.lt (h : TkAt w ty g T) : g < w.heap.size := (Array.getElem?_eq_some_iff.1 h.blk).1
theorem TkAt.grown {w' : World} {r : Option Nat} (h : TkAt w ty g T) (hg : w.grownBy w' r) (hne : some g ≠ r) : TkAt w' ty g T := ⟨(hg.block g h.lt hne).trans h.blk⟩
theorem TkAt.below {w' : World} (h : TkAt w ty g T) (hb : Below w.heap.size w w') : TkAt w' ty g T := ⟨(hb.block g h.lt).trans h.blk⟩
theorem TkAt.drew (h : TkAt w ty g T) : TkAt w.drew ty g T := ⟨h.blk⟩
theorem TkAt.set {T' : Tk} (h : TkAt w ty g T) (j : Nat) (v : Value) (e : (tk T).setIfInBounds j v = tk T') : TkAt (w.setCell ⟨g, j, none⟩ v) ty g T' := ⟨by rw [← e]; exact heap_setCell_same _ _ _ _ _ _ h.blk⟩
end
theorem grown_setCell {w w' : World} {g : Nat} (h : w.grownBy w' (some g)) (o : Nat) (v : Value) : w.grownBy (w'.setCell ⟨g, o, none⟩ v) (some g) :=
  ⟨h.os, h.tape, h.output, by simpa using h.size, fun k hk hne => by rw [heap_setCell_other _ _ _ _ (fun e => hne (by rw [e]))]; exact h.block k hk hne⟩
theorem grown_refl (w : World) (r : Option Nat) : w.grownBy w r := ⟨rfl, rfl, rfl, Nat.le_refl _, fun _ _ _ => rfl⟩
theorem grown_below {w w1 w2 : World} {r : Option Nat} (h : w.grownBy w1 r) (hb : Below w1.heap.size w1 w2) : w.grownBy w2 r :=
  ⟨hb.os.trans h.os, hb.tape.trans h.tape, hb.output.trans h.output, Nat.le_trans h.size hb.size, fun k hk hne => (hb.block k (Nat.lt_of_lt_of_le hk h.size)).trans (h.block k hk hne)⟩
theorem grown_trans {w w1 w2 : World} {r : Option Nat} (h : w.grownBy w1 r) (hb : w1.grownBy w2 r) : w.grownBy w2 r :=
  ⟨hb.os.trans h.os, hb.tape.trans h.tape, hb.output.trans h.output, Nat.le_trans h.size hb.size, fun k hk hne => (hb.block k (Nat.lt_of_lt_of_le hk h.size) hne).trans (h.block k hk hne)⟩
theorem grown_drew {w w1 : World} {r : Option Nat} (h : w.grownBy w1 r) : w.grownBy w1.drew r := ⟨h.os, h.tape, h.output, h.size, h.block⟩
theorem tk_to (T : Tk) (n : Int) (h : T.ph ≠ n) : T.to n = { T with ph := n, t0 := if n = 0 then T.t0 + 1 else T.t0, t1 := if n = 1 then T.t1 + 1 else T.t1, t2 := if n = 2 then T.t2 + 1 else T.t2, t3 := if n = 3 then T.t3 + 1 else T.t3, t4 := if n = 4 then T.t4 + 1 else T.t4 } := if_neg h
theorem to31 (g : Nat) (T : Tk) (n : Int) (N : Int) (w : World) (h : TkAt w 59 g T) (hn : n = 0 ∨ n = 1 ∨ n = 2 ∨ n = 3 ∨ n = 4) (hT : T.ok N) (hN : N ≤ 1000000) :
  Calls Try.prog 31 #[.pointer (some ⟨g, 0, none⟩), .int .i64 n] w fun e w' => e = .returned (.tuple #[]) ∧ TkAt w' 59 g (T.to n) ∧ w.grownBy w' (some g) := by
  have c0 := h.c0
  have f0 := h.free 0
  have H := Lib.hid h
  obtain ⟨k0, k1, k2, k3, k4, k5, k6, k7, k8, k9, k10, k11⟩ := hT
  by_cases hp : T.ph = n
  · have e : T.to n = T := if_pos hp
    rw [e]
    rw [hp] at c0
    clear e
    have Hp := Lib.hid hp
    clear hp k0 k1 k2 k3 k4 k5 k6 k7 k8 k9 k10 k11 h
    go_enter Try.func31, Try.ntmps31
    go_wp2
    go_end0
    exact ⟨rfl, H.out.set 0 _ (by unfold tk; rw [← Hp.out]; rfl), grown_setCell (grown_refl _ _) _ _⟩
  · rw [tk_to T n hp]
    have hb : (n != T.ph) = true := by simpa using fun e => hp e.symm
    rcases hn with rfl | rfl | rfl | rfl | rfl
    · have c5 := h.c5
      have f5 := h.free 5
      have hi : (0 : Int) ≤ T.t0 + 1 := by omega
      have hj : T.t0 + 1 < 9223372036854775808 := by omega
      have hw : IntKind.i64.wrap (T.t0 + 1) = T.t0 + 1 := by simp [IntKind.wrap, IntKind.bits, IntKind.signed]; omega
      clear k0 k1 k2 k3 k4 k5 k6 k7 k8 k9 k10 k11 h hp
      go_enter Try.func31, Try.ntmps31
      go_wp2
      go_region
      go_wp2
      go_end0
      exact ⟨rfl, (H.out.drew.set 5 (T' := { T with t0 := T.t0 + 1 }) _ rfl).set 0 _ rfl, grown_setCell (grown_setCell (grown_drew (grown_refl _ _)) _ _) _ _⟩
    · have c6 := h.c6
      have f6 := h.free 6
      have hi : (0 : Int) ≤ T.t1 + 1 := by omega
      have hj : T.t1 + 1 < 9223372036854775808 := by omega
      have hw : IntKind.i64.wrap (T.t1 + 1) = T.t1 + 1 := by simp [IntKind.wrap, IntKind.bits, IntKind.signed]; omega
      clear k0 k1 k2 k3 k4 k5 k6 k7 k8 k9 k10 k11 h hp
      go_enter Try.func31, Try.ntmps31
      go_wp2
      go_region
      go_wp2
      go_end0
      exact ⟨rfl, (H.out.drew.set 6 (T' := { T with t1 := T.t1 + 1 }) _ rfl).set 0 _ rfl, grown_setCell (grown_setCell (grown_drew (grown_refl _ _)) _ _) _ _⟩
    · have c7 := h.c7
      have f7 := h.free 7
      have hi : (0 : Int) ≤ T.t2 + 1 := by omega
      have hj : T.t2 + 1 < 9223372036854775808 := by omega
      have hw : IntKind.i64.wrap (T.t2 + 1) = T.t2 + 1 := by simp [IntKind.wrap, IntKind.bits, IntKind.signed]; omega
      clear k0 k1 k2 k3 k4 k5 k6 k7 k8 k9 k10 k11 h hp
      go_enter Try.func31, Try.ntmps31
      go_wp2
      go_region
      go_wp2
      go_end0
      exact ⟨rfl, (H.out.drew.set 7 (T' := { T with t2 := T.t2 + 1 }) _ rfl).set 0 _ rfl, grown_setCell (grown_setCell (grown_drew (grown_refl _ _)) _ _) _ _⟩
    · have c8 := h.c8
      have f8 := h.free 8
      have hi : (0 : Int) ≤ T.t3 + 1 := by omega
      have hj : T.t3 + 1 < 9223372036854775808 := by omega
      have hw : IntKind.i64.wrap (T.t3 + 1) = T.t3 + 1 := by simp [IntKind.wrap, IntKind.bits, IntKind.signed]; omega
      clear k0 k1 k2 k3 k4 k5 k6 k7 k8 k9 k10 k11 h hp
      go_enter Try.func31, Try.ntmps31
      go_wp2
      go_region
      go_wp2
      go_end0
      exact ⟨rfl, (H.out.drew.set 8 (T' := { T with t3 := T.t3 + 1 }) _ rfl).set 0 _ rfl, grown_setCell (grown_setCell (grown_drew (grown_refl _ _)) _ _) _ _⟩
    · have c9 := h.c9
      have f9 := h.free 9
      have hi : (0 : Int) ≤ T.t4 + 1 := by omega
      have hj : T.t4 + 1 < 9223372036854775808 := by omega
      have hw : IntKind.i64.wrap (T.t4 + 1) = T.t4 + 1 := by simp [IntKind.wrap, IntKind.bits, IntKind.signed]; omega
      clear k0 k1 k2 k3 k4 k5 k6 k7 k8 k9 k10 k11 h hp
      go_enter Try.func31, Try.ntmps31
      go_wp2
      go_region
      go_wp2
      go_end0
      exact ⟨rfl, (H.out.drew.set 9 (T' := { T with t4 := T.t4 + 1 }) _ rfl).set 0 _ rfl, grown_setCell (grown_setCell (grown_drew (grown_refl _ _)) _ _) _ _⟩
theorem to38 (g : Nat) (T : Tk) (n : Int) (N : Int) (w : World) (h : TkAt w 43 g T) (hn : n = 0 ∨ n = 1 ∨ n = 2 ∨ n = 3 ∨ n = 4) (hT : T.ok N) (hN : N ≤ 1000000) :
  Calls Try.prog 38 #[.pointer (some ⟨g, 0, none⟩), .int .i64 n] w fun e w' => e = .returned (.tuple #[]) ∧ TkAt w' 43 g (T.to n) ∧ w.grownBy w' (some g) := by
  have c0 := h.c0
  have f0 := h.free 0
  have H := Lib.hid h
  obtain ⟨k0, k1, k2, k3, k4, k5, k6, k7, k8, k9, k10, k11⟩ := hT
  by_cases hp : T.ph = n
  · have e : T.to n = T := if_pos hp
    rw [e]
    rw [hp] at c0
    clear e
    have Hp := Lib.hid hp
    clear hp k0 k1 k2 k3 k4 k5 k6 k7 k8 k9 k10 k11 h
    go_enter Try.func38, Try.ntmps38
    go_wp2
    go_end0
    exact ⟨rfl, H.out.set 0 _ (by unfold tk; rw [← Hp.out]; rfl), grown_setCell (grown_refl _ _) _ _⟩
  · rw [tk_to T n hp]
    have hb : (T.ph != n) = true := by simpa using hp
    rcases hn with rfl | rfl | rfl | rfl | rfl
    · have c5 := h.c5
      have f5 := h.free 5
      have hi : (0 : Int) ≤ T.t0 + 1 := by omega
      have hj : T.t0 + 1 < 9223372036854775808 := by omega
      have hw : IntKind.i64.wrap (T.t0 + 1) = T.t0 + 1 := by simp [IntKind.wrap, IntKind.bits, IntKind.signed]; omega
      clear k0 k1 k2 k3 k4 k5 k6 k7 k8 k9 k10 k11 h hp
      go_enter Try.func38, Try.ntmps38
      go_wp2
      go_region
      go_wp2
      go_end0
      exact ⟨rfl, (H.out.drew.set 5 (T' := { T with t0 := T.t0 + 1 }) _ rfl).set 0 _ rfl, grown_setCell (grown_setCell (grown_drew (grown_refl _ _)) _ _) _ _⟩
    · have c6 := h.c6
      have f6 := h.free 6
      have hi : (0 : Int) ≤ T.t1 + 1 := by omega
      have hj : T.t1 + 1 < 9223372036854775808 := by omega
      have hw : IntKind.i64.wrap (T.t1 + 1) = T.t1 + 1 := by simp [IntKind.wrap, IntKind.bits, IntKind.signed]; omega
      clear k0 k1 k2 k3 k4 k5 k6 k7 k8 k9 k10 k11 h hp
      go_enter Try.func38, Try.ntmps38
      go_wp2
      go_region
      go_wp2
      go_end0
      exact ⟨rfl, (H.out.drew.set 6 (T' := { T with t1 := T.t1 + 1 }) _ rfl).set 0 _ rfl, grown_setCell (grown_setCell (grown_drew (grown_refl _ _)) _ _) _ _⟩
    · have c7 := h.c7
      have f7 := h.free 7
      have hi : (0 : Int) ≤ T.t2 + 1 := by omega
      have hj : T.t2 + 1 < 9223372036854775808 := by omega
      have hw : IntKind.i64.wrap (T.t2 + 1) = T.t2 + 1 := by simp [IntKind.wrap, IntKind.bits, IntKind.signed]; omega
      clear k0 k1 k2 k3 k4 k5 k6 k7 k8 k9 k10 k11 h hp
      go_enter Try.func38, Try.ntmps38
      go_wp2
      go_region
      go_wp2
      go_end0
      exact ⟨rfl, (H.out.drew.set 7 (T' := { T with t2 := T.t2 + 1 }) _ rfl).set 0 _ rfl, grown_setCell (grown_setCell (grown_drew (grown_refl _ _)) _ _) _ _⟩
    · have c8 := h.c8
      have f8 := h.free 8
      have hi : (0 : Int) ≤ T.t3 + 1 := by omega
      have hj : T.t3 + 1 < 9223372036854775808 := by omega
      have hw : IntKind.i64.wrap (T.t3 + 1) = T.t3 + 1 := by simp [IntKind.wrap, IntKind.bits, IntKind.signed]; omega
      clear k0 k1 k2 k3 k4 k5 k6 k7 k8 k9 k10 k11 h hp
      go_enter Try.func38, Try.ntmps38
      go_wp2
      go_region
      go_wp2
      go_end0
      exact ⟨rfl, (H.out.drew.set 8 (T' := { T with t3 := T.t3 + 1 }) _ rfl).set 0 _ rfl, grown_setCell (grown_setCell (grown_drew (grown_refl _ _)) _ _) _ _⟩
    · have c9 := h.c9
      have f9 := h.free 9
      have hi : (0 : Int) ≤ T.t4 + 1 := by omega
      have hj : T.t4 + 1 < 9223372036854775808 := by omega
      have hw : IntKind.i64.wrap (T.t4 + 1) = T.t4 + 1 := by simp [IntKind.wrap, IntKind.bits, IntKind.signed]; omega
      clear k0 k1 k2 k3 k4 k5 k6 k7 k8 k9 k10 k11 h hp
      go_enter Try.func38, Try.ntmps38
      go_wp2
      go_region
      go_wp2
      go_end0
      exact ⟨rfl, (H.out.drew.set 9 (T' := { T with t4 := T.t4 + 1 }) _ rfl).set 0 _ rfl, grown_setCell (grown_setCell (grown_drew (grown_refl _ _)) _ _) _ _⟩
end Go.Proofs.Ytamkfalafnlomaa.F
