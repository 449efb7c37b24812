import Derived.Test.YtibdaonhldlmbaaB1
import Derived.BigRegion
set_option linter.unusedVariables false
set_option linter.unusedSimpArgs false
namespace Go.Proofs.Ytibdaonhldlmbaa.F
open Go.RowKit Go.Proofs.Ytibdaonhldlmbaa.K
def Own (B : Nat) (w : World) (v : Value) (l : List Int) : Prop := w.ownsRow B 3 1 v l.length (l.map (Value.int .i64))
theorem own_nil (B : Nat) (w : World) : Own B w (.slice none 0 0) [] := World.ownsRow_nil _ _ _ _
theorem Own.kept {B : Nat} {w w' : World} {v : Value} {l : List Int} {r : Option Nat} (h : Own B w v l) (hg : w.grownBy w' r) (hr : ∀ g, r = some g → g < B) : Own B w' v l := by
  refine World.ownsRow.kept h hg ?_
  cases hv : v.ownBlock with
  | none => exact .inl rfl
  | some k =>
    refine .inr fun e => ?_
    have := (World.ownsRow.lt h k hv).1
    have := hr k e.symm
    omega
theorem below_grown0 {w w' : World} (hb : Below w.heap.size w w') (r : Option Nat) : w.grownBy w' r := ⟨hb.os, hb.tape, hb.output, hb.size, fun k hk _ => hb.block k hk⟩
theorem Own.below {B : Nat} {w w' : World} {v : Value} {l : List Int} (h : Own B w v l) (hb : Below w.heap.size w w') : Own B w' v l := h.kept (below_grown0 hb none) (fun g e => by cases e)
theorem own_lit {B : Nat} {w : World} (hB : B ≤ w.heap.size) (l : List Int) (hl : l.length ≤ maxLen) : Own B (w.alloc (.cells (l.map (Value.int .i64)).toArray 3)) (.slice (some ⟨w.heap.size, 0, none⟩) l.length l.length) l := by
  have := World.ownsRow_lit (base := B) (e := 3) (size := 1) w (l.map (Value.int .i64)).toArray l.length hB hl (by simp)
  simpa [Own] using this
theorem Own.ints {w : World} {B : Nat} {v : Value} {l : List Int} (h : Own B w v l) : IntsAt w v l := by
  unfold Own at h
  rcases h.2 with ⟨rfl, h0⟩ | ⟨g, cap, cur, rfl, hb, hg, hnc, hcm, hcs, htake⟩
  · obtain rfl := List.eq_nil_of_length_eq_zero h0
    exact .nil w
  · refine ⟨_, cap, rfl, hnc, hcm, fun e => by (cases e), fun ad e j hj => ?_⟩
    cases e
    refine ⟨g, 0, rfl, ?_⟩
    have := h.cells (g := g) rfl j (.int .i64 l[j]) (by simp [List.getElem?_eq_getElem hj])
    rwa [show (⟨g, 0, none⟩ : Addr).add j = ⟨g, 0 + j, none⟩ from add_mid g 0 j] at this
theorem Own.weak {B B' : Nat} {w : World} {v : Value} {l : List Int} (h : Own B w v l) (hb : B' ≤ B) : Own B' w v l := own_weak h hb
theorem grownBy_refl (w : World) (r : Option Nat) : w.grownBy w r := ⟨rfl, rfl, rfl, Nat.le_refl _, fun _ _ _ => rfl⟩
theorem grown_setCell {w w' : World} {g : Nat} (h : w.grownBy w' (some g)) (o : Nat) (v : Value) : w.grownBy (w'.setCell ⟨g, o, none⟩ v) (some g) :=
  ⟨h.os, h.tape, h.output, by simpa using h.size, fun k hk hne => by rw [heap_setCell_other _ _ _ _ (fun e => hne (by rw [e]))]; exact h.block k hk hne⟩
theorem grown_below {w w1 w2 : World} {r : Option Nat} (h : w.grownBy w1 r) (hb : Below w1.heap.size w1 w2) : w.grownBy w2 r :=
  ⟨hb.os.trans h.os, hb.tape.trans h.tape, hb.output.trans h.output, Nat.le_trans h.size hb.size, fun k hk hne => (hb.block k (Nat.lt_of_lt_of_le hk h.size)).trans (h.block k hk hne)⟩
theorem grown_trans {w w1 w2 : World} {g : Nat} (h : w.grownBy w1 (some g)) (h2 : w1.grownBy w2 (some g)) : w.grownBy w2 (some g) :=
  ⟨h2.os.trans h.os, h2.tape.trans h.tape, h2.output.trans h.output, Nat.le_trans h.size h2.size, fun k hk hne => (h2.block k (Nat.lt_of_lt_of_le hk h.size) hne).trans (h.block k hk hne)⟩
theorem grown_alloc {w w' : World} {r : Option Nat} (h : w.grownBy w' r) (x : Obj) : w.grownBy (w'.alloc x) r := grown_below h ((Below.refl _ w').alloc (Nat.le_refl _) x)
theorem below_grown {B g : Nat} {w0 w w' : World} (hb : Below B w0 w) (hg : w.grownBy w' (some g)) (hl : B ≤ w.heap.size) (hB : B ≤ g) : Below B w0 w' := hb.grown hg hl (fun k hk => by cases hk; exact hB)
theorem below_drewN {B : Nat} {w0 w : World} (h : Below B w0 w) (n : Nat) : Below B w0 (w.drewN n) := ⟨h.os, h.tape, h.output, h.size, h.block⟩
/-- a policy lies at a block -/
def Pol.cells (p : Pol) : Array Value := #[.bool p.de, .bool p.pe, .int .i64 p.ho, .int .i64 p.id, .int .i64 p.se, .int .i64 p.mf, .int .i64 p.now, .int .i64 p.up, .int .i64 p.la, .int .i64 p.en, .int .i64 p.st, .bool p.wa, .int .i64 p.fa, .string (whyS p.wy)]
structure PolAt (w : World) (g : Nat) (p : Pol) : Prop where
  blk : w.heap[g]? = some (.cells p.cells 59 (0, 0))
section
variable {w w' : World} {g : Nat} {p : Pol}
theorem PolAt.lt (h : PolAt w g p) : g < w.heap.size := (Array.getElem?_eq_some_iff.1 h.blk).1
theorem PolAt.free (h : PolAt w g p) (j : Nat) : w.frozen? ⟨g, j, none⟩ = false := frozen_of_row _ _ _ _ _ h.blk
theorem PolAt.below (h : PolAt w g p) (hb : Below w.heap.size w w') : PolAt w' g p := ⟨(hb.block g h.lt).trans h.blk⟩
theorem PolAt.keep {r : Option Nat} (h : PolAt w g p) (hg : w.grownBy w' r) (hne : some g ≠ r) : PolAt w' g p := ⟨(hg.block g h.lt hne).trans h.blk⟩
theorem PolAt.alloc (h : PolAt w g p) (x : Obj) : PolAt (w.alloc x) g p := h.below ((Below.refl _ w).alloc (Nat.le_refl _) x)
theorem PolAt.drewN (h : PolAt w g p) (n : Nat) : PolAt (w.drewN n) g p := ⟨h.blk⟩
theorem PolAt.cde (h : PolAt w g p) : w.cell? ⟨g, 0, none⟩ = some (.bool p.de) := (cell_of_row _ _ _ _ _ _ h.blk).trans rfl
theorem PolAt.cpe (h : PolAt w g p) : w.cell? ⟨g, 1, none⟩ = some (.bool p.pe) := (cell_of_row _ _ _ _ _ _ h.blk).trans rfl
theorem PolAt.cho (h : PolAt w g p) : w.cell? ⟨g, 2, none⟩ = some (.int .i64 p.ho) := (cell_of_row _ _ _ _ _ _ h.blk).trans rfl
theorem PolAt.cid (h : PolAt w g p) : w.cell? ⟨g, 3, none⟩ = some (.int .i64 p.id) := (cell_of_row _ _ _ _ _ _ h.blk).trans rfl
theorem PolAt.cse (h : PolAt w g p) : w.cell? ⟨g, 4, none⟩ = some (.int .i64 p.se) := (cell_of_row _ _ _ _ _ _ h.blk).trans rfl
theorem PolAt.cmf (h : PolAt w g p) : w.cell? ⟨g, 5, none⟩ = some (.int .i64 p.mf) := (cell_of_row _ _ _ _ _ _ h.blk).trans rfl
theorem PolAt.cnow (h : PolAt w g p) : w.cell? ⟨g, 6, none⟩ = some (.int .i64 p.now) := (cell_of_row _ _ _ _ _ _ h.blk).trans rfl
theorem PolAt.cup (h : PolAt w g p) : w.cell? ⟨g, 7, none⟩ = some (.int .i64 p.up) := (cell_of_row _ _ _ _ _ _ h.blk).trans rfl
theorem PolAt.cla (h : PolAt w g p) : w.cell? ⟨g, 8, none⟩ = some (.int .i64 p.la) := (cell_of_row _ _ _ _ _ _ h.blk).trans rfl
theorem PolAt.cen (h : PolAt w g p) : w.cell? ⟨g, 9, none⟩ = some (.int .i64 p.en) := (cell_of_row _ _ _ _ _ _ h.blk).trans rfl
theorem PolAt.cst (h : PolAt w g p) : w.cell? ⟨g, 10, none⟩ = some (.int .i64 p.st) := (cell_of_row _ _ _ _ _ _ h.blk).trans rfl
theorem PolAt.cwa (h : PolAt w g p) : w.cell? ⟨g, 11, none⟩ = some (.bool p.wa) := (cell_of_row _ _ _ _ _ _ h.blk).trans rfl
theorem PolAt.cfa (h : PolAt w g p) : w.cell? ⟨g, 12, none⟩ = some (.int .i64 p.fa) := (cell_of_row _ _ _ _ _ _ h.blk).trans rfl
theorem PolAt.cwy (h : PolAt w g p) : w.cell? ⟨g, 13, none⟩ = some (.string (whyS p.wy)) := (cell_of_row _ _ _ _ _ _ h.blk).trans rfl
theorem PolAt.snow (h : PolAt w g p) (x : Int) : PolAt (w.setCell ⟨g, 6, none⟩ (.int .i64 x)) g { p with now := x } := ⟨heap_setCell_same _ _ _ _ _ _ h.blk⟩
theorem PolAt.sup (h : PolAt w g p) (x : Int) : PolAt (w.setCell ⟨g, 7, none⟩ (.int .i64 x)) g { p with up := x } := ⟨heap_setCell_same _ _ _ _ _ _ h.blk⟩
theorem PolAt.sla (h : PolAt w g p) (x : Int) : PolAt (w.setCell ⟨g, 8, none⟩ (.int .i64 x)) g { p with la := x } := ⟨heap_setCell_same _ _ _ _ _ _ h.blk⟩
theorem PolAt.sen (h : PolAt w g p) (x : Int) : PolAt (w.setCell ⟨g, 9, none⟩ (.int .i64 x)) g { p with en := x } := ⟨heap_setCell_same _ _ _ _ _ _ h.blk⟩
theorem PolAt.sst (h : PolAt w g p) (x : Int) : PolAt (w.setCell ⟨g, 10, none⟩ (.int .i64 x)) g { p with st := x } := ⟨heap_setCell_same _ _ _ _ _ _ h.blk⟩
theorem PolAt.swa (h : PolAt w g p) (x : Bool) : PolAt (w.setCell ⟨g, 11, none⟩ (.bool x)) g { p with wa := x } := ⟨heap_setCell_same _ _ _ _ _ _ h.blk⟩
theorem PolAt.sfa (h : PolAt w g p) (x : Int) : PolAt (w.setCell ⟨g, 12, none⟩ (.int .i64 x)) g { p with fa := x } := ⟨heap_setCell_same _ _ _ _ _ _ h.blk⟩
theorem PolAt.swy (h : PolAt w g p) (x : Nat) : PolAt (w.setCell ⟨g, 13, none⟩ (.string (whyS x))) g { p with wy := x } := ⟨heap_setCell_same _ _ _ _ _ _ h.blk⟩
end
/-- What a call that turns the policy hands back. -/
structure ActR (g : Nat) (r : Pol × List Int) (w : World) (e : Ending) (w' : World) : Prop where
  ret : ∃ v, e = .returned v ∧ Own w.heap.size w' v r.2
  obj : PolAt w' g r.1
  grow : w.grownBy w' (some g)
theorem own_one {B n : Nat} {w : World} (x : Int) (hB : B ≤ w.heap.size) (hn : n = w.heap.size := by simp) : Own B (w.alloc (.cells #[.int .i64 x] 3)) (.slice (some ⟨n, 0, none⟩) 1 1) [x] := by subst hn; exact own_lit hB [x] (by simp [maxLen])
theorem over49 (n b s : Int) (w : World) : Calls Try.prog 49 #[.int .i64 n, .int .i64 b, .int .i64 s] w fun e w' => e = .returned (.bool (ovr n b s)) ∧ w' = w := by
  go_enter Try.func49, Try.ntmps49
  go_wp2
  go_ret
  exact ⟨rfl, rfl⟩
variable (g : Nat) (p : Pol) (w : World)
theorem dial48 (h : PolAt w g p) : Calls Try.prog 48 #[.pointer (some ⟨g, 0, none⟩)] w (ActR g p.dial w) := by
  have c1 := h.cst
  have f1 := h.free 10
  go_enter Try.func48, Try.ntmps48
  go_wp2
  go_ret
  exact ⟨⟨_, rfl, own_one 1 (by simp)⟩, (h.sst 2).alloc _, grown_alloc (grown_setCell (grownBy_refl _ _) _ _) _⟩
theorem hang51 (k : Nat) (h : PolAt w g p) : Calls Try.prog 51 #[.pointer (some ⟨g, 0, none⟩), .string (whyS k)] w (ActR g (p.hang k) w) := by
  have c1 := h.cst
  have c2 := h.cwa
  have c3 := h.cwy
  have f1 := h.free 10
  have f2 := h.free 11
  have f3 := h.free 13
  go_enter Try.func51, Try.ntmps51
  go_wp2
  go_ret
  exact ⟨⟨_, rfl, own_one 2 (by simp)⟩, (((h.sst 4).swa false).swy k).alloc _, grown_alloc (grown_setCell (grown_setCell (grown_setCell (grownBy_refl _ _) _ _) _ _) _ _) _⟩
theorem held45 (h : PolAt w g p) : Calls Try.prog 45 #[.pointer (some ⟨g, 0, none⟩)] w (ActR g p.held w) := by
  have c1 := h.cst
  have c2 := h.cwa
  have f1 := h.free 10
  unfold Pol.held
  by_cases hw : p.wa = true
  rotate_left
  · rw [if_neg hw]
    simp only [Bool.not_eq_true] at hw
    rw [hw] at c2
    go_enter Try.func45, Try.ntmps45
    go_wp2
    go_ret
    exact ⟨⟨_, rfl, own_nil _ _⟩, h.sst 0, grown_setCell (grownBy_refl _ _) _ _⟩
  · rw [if_pos hw]
    rw [hw] at c2
    go_enter Try.func45, Try.ntmps45
    go_wp2_with fail
    refine (dial48 g p _ h).mono ?_
    rintro e w' ⟨⟨v, rfl, h1⟩, h2, h3⟩
    go_wp2
    go_ret
    exact ⟨⟨_, rfl, h1⟩, h2, h3⟩
theorem want42 (h : PolAt w g p) : Calls Try.prog 42 #[.pointer (some ⟨g, 0, none⟩)] w (ActR g p.want w) := by
  have c2 := h.cwa
  have f1 := h.free 11
  go_enter Try.func42, Try.ntmps42
  go_wp2_with fail
  refine (dial48 g _ _ (h.swa true)).mono ?_
  rintro e w' ⟨⟨v, rfl, h1⟩, h2, h3⟩
  go_wp2
  go_ret
  exact ⟨⟨_, rfl, by simpa [Pol.want] using h1⟩, h2, grown_trans (grown_setCell (grownBy_refl _ _) _ _) h3⟩
theorem packet40 (h : PolAt w g p) : Calls Try.prog 40 #[.pointer (some ⟨g, 0, none⟩)] w (ActR g p.packet1 w) := by
  have c1 := h.cnow
  have c2 := h.cla
  have f1 := h.free 8
  go_enter Try.func40, Try.ntmps40
  go_wp2
  go_ret
  exact ⟨⟨_, rfl, own_nil _ _⟩, h.sla p.now, grown_setCell (grownBy_refl _ _) _ _⟩
theorem down50 (h : PolAt w g p) : Calls Try.prog 50 #[.pointer (some ⟨g, 0, none⟩)] w (ActR g p.down1 w) := by
  go_enter Try.func50, Try.ntmps50
  go_wp2_with fail
  refine (hang51 g p _ 3 h).mono ?_
  rintro e w' ⟨⟨v, rfl, h1⟩, h2, h3⟩
  go_wp2
  go_ret
  exact ⟨⟨_, rfl, h1⟩, h2, h3⟩
theorem down52 (h : PolAt w g p) : Calls Try.prog 52 #[.pointer (some ⟨g, 0, none⟩)] w (ActR g p.down2 w) := by
  have c1 := h.cwa
  have f1 := h.free 11
  go_enter Try.func52, Try.ntmps52
  go_wp2
  go_ret
  exact ⟨⟨_, rfl, own_nil _ _⟩, h.swa false, grown_setCell (grownBy_refl _ _) _ _⟩
theorem start46 (h : PolAt w g p) : Calls Try.prog 46 #[.pointer (some ⟨g, 0, none⟩)] w (ActR g p.start1 w) := by
  have c1 := h.cde
  unfold Pol.start1
  by_cases hw : p.de = true
  rotate_left
  · rw [if_neg hw]
    simp only [Bool.not_eq_true] at hw
    rw [hw] at c1
    go_enter Try.func46, Try.ntmps46
    go_wp2_with fail
    refine (want42 g p _ h).mono ?_
    rintro e w' ⟨⟨v, rfl, h1⟩, h2, h3⟩
    go_wp2
    go_ret
    exact ⟨⟨_, rfl, h1⟩, h2, h3⟩
  · rw [if_pos hw]
    rw [hw] at c1
    go_enter Try.func46, Try.ntmps46
    go_wp2
    go_ret
    exact ⟨⟨_, rfl, own_nil _ _⟩, h, grownBy_refl _ _⟩
theorem packet41 (h : PolAt w g p) : Calls Try.prog 41 #[.pointer (some ⟨g, 0, none⟩)] w (ActR g p.packet2 w) := by
  have c1 := h.cde
  have c2 := h.cst
  have c3 := h.cwa
  have f3 := h.free 11
  unfold Pol.packet2
  by_cases hw : p.de = true
  rotate_left
  · rw [if_neg hw]
    simp only [Bool.not_eq_true] at hw
    rw [hw] at c1
    go_enter Try.func41, Try.ntmps41
    go_wp2
    go_ret
    exact ⟨⟨_, rfl, own_nil _ _⟩, h, grownBy_refl _ _⟩
  · rw [if_pos hw]
    rw [hw] at c1
    by_cases hs : p.st = 0
    · have e1 : (p.st == 0) = true := by simpa using hs
      rw [if_pos hs]
      clear hs
      go_enter Try.func41, Try.ntmps41
      go_wp2_with fail
      refine (want42 g p _ h).mono ?_
      rintro e w' ⟨⟨v, rfl, h1⟩, h2, h3⟩
      go_wp2
      go_ret
      exact ⟨⟨_, rfl, h1⟩, h2, h3⟩
    · have e1 : (p.st == 0) = false := by simpa using hs
      rw [if_neg hs]
      clear hs
      go_enter Try.func41, Try.ntmps41
      go_wp2
      go_ret
      exact ⟨⟨_, rfl, own_nil _ _⟩, h.swa true, grown_setCell (grownBy_refl _ _) _ _⟩
theorem lup43 (h : PolAt w g p) : Calls Try.prog 43 #[.pointer (some ⟨g, 0, none⟩)] w (ActR g p.lup1 w) := by
  have c1 := h.cst
  have c2 := h.cfa
  have c3 := h.cwy
  have c4 := h.cnow
  have c5 := h.cup
  have c6 := h.cla
  have f1 := h.free 10
  have f2 := h.free 12
  have f3 := h.free 13
  have f4 := h.free 7
  have f5 := h.free 8
  go_enter Try.func43, Try.ntmps43
  have hq := ((h.sst 3).sfa 0).swy 0
  have hg := grown_setCell (grown_setCell (grown_setCell (grownBy_refl w (some g)) 10 (.int .i64 3)) 12 (.int .i64 0)) 13 (.string (whyS 0))
  rw [show whyS 0 = { data := #[] } from rfl] at hq hg
  go_wp2
  clear c1 c2 c3 c4 c5 c6 f1 f2 f3 f4 f5
  generalize ((w.setCell ⟨g, 10, none⟩ (.int .i64 3)).setCell ⟨g, 12, none⟩ (.int .i64 0)).setCell ⟨g, 13, none⟩ (.string { data := #[] }) = W at *
  have c4 := hq.cnow
  have c5 := hq.cup
  have c6 := hq.cla
  have f4 := hq.free 7
  have f5 := hq.free 8
  simp only at c4 c5 c6
  go_region
  all_goals go_wp2
  all_goals trace_state
  all_goals go_ret
  exact ⟨⟨_, rfl, own_nil _ _⟩, ⟨((hq.sup p.now).sla p.now).blk⟩, ⟨(grown_setCell (grown_setCell hg 7 (.int .i64 p.now)) 8 (.int .i64 p.now)).os, hg.tape, (grown_setCell (grown_setCell hg 7 (.int .i64 p.now)) 8 (.int .i64 p.now)).output, (grown_setCell (grown_setCell hg 7 (.int .i64 p.now)) 8 (.int .i64 p.now)).size, (grown_setCell (grown_setCell hg 7 (.int .i64 p.now)) 8 (.int .i64 p.now)).block⟩⟩
end Go.Proofs.Ytibdaonhldlmbaa.F
