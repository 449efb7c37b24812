import Derived.Test.YtibdaonhldlmbaaG2
import Derived.Test.YtibdaonhldlmbaaE0
set_option linter.unusedVariables false
set_option linter.unusedSimpArgs false
namespace Go.Proofs.Ytibdaonhldlmbaa.F
open Go.RowKit Go.Proofs.Ytibdaonhldlmbaa.K
/-- the reference's policy lies at a block -/
def rcells (c : Cf) (p : Pol) : Array Value := #[.string c.x0, .string c.x1, .int .i64 c.x2, .slice c.x3 c.x3l c.x3c, .int .i64 c.x4, .int .i64 c.x5, .bool c.x6, .bool c.x7, .bool c.x8, .int .i64 c.x9, .int .i64 c.x10, .int .i64 c.x11, .int .i64 c.x12, .bool c.x13, .bool c.x14, .int .u64 c.x15, .int .i64 c.x16, .int .i64 c.x17, .int .i64 c.x18, .int .i64 c.x19, .int .i64 c.x20, .int .i64 c.x21, .int .i64 c.x22, .int .i64 c.x23, .int .i64 c.x24, .int .i64 p.id, .int .i64 p.se, .int .i64 p.ho, .bool p.pe, .bool p.de, .int .i64 p.mf, .string c.x31, .string c.x32, .int .i64 p.st, .bool p.wa, .int .i64 p.fa, .string (whyS p.wy), .int .i64 p.now, .int .i64 p.up, .int .i64 p.la, .int .i64 p.en]
structure RefAt (w : World) (g : Nat) (c : Cf) (p : Pol) : Prop where
  blk : w.heap[g]? = some (.cells (rcells c p) 62 (0, 0))
section
variable {w w' : World} {g : Nat} {c : Cf} {p : Pol}
theorem RefAt.lt (h : RefAt w g c p) : g < w.heap.size := (Array.getElem?_eq_some_iff.1 h.blk).1
theorem RefAt.free (h : RefAt w g c p) (j : Nat) : w.frozen? ⟨g, j, none⟩ = false := frozen_of_row _ _ _ _ _ h.blk
theorem RefAt.below (h : RefAt w g c p) (hb : Below w.heap.size w w') : RefAt w' g c p := ⟨(hb.block g h.lt).trans h.blk⟩
theorem RefAt.keep {r : Option Nat} (h : RefAt w g c p) (hg : w.grownBy w' r) (hne : some g ≠ r) : RefAt w' g c p := ⟨(hg.block g h.lt hne).trans h.blk⟩
theorem RefAt.alloc (h : RefAt w g c p) (x : Obj) : RefAt (w.alloc x) g c p := h.below ((Below.refl _ w).alloc (Nat.le_refl _) x)
theorem RefAt.drewN (h : RefAt w g c p) (n : Nat) : RefAt (w.drewN n) g c p := ⟨h.blk⟩
theorem RefAt.cst (h : RefAt w g c p) : w.cell? ⟨g, 33, none⟩ = some (.int .i64 p.st) := (cell_of_row _ _ _ _ _ _ h.blk).trans rfl
theorem RefAt.cwa (h : RefAt w g c p) : w.cell? ⟨g, 34, none⟩ = some (.bool p.wa) := (cell_of_row _ _ _ _ _ _ h.blk).trans rfl
theorem RefAt.cfa (h : RefAt w g c p) : w.cell? ⟨g, 35, none⟩ = some (.int .i64 p.fa) := (cell_of_row _ _ _ _ _ _ h.blk).trans rfl
theorem RefAt.cwy (h : RefAt w g c p) : w.cell? ⟨g, 36, none⟩ = some (.string (whyS p.wy)) := (cell_of_row _ _ _ _ _ _ h.blk).trans rfl
theorem RefAt.cnow (h : RefAt w g c p) : w.cell? ⟨g, 37, none⟩ = some (.int .i64 p.now) := (cell_of_row _ _ _ _ _ _ h.blk).trans rfl
theorem RefAt.cup (h : RefAt w g c p) : w.cell? ⟨g, 38, none⟩ = some (.int .i64 p.up) := (cell_of_row _ _ _ _ _ _ h.blk).trans rfl
theorem RefAt.cla (h : RefAt w g c p) : w.cell? ⟨g, 39, none⟩ = some (.int .i64 p.la) := (cell_of_row _ _ _ _ _ _ h.blk).trans rfl
theorem RefAt.cen (h : RefAt w g c p) : w.cell? ⟨g, 40, none⟩ = some (.int .i64 p.en) := (cell_of_row _ _ _ _ _ _ h.blk).trans rfl
theorem RefAt.cid (h : RefAt w g c p) : w.cell? ⟨g, 25, none⟩ = some (.int .i64 p.id) := (cell_of_row _ _ _ _ _ _ h.blk).trans rfl
theorem RefAt.cse (h : RefAt w g c p) : w.cell? ⟨g, 26, none⟩ = some (.int .i64 p.se) := (cell_of_row _ _ _ _ _ _ h.blk).trans rfl
theorem RefAt.cho (h : RefAt w g c p) : w.cell? ⟨g, 27, none⟩ = some (.int .i64 p.ho) := (cell_of_row _ _ _ _ _ _ h.blk).trans rfl
theorem RefAt.cpe (h : RefAt w g c p) : w.cell? ⟨g, 28, none⟩ = some (.bool p.pe) := (cell_of_row _ _ _ _ _ _ h.blk).trans rfl
theorem RefAt.cde (h : RefAt w g c p) : w.cell? ⟨g, 29, none⟩ = some (.bool p.de) := (cell_of_row _ _ _ _ _ _ h.blk).trans rfl
theorem RefAt.cmf (h : RefAt w g c p) : w.cell? ⟨g, 30, none⟩ = some (.int .i64 p.mf) := (cell_of_row _ _ _ _ _ _ h.blk).trans rfl
theorem RefAt.sst (h : RefAt w g c p) (x : Int) : RefAt (w.setCell ⟨g, 33, none⟩ (.int .i64 x)) g c { p with st := x } := ⟨heap_setCell_same _ _ _ _ _ _ h.blk⟩
theorem RefAt.swa (h : RefAt w g c p) (x : Bool) : RefAt (w.setCell ⟨g, 34, none⟩ (.bool x)) g c { p with wa := x } := ⟨heap_setCell_same _ _ _ _ _ _ h.blk⟩
theorem RefAt.sfa (h : RefAt w g c p) (x : Int) : RefAt (w.setCell ⟨g, 35, none⟩ (.int .i64 x)) g c { p with fa := x } := ⟨heap_setCell_same _ _ _ _ _ _ h.blk⟩
theorem RefAt.swy (h : RefAt w g c p) (x : Nat) : RefAt (w.setCell ⟨g, 36, none⟩ (.string (whyS x))) g c { p with wy := x } := ⟨heap_setCell_same _ _ _ _ _ _ h.blk⟩
theorem RefAt.snow (h : RefAt w g c p) (x : Int) : RefAt (w.setCell ⟨g, 37, none⟩ (.int .i64 x)) g c { p with now := x } := ⟨heap_setCell_same _ _ _ _ _ _ h.blk⟩
theorem RefAt.sup (h : RefAt w g c p) (x : Int) : RefAt (w.setCell ⟨g, 38, none⟩ (.int .i64 x)) g c { p with up := x } := ⟨heap_setCell_same _ _ _ _ _ _ h.blk⟩
theorem RefAt.sla (h : RefAt w g c p) (x : Int) : RefAt (w.setCell ⟨g, 39, none⟩ (.int .i64 x)) g c { p with la := x } := ⟨heap_setCell_same _ _ _ _ _ _ h.blk⟩
theorem RefAt.sen (h : RefAt w g c p) (x : Int) : RefAt (w.setCell ⟨g, 40, none⟩ (.int .i64 x)) g c { p with en := x } := ⟨heap_setCell_same _ _ _ _ _ _ h.blk⟩
end
structure RActR (g : Nat) (c : Cf) (r : Pol × List Int) (w : World) (e : Ending) (w' : World) : Prop where
  ret : ∃ v, e = .returned v ∧ Own w.heap.size w' v r.2
  obj : RefAt w' g c r.1
  grow : w.grownBy w' (some g)
variable (g : Nat) (c : Cf) (p : Pol) (w : World)
theorem rdial55 (h : RefAt w g c p) : Calls Try.prog 55 #[.pointer (some ⟨g, 0, none⟩)] w (RActR g c p.dial w) := by
  have c_st := h.cst
  have c_wa := h.cwa
  have c_fa := h.cfa
  have c_wy := h.cwy
  have c_now := h.cnow
  have c_up := h.cup
  have c_la := h.cla
  have c_en := h.cen
  have c_id := h.cid
  have c_se := h.cse
  have c_ho := h.cho
  have c_pe := h.cpe
  have c_de := h.cde
  have c_mf := h.cmf
  have f_st := h.free 33
  have f_wa := h.free 34
  have f_fa := h.free 35
  have f_wy := h.free 36
  have f_now := h.free 37
  have f_up := h.free 38
  have f_la := h.free 39
  have f_en := h.free 40
  go_enter Try.func55, Try.ntmps55
  go_wp2
  go_ret
  exact ⟨⟨_, rfl, own_one 1 (by simp)⟩, (h.sst 2).alloc _, grown_alloc (grown_setCell (grownBy_refl _ _) _ _) _⟩
theorem rhang53 (k : Nat) (h : RefAt w g c p) : Calls Try.prog 53 #[.pointer (some ⟨g, 0, none⟩), .string (whyS k)] w (RActR g c (p.hang k) w) := by
  have c_st := h.cst
  have c_wa := h.cwa
  have c_fa := h.cfa
  have c_wy := h.cwy
  have c_now := h.cnow
  have c_up := h.cup
  have c_la := h.cla
  have c_en := h.cen
  have c_id := h.cid
  have c_se := h.cse
  have c_ho := h.cho
  have c_pe := h.cpe
  have c_de := h.cde
  have c_mf := h.cmf
  have f_st := h.free 33
  have f_wa := h.free 34
  have f_fa := h.free 35
  have f_wy := h.free 36
  have f_now := h.free 37
  have f_up := h.free 38
  have f_la := h.free 39
  have f_en := h.free 40
  go_enter Try.func53, Try.ntmps53
  go_wp2
  go_ret
  exact ⟨⟨_, rfl, own_one 2 (by simp)⟩, (((h.sst 4).swa false).swy k).alloc _, grown_alloc (grown_setCell (grown_setCell (grown_setCell (grownBy_refl _ _) _ _) _ _) _ _) _⟩
theorem rheld54 (h : RefAt w g c p) : Calls Try.prog 54 #[.pointer (some ⟨g, 0, none⟩)] w (RActR g c p.held w) := by
  have c_st := h.cst
  have c_wa := h.cwa
  have c_fa := h.cfa
  have c_wy := h.cwy
  have c_now := h.cnow
  have c_up := h.cup
  have c_la := h.cla
  have c_en := h.cen
  have c_id := h.cid
  have c_se := h.cse
  have c_ho := h.cho
  have c_pe := h.cpe
  have c_de := h.cde
  have c_mf := h.cmf
  have f_st := h.free 33
  have f_wa := h.free 34
  have f_fa := h.free 35
  have f_wy := h.free 36
  have f_now := h.free 37
  have f_up := h.free 38
  have f_la := h.free 39
  have f_en := h.free 40
  unfold Pol.held
  by_cases hw : p.wa = true
  rotate_left
  · rw [if_neg hw]
    simp only [Bool.not_eq_true] at hw
    rw [hw] at c_wa
    clear hw
    go_enter Try.func54, Try.ntmps54
    go_wp2
    go_ret
    exact ⟨⟨_, rfl, own_nil _ _⟩, (h.sst 0), (grown_setCell (grownBy_refl _ _) _ _)⟩
  · rw [if_pos hw]
    rw [hw] at c_wa
    clear hw
    go_enter Try.func54, Try.ntmps54
    go_wp2_with fail
    refine (rdial55 g c _ _ h).mono ?_
    rintro e w' ⟨⟨v, rfl, h1⟩, h2, h3⟩
    go_wp2
    go_ret
    exact ⟨⟨_, rfl, h1⟩, h2, h3⟩
theorem rstart31 (m : Bool) (h : RefAt w g c p) : Calls Try.prog 31 #[.pointer (some ⟨g, 0, none⟩)] w (RActR g c (mv 0 m p) w) := by
  have c_st := h.cst
  have c_wa := h.cwa
  have c_fa := h.cfa
  have c_wy := h.cwy
  have c_now := h.cnow
  have c_up := h.cup
  have c_la := h.cla
  have c_en := h.cen
  have c_id := h.cid
  have c_se := h.cse
  have c_ho := h.cho
  have c_pe := h.cpe
  have c_de := h.cde
  have c_mf := h.cmf
  have f_st := h.free 33
  have f_wa := h.free 34
  have f_fa := h.free 35
  have f_wy := h.free 36
  have f_now := h.free 37
  have f_up := h.free 38
  have f_la := h.free 39
  have f_en := h.free 40
  unfold mv
  rw [if_pos rfl]
  by_cases s0 : p.st = 0
  · rw [if_pos s0]
    unfold Pol.start1
    have x0 : (p.st == 0) = true := beq_iff_eq.2 (by omega)
    clear s0
    by_cases hd : p.de = true
    rotate_left
    · rw [if_neg hd]
      simp only [Bool.not_eq_true] at hd
      rw [hd] at c_de
      clear hd
      go_enter Try.func31, Try.ntmps31
      go_wp2_with fail
      refine (rdial55 g c _ _ (h.swa true)).mono ?_
      rintro e w' ⟨⟨v, rfl, h1⟩, h2, h3⟩
      go_wp2
      go_ret
      exact ⟨⟨_, rfl, h1.weak (by simp)⟩, h2, grown_trans (grown_setCell (grownBy_refl _ _) _ _) h3⟩
    · rw [if_pos hd]
      rw [hd] at c_de
      clear hd
      go_enter Try.func31, Try.ntmps31
      go_wp2
      go_ret
      exact ⟨⟨_, rfl, own_nil _ _⟩, h, (grownBy_refl _ _)⟩
  · rw [if_neg s0]
    have x0 : (p.st == 0) = false := beq_eq_false_iff_ne.2 (by omega)
    clear s0
    go_enter Try.func31, Try.ntmps31
    go_wp2
    go_ret
    exact ⟨⟨_, rfl, own_nil _ _⟩, h, (grownBy_refl _ _)⟩
theorem rpacket32 (m : Bool) (h : RefAt w g c p) : Calls Try.prog 32 #[.pointer (some ⟨g, 0, none⟩), .bool m] w (RActR g c (mv 1 m p) w) := by
  have c_st := h.cst
  have c_wa := h.cwa
  have c_fa := h.cfa
  have c_wy := h.cwy
  have c_now := h.cnow
  have c_up := h.cup
  have c_la := h.cla
  have c_en := h.cen
  have c_id := h.cid
  have c_se := h.cse
  have c_ho := h.cho
  have c_pe := h.cpe
  have c_de := h.cde
  have c_mf := h.cmf
  have f_st := h.free 33
  have f_wa := h.free 34
  have f_fa := h.free 35
  have f_wy := h.free 36
  have f_now := h.free 37
  have f_up := h.free 38
  have f_la := h.free 39
  have f_en := h.free 40
  unfold mv
  rw [if_neg (by decide), if_pos rfl]
  cases m
  · rw [if_neg (by decide)]
    go_enter Try.func32, Try.ntmps32
    go_wp2
    go_ret
    exact ⟨⟨_, rfl, own_nil _ _⟩, h, (grownBy_refl _ _)⟩
  · rw [if_pos rfl]
    by_cases s3 : p.st = 3
    · rw [if_pos s3]
      have x0 : (p.st == 0) = false := beq_eq_false_iff_ne.2 (by omega)
      have x1 : (p.st == 1) = false := beq_eq_false_iff_ne.2 (by omega)
      have x3 : (p.st == 3) = true := beq_iff_eq.2 (by omega)
      have x4 : (p.st == 4) = false := beq_eq_false_iff_ne.2 (by omega)
      clear s3
      go_enter Try.func32, Try.ntmps32
      go_wp2
      go_ret
      exact ⟨⟨_, rfl, own_nil _ _⟩, (h.sla p.now), (grown_setCell (grownBy_refl _ _) _ _)⟩
    rw [if_neg s3]
    by_cases s0 : p.st = 0 ∨ p.st = 1 ∨ p.st = 4
    · rw [if_pos s0]
      unfold Pol.packet2
      by_cases hd : p.de = true
      rotate_left
      · rw [if_neg hd]
        simp only [Bool.not_eq_true] at hd
        rw [hd] at c_de
        clear hd
        have x3 : (p.st == 3) = false := beq_eq_false_iff_ne.2 (by omega)
        rcases s0 with s0 | s0 | s0
        · skip
          have x0 : (p.st == 0) = true := beq_iff_eq.2 (by omega)
          have x1 : (p.st == 1) = false := beq_eq_false_iff_ne.2 (by omega)
          have x4 : (p.st == 4) = false := beq_eq_false_iff_ne.2 (by omega)
          clear s0 s3
          go_enter Try.func32, Try.ntmps32
          go_wp2
          go_ret
          exact ⟨⟨_, rfl, own_nil _ _⟩, h, (grownBy_refl _ _)⟩
        · skip
          have x0 : (p.st == 0) = false := beq_eq_false_iff_ne.2 (by omega)
          have x1 : (p.st == 1) = true := beq_iff_eq.2 (by omega)
          have x4 : (p.st == 4) = false := beq_eq_false_iff_ne.2 (by omega)
          clear s0 s3
          go_enter Try.func32, Try.ntmps32
          go_wp2
          go_ret
          exact ⟨⟨_, rfl, own_nil _ _⟩, h, (grownBy_refl _ _)⟩
        · skip
          have x0 : (p.st == 0) = false := beq_eq_false_iff_ne.2 (by omega)
          have x1 : (p.st == 1) = false := beq_eq_false_iff_ne.2 (by omega)
          have x4 : (p.st == 4) = true := beq_iff_eq.2 (by omega)
          clear s0 s3
          go_enter Try.func32, Try.ntmps32
          go_wp2
          go_ret
          exact ⟨⟨_, rfl, own_nil _ _⟩, h, (grownBy_refl _ _)⟩
      · rw [if_pos hd]
        rw [hd] at c_de
        clear hd
        have x3 : (p.st == 3) = false := beq_eq_false_iff_ne.2 (by omega)
        rcases s0 with s0 | s0 | s0
        · rw [if_pos s0]
          have x0 : (p.st == 0) = true := beq_iff_eq.2 (by omega)
          have x1 : (p.st == 1) = false := beq_eq_false_iff_ne.2 (by omega)
          have x4 : (p.st == 4) = false := beq_eq_false_iff_ne.2 (by omega)
          clear s0 s3
          go_enter Try.func32, Try.ntmps32
          go_wp2_with fail
          refine (rdial55 g c _ _ (h.swa true)).mono ?_
          rintro e w' ⟨⟨v, rfl, h1⟩, h2, h3⟩
          go_wp2
          go_ret
          exact ⟨⟨_, rfl, h1.weak (by simp)⟩, h2, grown_trans (grown_setCell (grownBy_refl _ _) _ _) h3⟩
        · rw [if_neg (by omega)]
          have x0 : (p.st == 0) = false := beq_eq_false_iff_ne.2 (by omega)
          have x1 : (p.st == 1) = true := beq_iff_eq.2 (by omega)
          have x4 : (p.st == 4) = false := beq_eq_false_iff_ne.2 (by omega)
          clear s0 s3
          go_enter Try.func32, Try.ntmps32
          go_wp2
          go_ret
          exact ⟨⟨_, rfl, own_nil _ _⟩, (h.swa true), (grown_setCell (grownBy_refl _ _) _ _)⟩
        · rw [if_neg (by omega)]
          have x0 : (p.st == 0) = false := beq_eq_false_iff_ne.2 (by omega)
          have x1 : (p.st == 1) = false := beq_eq_false_iff_ne.2 (by omega)
          have x4 : (p.st == 4) = true := beq_iff_eq.2 (by omega)
          clear s0 s3
          go_enter Try.func32, Try.ntmps32
          go_wp2
          go_ret
          exact ⟨⟨_, rfl, own_nil _ _⟩, (h.swa true), (grown_setCell (grownBy_refl _ _) _ _)⟩
    · rw [if_neg s0]
      have x0 : (p.st == 0) = false := beq_eq_false_iff_ne.2 (by omega)
      have x1 : (p.st == 1) = false := beq_eq_false_iff_ne.2 (by omega)
      have x4 : (p.st == 4) = false := beq_eq_false_iff_ne.2 (by omega)
      have x3 : (p.st == 3) = false := beq_eq_false_iff_ne.2 (by omega)
      clear s0 s3
      go_enter Try.func32, Try.ntmps32
      go_wp2
      go_ret
      exact ⟨⟨_, rfl, own_nil _ _⟩, h, (grownBy_refl _ _)⟩
theorem rdown34 (m : Bool) (hst : 0 ≤ p.st ∧ p.st ≤ 5) (h : RefAt w g c p) : Calls Try.prog 34 #[.pointer (some ⟨g, 0, none⟩)] w (RActR g c (mv 3 m p) w) := by
  have c_st := h.cst
  have c_wa := h.cwa
  have c_fa := h.cfa
  have c_wy := h.cwy
  have c_now := h.cnow
  have c_up := h.cup
  have c_la := h.cla
  have c_en := h.cen
  have c_id := h.cid
  have c_se := h.cse
  have c_ho := h.cho
  have c_pe := h.cpe
  have c_de := h.cde
  have c_mf := h.cmf
  have f_st := h.free 33
  have f_wa := h.free 34
  have f_fa := h.free 35
  have f_wy := h.free 36
  have f_now := h.free 37
  have f_up := h.free 38
  have f_la := h.free 39
  have f_en := h.free 40
  unfold mv
  rw [if_neg (by decide), if_neg (by decide), if_neg (by decide), if_pos rfl]
  by_cases s2 : p.st = 2 ∨ p.st = 3
  · rw [if_pos s2]
    rcases s2 with s2 | s2
    · skip
      have x2 : (p.st == 2) = true := beq_iff_eq.2 (by omega)
      have x3 : (p.st == 3) = false := beq_eq_false_iff_ne.2 (by omega)
      clear s2
      go_enter Try.func34, Try.ntmps34
      go_wp2_with fail
      refine (rhang53 g c _ _ 3 (h.swa false)).mono ?_
      rintro e w' ⟨⟨v, rfl, h1⟩, h2, h3⟩
      go_wp2
      go_ret
      exact ⟨⟨_, rfl, h1.weak (by simp)⟩, h2, grown_trans (grown_setCell (grownBy_refl _ _) _ _) h3⟩
    · skip
      have x2 : (p.st == 2) = false := beq_eq_false_iff_ne.2 (by omega)
      have x3 : (p.st == 3) = true := beq_iff_eq.2 (by omega)
      clear s2
      go_enter Try.func34, Try.ntmps34
      go_wp2_with fail
      refine (rhang53 g c _ _ 3 (h.swa false)).mono ?_
      rintro e w' ⟨⟨v, rfl, h1⟩, h2, h3⟩
      go_wp2
      go_ret
      exact ⟨⟨_, rfl, h1.weak (by simp)⟩, h2, grown_trans (grown_setCell (grownBy_refl _ _) _ _) h3⟩
  · rw [if_neg s2]
    by_cases s0 : p.st = 0 ∨ p.st = 1 ∨ p.st = 4 ∨ p.st = 5
    · rw [if_pos s0]
      have x2 : (p.st == 2) = false := beq_eq_false_iff_ne.2 (by omega)
      have x3 : (p.st == 3) = false := beq_eq_false_iff_ne.2 (by omega)
      clear s0 s2
      go_enter Try.func34, Try.ntmps34
      go_wp2
      go_ret
      exact ⟨⟨_, rfl, own_nil _ _⟩, (h.swa false), (grown_setCell (grownBy_refl _ _) _ _)⟩
    · exact absurd hst (by omega)
theorem rlup35 (m : Bool) (h : RefAt w g c p) : Calls Try.prog 35 #[.pointer (some ⟨g, 0, none⟩)] w (RActR g c (mv 4 m p) w) := by
  have c_st := h.cst
  have c_wa := h.cwa
  have c_fa := h.cfa
  have c_wy := h.cwy
  have c_now := h.cnow
  have c_up := h.cup
  have c_la := h.cla
  have c_en := h.cen
  have c_id := h.cid
  have c_se := h.cse
  have c_ho := h.cho
  have c_pe := h.cpe
  have c_de := h.cde
  have c_mf := h.cmf
  have f_st := h.free 33
  have f_wa := h.free 34
  have f_fa := h.free 35
  have f_wy := h.free 36
  have f_now := h.free 37
  have f_up := h.free 38
  have f_la := h.free 39
  have f_en := h.free 40
  unfold mv
  rw [if_neg (by decide), if_neg (by decide), if_neg (by decide), if_neg (by decide), if_pos rfl]
  by_cases s2 : p.st = 2
  · rw [if_pos s2]
    have x2 : (p.st == 2) = true := beq_iff_eq.2 (by omega)
    clear s2
    go_enter Try.func35, Try.ntmps35
    go_wp2
    go_ret
    exact ⟨⟨_, rfl, own_nil _ _⟩, (((((h.sst 3).sfa 0).swy 0).sup p.now).sla p.now), (grown_setCell (grown_setCell (grown_setCell (grown_setCell (grown_setCell (grownBy_refl _ _) _ _) _ _) _ _) _ _) _ _)⟩
  · rw [if_neg s2]
    have x2 : (p.st == 2) = false := beq_eq_false_iff_ne.2 (by omega)
    clear s2
    go_enter Try.func35, Try.ntmps35
    go_wp2
    go_ret
    exact ⟨⟨_, rfl, own_nil _ _⟩, h, (grownBy_refl _ _)⟩
end Go.Proofs.Ytibdaonhldlmbaa.F
