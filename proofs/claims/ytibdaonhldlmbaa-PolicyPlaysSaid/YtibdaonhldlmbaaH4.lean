import Derived.Test.YtibdaonhldlmbaaH3
import Derived.Test.YtibdaonhldlmbaaB8
import Derived.Deep.CutRange
set_option linter.unusedVariables false
set_option linter.unusedSimpArgs false
namespace Go.Proofs.Ytibdaonhldlmbaa.F
open Go.RowKit Go.Proofs.Ytibdaonhldlmbaa.K
def StR (p : Pol) : Prop := 0 ≤ p.st ∧ p.st ≤ 5
theorem held_st (p : Pol) : StR p.held.1 := by unfold Pol.held; split <;> exact ⟨by simp [Pol.dial], by simp [Pol.dial]⟩
theorem due_st {p : Pol} (h : StR p) : StR p.due.1 := by
  unfold Pol.due Pol.due1 Pol.due2
  split
  · split
    · exact h
    · exact ⟨by simp [Pol.hang], by simp [Pol.hang]⟩
  · split
    · split
      · exact held_st p
      · exact h
    · exact h
theorem fin_st (p : Pol) : StR p.fin.1 := by
  unfold Pol.fin
  split
  · exact held_st _
  · exact ⟨by simp, by simp⟩
theorem mv_st {p : Pol} (k : Int) (m : Bool) (h : StR p) : StR (mv k m p).1 := by
  unfold mv
  split
  · split
    · unfold Pol.start1; split
      · exact h
      · exact ⟨by simp [Pol.want, Pol.dial], by simp [Pol.want, Pol.dial]⟩
    · exact h
  · split
    · split
      · split
        · exact h
        · split
          · unfold Pol.packet2; split
            · split
              · exact ⟨by simp [Pol.want, Pol.dial], by simp [Pol.want, Pol.dial]⟩
              · exact h
            · exact h
          · exact h
      · exact h
    · split
      · split
        · unfold Pol.up1; split
          · exact ⟨by simp [Pol.dial], by simp [Pol.dial]⟩
          · split
            · split
              · exact held_st _
              · exact ⟨by simp, by simp⟩
            · exact h
        · exact h
      · split
        · split
          · exact ⟨by simp [Pol.down1, Pol.hang], by simp [Pol.down1, Pol.hang]⟩
          · split <;> exact h
        · split
          · split
            · exact ⟨by simp [Pol.lup1], by simp [Pol.lup1]⟩
            · exact h
          · split
            · split
              · unfold Pol.ldown1; split
                · split
                  · exact ⟨by simp, by simp⟩
                  · exact fin_st _
                · split
                  · exact fin_st _
                  · split <;> exact fin_st _
              · exact h
            · exact h
variable (g : Nat) (c : Cf) (p : Pol) (w : World)
theorem atC_mv (k : Int) (m : Bool) (now : Int) : atC (csOf k m) now p = if now < 0 ∨ 1099511627776 < now ∨ now < p.now then (p, [], 1) else ((mv k m ({ p with now := now } : Pol).due.1).1, ({ p with now := now } : Pol).due.2 ++ (mv k m ({ p with now := now } : Pol).due.1).2, 0) := by
  unfold atC
  split
  · rfl
  · simp only [does_mv]
theorem mv_len (k : Int) (m : Bool) (q : Pol) : (mv k m q).2.length ≤ 1 := by rw [← does_mv]; exact does_len _ _
set_option maxHeartbeats 8000000 in
theorem rmodel15 (k by_ : Int) (m : Bool) (now : Int) (h : RefAt w g c p) (hf : p.fok) (hst : StR p) : Calls Try.prog 15 #[.pointer (some ⟨g, 0, none⟩), .agg #[.int .i64 k, .int .i64 by_, .bool m], .int .i64 now] w (RAtR g c (atC (csOf k m) now p) w) := by
  have hb : Below w.heap.size w (w.alloc (.cells #[.int .i64 k, .int .i64 by_, .bool m] 33)) := (Below.refl _ _).alloc (Nat.le_refl _) _
  have hg0 := below_grown0 hb (some g)
  have hsz0 : w.heap.size ≤ (w.alloc (.cells #[.int .i64 k, .int .i64 by_, .bool m] 33)).heap.size := hb.size
  have lw := h.lt
  have BG := Lib.hid (rbegin30 g c p _ now (h.below hb))
  have OX : Hid ((w.alloc (.cells #[.int .i64 k, .int .i64 by_, .bool m] 33)).heap[w.heap.size]? = some (.cells #[.int .i64 k, .int .i64 by_, .bool m] 33 (0, 0))) := Lib.hid (heap_alloc_new _ _)
  rw [atC_mv]
  unfold beg at BG
  by_cases hbad : now < 0 ∨ 1099511627776 < now ∨ now < p.now
  · rw [if_pos hbad] at BG ⊢
    clear hbad h hf hst
    go_enter Try.func15, Try.ntmps15
    go_wp2_with fail
    refine BG.out.mono ?_
    rintro e w1 ⟨⟨u1, rfl, o1⟩, k1, g1⟩
    go_wp2_with fail
    go_ret2
    exact ⟨⟨_, rfl, own_nil _ _⟩, k1, grown_trans hg0 g1⟩
  · rw [if_neg hbad] at BG ⊢
    have hdl := due_len ({ p with now := now } : Pol)
    have hq : StR ({ p with now := now } : Pol).due.1 := due_st (p := { p with now := now }) hst
    have hdf : ({ p with now := now } : Pol).due.1.fok := fok_of (p := { p with now := now }) hf (.inl (due_fa _))
    clear hbad h hf hst
    generalize ({ p with now := now } : Pol).due = r at *
    obtain ⟨q, l1⟩ := r
    simp only at BG hdl hq hdf ⊢
    have hel := mv_len k m q
    by_cases h0 : k = 0
    · subst h0
      go_enter Try.func15, Try.ntmps15
      go_wp2_with fail
      refine BG.out.mono ?_
      rintro e w1 ⟨⟨u1, rfl, o1⟩, k1, g1⟩
      simp only at k1 o1
      have OY : w1.heap[w.heap.size]? = some (.cells #[.int .i64 0, .int .i64 by_, .bool m] 33 (0, 0)) := (g1.block _ (by simp) (by simp; omega)).trans OX.out
      have f0 : w1.cell? ⟨w.heap.size, 0, none⟩ = some (.int .i64 0) := (cell_of_row _ _ _ _ _ _ OY).trans rfl
      have f2 : w1.cell? ⟨w.heap.size, 2, none⟩ = some (.bool m) := (cell_of_row _ _ _ _ _ _ OY).trans rfl
      have hg1 := grown_trans hg0 g1
      have lt1 := k1.lt
      clear OY
      go_wp2_with fail
      refine (rstart31 g c q _ m k1).mono ?_
      rintro e w2 ⟨⟨u2, rfl, o2⟩, k2, g2⟩
      have o1' : Own w.heap.size w2 u1 l1 := (o1.kept g2 (fun x e => by cases e; exact Nat.lt_of_lt_of_le lw hsz0)).weak hsz0
      have hsrc := o2.ints.src
      have hg2 := grown_trans hg1 g2
      clear k1 o1 o2 g2 g1 hg1 BG OX f0 f2 hg0
      generalize mv 0 m q = r2 at *
      obtain ⟨q3, l2⟩ := r2
      simp only at hel k2 hsrc ⊢
      go_wp2_with (at_builtin; refine wpList_app elI rfl _ _ rfl w.heap.size _ _ _ rfl o1' _ _ _ rfl hsrc (by simp [maxLen]; omega) (by omega) hg2.size ?_)
      intro v3 w3 ho3 hg3 hn3
      have o3 : Own w.heap.size w3 v3 (l1 ++ l2) := by unfold Own; simpa using ho3
      have k3 := k2.keep hg3 (fun e => by have := (World.ownsRow.lt o1' _ e.symm).1; omega)
      have g3 : w.grownBy w3 (some g) := ⟨hg3.os.trans hg2.os, hg3.tape.trans hg2.tape, hg3.output.trans hg2.output, Nat.le_trans hg2.size hg3.size, fun k hk hne => (hg3.block k (Nat.lt_of_lt_of_le hk hg2.size) (fun e => by have := (World.ownsRow.lt o1' _ e.symm).1; omega)).trans (hg2.block k hk hne)⟩
      go_wp2_with fail
      go_ret2
      exact ⟨⟨_, rfl, o3⟩, k3, g3⟩
    by_cases h1 : k = 1
    · subst h1
      clear h0
      go_enter Try.func15, Try.ntmps15
      go_wp2_with fail
      refine BG.out.mono ?_
      rintro e w1 ⟨⟨u1, rfl, o1⟩, k1, g1⟩
      simp only at k1 o1
      have OY : w1.heap[w.heap.size]? = some (.cells #[.int .i64 1, .int .i64 by_, .bool m] 33 (0, 0)) := (g1.block _ (by simp) (by simp; omega)).trans OX.out
      have f0 : w1.cell? ⟨w.heap.size, 0, none⟩ = some (.int .i64 1) := (cell_of_row _ _ _ _ _ _ OY).trans rfl
      have f2 : w1.cell? ⟨w.heap.size, 2, none⟩ = some (.bool m) := (cell_of_row _ _ _ _ _ _ OY).trans rfl
      have hg1 := grown_trans hg0 g1
      have lt1 := k1.lt
      clear OY
      go_wp2_with fail
      refine (rpacket32 g c q _ m k1).mono ?_
      rintro e w2 ⟨⟨u2, rfl, o2⟩, k2, g2⟩
      have o1' : Own w.heap.size w2 u1 l1 := (o1.kept g2 (fun x e => by cases e; exact Nat.lt_of_lt_of_le lw hsz0)).weak hsz0
      have hsrc := o2.ints.src
      have hg2 := grown_trans hg1 g2
      clear k1 o1 o2 g2 g1 hg1 BG OX f0 f2 hg0
      generalize mv 1 m q = r2 at *
      obtain ⟨q3, l2⟩ := r2
      simp only at hel k2 hsrc ⊢
      go_wp2_with (at_builtin; refine wpList_app elI rfl _ _ rfl w.heap.size _ _ _ rfl o1' _ _ _ rfl hsrc (by simp [maxLen]; omega) (by omega) hg2.size ?_)
      intro v3 w3 ho3 hg3 hn3
      have o3 : Own w.heap.size w3 v3 (l1 ++ l2) := by unfold Own; simpa using ho3
      have k3 := k2.keep hg3 (fun e => by have := (World.ownsRow.lt o1' _ e.symm).1; omega)
      have g3 : w.grownBy w3 (some g) := ⟨hg3.os.trans hg2.os, hg3.tape.trans hg2.tape, hg3.output.trans hg2.output, Nat.le_trans hg2.size hg3.size, fun k hk hne => (hg3.block k (Nat.lt_of_lt_of_le hk hg2.size) (fun e => by have := (World.ownsRow.lt o1' _ e.symm).1; omega)).trans (hg2.block k hk hne)⟩
      go_wp2_with fail
      go_ret2
      exact ⟨⟨_, rfl, o3⟩, k3, g3⟩
    by_cases h2 : k = 2
    · subst h2
      clear h0 h1
      go_enter Try.func15, Try.ntmps15
      go_wp2_with fail
      refine BG.out.mono ?_
      rintro e w1 ⟨⟨u1, rfl, o1⟩, k1, g1⟩
      simp only at k1 o1
      have OY : w1.heap[w.heap.size]? = some (.cells #[.int .i64 2, .int .i64 by_, .bool m] 33 (0, 0)) := (g1.block _ (by simp) (by simp; omega)).trans OX.out
      have f0 : w1.cell? ⟨w.heap.size, 0, none⟩ = some (.int .i64 2) := (cell_of_row _ _ _ _ _ _ OY).trans rfl
      have f2 : w1.cell? ⟨w.heap.size, 2, none⟩ = some (.bool m) := (cell_of_row _ _ _ _ _ _ OY).trans rfl
      have hg1 := grown_trans hg0 g1
      have lt1 := k1.lt
      clear OY
      go_wp2_with fail
      refine (rup33 g c q _ m k1).mono ?_
      rintro e w2 ⟨⟨u2, rfl, o2⟩, k2, g2⟩
      have o1' : Own w.heap.size w2 u1 l1 := (o1.kept g2 (fun x e => by cases e; exact Nat.lt_of_lt_of_le lw hsz0)).weak hsz0
      have hsrc := o2.ints.src
      have hg2 := grown_trans hg1 g2
      clear k1 o1 o2 g2 g1 hg1 BG OX f0 f2 hg0
      generalize mv 2 m q = r2 at *
      obtain ⟨q3, l2⟩ := r2
      simp only at hel k2 hsrc ⊢
      go_wp2_with (at_builtin; refine wpList_app elI rfl _ _ rfl w.heap.size _ _ _ rfl o1' _ _ _ rfl hsrc (by simp [maxLen]; omega) (by omega) hg2.size ?_)
      intro v3 w3 ho3 hg3 hn3
      have o3 : Own w.heap.size w3 v3 (l1 ++ l2) := by unfold Own; simpa using ho3
      have k3 := k2.keep hg3 (fun e => by have := (World.ownsRow.lt o1' _ e.symm).1; omega)
      have g3 : w.grownBy w3 (some g) := ⟨hg3.os.trans hg2.os, hg3.tape.trans hg2.tape, hg3.output.trans hg2.output, Nat.le_trans hg2.size hg3.size, fun k hk hne => (hg3.block k (Nat.lt_of_lt_of_le hk hg2.size) (fun e => by have := (World.ownsRow.lt o1' _ e.symm).1; omega)).trans (hg2.block k hk hne)⟩
      go_wp2_with fail
      go_ret2
      exact ⟨⟨_, rfl, o3⟩, k3, g3⟩
    by_cases h3 : k = 3
    · subst h3
      clear h0 h1 h2
      go_enter Try.func15, Try.ntmps15
      go_wp2_with fail
      refine BG.out.mono ?_
      rintro e w1 ⟨⟨u1, rfl, o1⟩, k1, g1⟩
      simp only at k1 o1
      have OY : w1.heap[w.heap.size]? = some (.cells #[.int .i64 3, .int .i64 by_, .bool m] 33 (0, 0)) := (g1.block _ (by simp) (by simp; omega)).trans OX.out
      have f0 : w1.cell? ⟨w.heap.size, 0, none⟩ = some (.int .i64 3) := (cell_of_row _ _ _ _ _ _ OY).trans rfl
      have f2 : w1.cell? ⟨w.heap.size, 2, none⟩ = some (.bool m) := (cell_of_row _ _ _ _ _ _ OY).trans rfl
      have hg1 := grown_trans hg0 g1
      have lt1 := k1.lt
      clear OY
      go_wp2_with fail
      refine (rdown34 g c q _ m hq k1).mono ?_
      rintro e w2 ⟨⟨u2, rfl, o2⟩, k2, g2⟩
      have o1' : Own w.heap.size w2 u1 l1 := (o1.kept g2 (fun x e => by cases e; exact Nat.lt_of_lt_of_le lw hsz0)).weak hsz0
      have hsrc := o2.ints.src
      have hg2 := grown_trans hg1 g2
      clear k1 o1 o2 g2 g1 hg1 BG OX f0 f2 hg0
      generalize mv 3 m q = r2 at *
      obtain ⟨q3, l2⟩ := r2
      simp only at hel k2 hsrc ⊢
      go_wp2_with (at_builtin; refine wpList_app elI rfl _ _ rfl w.heap.size _ _ _ rfl o1' _ _ _ rfl hsrc (by simp [maxLen]; omega) (by omega) hg2.size ?_)
      intro v3 w3 ho3 hg3 hn3
      have o3 : Own w.heap.size w3 v3 (l1 ++ l2) := by unfold Own; simpa using ho3
      have k3 := k2.keep hg3 (fun e => by have := (World.ownsRow.lt o1' _ e.symm).1; omega)
      have g3 : w.grownBy w3 (some g) := ⟨hg3.os.trans hg2.os, hg3.tape.trans hg2.tape, hg3.output.trans hg2.output, Nat.le_trans hg2.size hg3.size, fun k hk hne => (hg3.block k (Nat.lt_of_lt_of_le hk hg2.size) (fun e => by have := (World.ownsRow.lt o1' _ e.symm).1; omega)).trans (hg2.block k hk hne)⟩
      go_wp2_with fail
      go_ret2
      exact ⟨⟨_, rfl, o3⟩, k3, g3⟩
    by_cases h4 : k = 4
    · subst h4
      clear h0 h1 h2 h3
      go_enter Try.func15, Try.ntmps15
      go_wp2_with fail
      refine BG.out.mono ?_
      rintro e w1 ⟨⟨u1, rfl, o1⟩, k1, g1⟩
      simp only at k1 o1
      have OY : w1.heap[w.heap.size]? = some (.cells #[.int .i64 4, .int .i64 by_, .bool m] 33 (0, 0)) := (g1.block _ (by simp) (by simp; omega)).trans OX.out
      have f0 : w1.cell? ⟨w.heap.size, 0, none⟩ = some (.int .i64 4) := (cell_of_row _ _ _ _ _ _ OY).trans rfl
      have f2 : w1.cell? ⟨w.heap.size, 2, none⟩ = some (.bool m) := (cell_of_row _ _ _ _ _ _ OY).trans rfl
      have hg1 := grown_trans hg0 g1
      have lt1 := k1.lt
      clear OY
      go_wp2_with fail
      refine (rlup35 g c q _ m k1).mono ?_
      rintro e w2 ⟨⟨u2, rfl, o2⟩, k2, g2⟩
      have o1' : Own w.heap.size w2 u1 l1 := (o1.kept g2 (fun x e => by cases e; exact Nat.lt_of_lt_of_le lw hsz0)).weak hsz0
      have hsrc := o2.ints.src
      have hg2 := grown_trans hg1 g2
      clear k1 o1 o2 g2 g1 hg1 BG OX f0 f2 hg0
      generalize mv 4 m q = r2 at *
      obtain ⟨q3, l2⟩ := r2
      simp only at hel k2 hsrc ⊢
      go_wp2_with (at_builtin; refine wpList_app elI rfl _ _ rfl w.heap.size _ _ _ rfl o1' _ _ _ rfl hsrc (by simp [maxLen]; omega) (by omega) hg2.size ?_)
      intro v3 w3 ho3 hg3 hn3
      have o3 : Own w.heap.size w3 v3 (l1 ++ l2) := by unfold Own; simpa using ho3
      have k3 := k2.keep hg3 (fun e => by have := (World.ownsRow.lt o1' _ e.symm).1; omega)
      have g3 : w.grownBy w3 (some g) := ⟨hg3.os.trans hg2.os, hg3.tape.trans hg2.tape, hg3.output.trans hg2.output, Nat.le_trans hg2.size hg3.size, fun k hk hne => (hg3.block k (Nat.lt_of_lt_of_le hk hg2.size) (fun e => by have := (World.ownsRow.lt o1' _ e.symm).1; omega)).trans (hg2.block k hk hne)⟩
      go_wp2_with fail
      go_ret2
      exact ⟨⟨_, rfl, o3⟩, k3, g3⟩
    by_cases h5 : k = 5
    · subst h5
      clear h0 h1 h2 h3 h4
      go_enter Try.func15, Try.ntmps15
      go_wp2_with fail
      refine BG.out.mono ?_
      rintro e w1 ⟨⟨u1, rfl, o1⟩, k1, g1⟩
      simp only at k1 o1
      have OY : w1.heap[w.heap.size]? = some (.cells #[.int .i64 5, .int .i64 by_, .bool m] 33 (0, 0)) := (g1.block _ (by simp) (by simp; omega)).trans OX.out
      have f0 : w1.cell? ⟨w.heap.size, 0, none⟩ = some (.int .i64 5) := (cell_of_row _ _ _ _ _ _ OY).trans rfl
      have f2 : w1.cell? ⟨w.heap.size, 2, none⟩ = some (.bool m) := (cell_of_row _ _ _ _ _ _ OY).trans rfl
      have hg1 := grown_trans hg0 g1
      have lt1 := k1.lt
      clear OY
      go_wp2_with fail
      refine (rldown36 g c q _ m hdf k1).mono ?_
      rintro e w2 ⟨⟨u2, rfl, o2⟩, k2, g2⟩
      have o1' : Own w.heap.size w2 u1 l1 := (o1.kept g2 (fun x e => by cases e; exact Nat.lt_of_lt_of_le lw hsz0)).weak hsz0
      have hsrc := o2.ints.src
      have hg2 := grown_trans hg1 g2
      clear k1 o1 o2 g2 g1 hg1 BG OX f0 f2 hg0
      generalize mv 5 m q = r2 at *
      obtain ⟨q3, l2⟩ := r2
      simp only at hel k2 hsrc ⊢
      go_wp2_with (at_builtin; refine wpList_app elI rfl _ _ rfl w.heap.size _ _ _ rfl o1' _ _ _ rfl hsrc (by simp [maxLen]; omega) (by omega) hg2.size ?_)
      intro v3 w3 ho3 hg3 hn3
      have o3 : Own w.heap.size w3 v3 (l1 ++ l2) := by unfold Own; simpa using ho3
      have k3 := k2.keep hg3 (fun e => by have := (World.ownsRow.lt o1' _ e.symm).1; omega)
      have g3 : w.grownBy w3 (some g) := ⟨hg3.os.trans hg2.os, hg3.tape.trans hg2.tape, hg3.output.trans hg2.output, Nat.le_trans hg2.size hg3.size, fun k hk hne => (hg3.block k (Nat.lt_of_lt_of_le hk hg2.size) (fun e => by have := (World.ownsRow.lt o1' _ e.symm).1; omega)).trans (hg2.block k hk hne)⟩
      go_wp2_with fail
      go_ret2
      exact ⟨⟨_, rfl, o3⟩, k3, g3⟩
    have M := Lib.hid (And.intro h0 (And.intro h1 (And.intro h2 (And.intro h3 (And.intro h4 h5)))))
    have e0 : (k == 0) = false := beq_eq_false_iff_ne.2 h0
    have e1 : (k == 1) = false := beq_eq_false_iff_ne.2 h1
    have e2 : (k == 2) = false := beq_eq_false_iff_ne.2 h2
    have e3 : (k == 3) = false := beq_eq_false_iff_ne.2 h3
    have e4 : (k == 4) = false := beq_eq_false_iff_ne.2 h4
    have e5 : (k == 5) = false := beq_eq_false_iff_ne.2 h5
    clear h0 h1 h2 h3 h4 h5
    go_enter Try.func15, Try.ntmps15
    go_wp2_with fail
    refine BG.out.mono ?_
    rintro e w1 ⟨⟨u1, rfl, o1⟩, k1, g1⟩
    simp only at k1 o1
    have OY : w1.heap[w.heap.size]? = some (.cells #[.int .i64 k, .int .i64 by_, .bool m] 33 (0, 0)) := (g1.block _ (by simp) (by simp; omega)).trans OX.out
    have f0 : w1.cell? ⟨w.heap.size, 0, none⟩ = some (.int .i64 k) := (cell_of_row _ _ _ _ _ _ OY).trans rfl
    have f2 : w1.cell? ⟨w.heap.size, 2, none⟩ = some (.bool m) := (cell_of_row _ _ _ _ _ _ OY).trans rfl
    have hg1 := grown_trans hg0 g1
    have lt1 := k1.lt
    clear OY
    have hm0 : mv k m q = (q, []) := by unfold mv; simp [M.out.1, M.out.2.1, M.out.2.2.1, M.out.2.2.2.1, M.out.2.2.2.2.1, M.out.2.2.2.2.2]
    obtain ⟨w2, hw2⟩ : ∃ x : World, x = w1 := ⟨_, rfl⟩
    have k2 : RefAt w2 g c (mv k m q).1 := by rw [hm0, hw2]; exact k1
    have o2 : Own w1.heap.size w2 (.slice none 0 0) (mv k m q).2 := by rw [hm0]; exact own_nil _ _
    have g2 : w1.grownBy w2 (some g) := by rw [hw2]; exact grownBy_refl _ _
    clear hm0
    subst hw2
    go_upto_region 18 with fail
    generalize hnil : Value.slice none 0 0 = u2 at *
    clear hnil
    have o1' : Own w.heap.size w2 u1 l1 := (o1.kept g2 (fun x e => by cases e; exact Nat.lt_of_lt_of_le lw hsz0)).weak hsz0
    have hsrc := o2.ints.src
    have hg2 := grown_trans hg1 g2
    clear k1 o1 o2 g2 g1 hg1 BG OX f0 f2 hg0
    generalize mv k m q = r2 at *
    obtain ⟨q3, l2⟩ := r2
    simp only at hel k2 hsrc ⊢
    go_wp2_with (at_builtin; refine wpList_app elI rfl _ _ rfl w.heap.size _ _ _ rfl o1' _ _ _ rfl hsrc (by simp [maxLen]; omega) (by omega) hg2.size ?_)
    intro v3 w3 ho3 hg3 hn3
    have o3 : Own w.heap.size w3 v3 (l1 ++ l2) := by unfold Own; simpa using ho3
    have k3 := k2.keep hg3 (fun e => by have := (World.ownsRow.lt o1' _ e.symm).1; omega)
    have g3 : w.grownBy w3 (some g) := ⟨hg3.os.trans hg2.os, hg3.tape.trans hg2.tape, hg3.output.trans hg2.output, Nat.le_trans hg2.size hg3.size, fun k hk hne => (hg3.block k (Nat.lt_of_lt_of_le hk hg2.size) (fun e => by have := (World.ownsRow.lt o1' _ e.symm).1; omega)).trans (hg2.block k hk hne)⟩
    go_wp2_with fail
    go_ret2
    exact ⟨⟨_, rfl, o3⟩, k3, g3⟩
end Go.Proofs.Ytibdaonhldlmbaa.F
