import Derived.Test.YtamkfalafnlomaaE6
import Derived.Deep.RegionWith
import Derived.Deep.RegionHeld3
import Derived.Deep.CutBlock
import Derived.Deep.Cut
import Derived.Deep.CutRange
set_option linter.unusedVariables false
set_option linter.unusedSimpArgs false
namespace Go.Proofs.Ytamkfalafnlomaa.F
open Go.RowKit Go.Proofs.Ytamkfalafnlomaa.K
/-- Only blocks g and r turned. -/
structure Two (w w' : World) (g r : Nat) : Prop where
  os : w'.os = w.os
  tape : w'.tape = w.tape
  output : w'.output = w.output
  size : w.heap.size ≤ w'.heap.size
  block : ∀ k, k < w.heap.size → k ≠ g → k ≠ r → w'.heap[k]? = w.heap[k]?
theorem Two.refl (w : World) (g r : Nat) : Two w w g r := ⟨rfl, rfl, rfl, Nat.le_refl _, fun _ _ _ _ => rfl⟩
theorem Two.left {w w1 w2 : World} {g r : Nat} (h : Two w w1 g r) (h2 : w1.grownBy w2 (some g)) : Two w w2 g r :=
  ⟨h2.os.trans h.os, h2.tape.trans h.tape, h2.output.trans h.output, Nat.le_trans h.size h2.size, fun k hk h3 h4 => (h2.block k (Nat.lt_of_lt_of_le hk h.size) (fun e => h3 (by cases e; rfl))).trans (h.block k hk h3 h4)⟩
theorem Two.right {w w1 w2 : World} {g r : Nat} (h : Two w w1 g r) (h2 : w1.grownBy w2 (some r)) : Two w w2 g r :=
  ⟨h2.os.trans h.os, h2.tape.trans h.tape, h2.output.trans h.output, Nat.le_trans h.size h2.size, fun k hk h3 h4 => (h2.block k (Nat.lt_of_lt_of_le hk h.size) (fun e => h4 (by cases e; rfl))).trans (h.block k hk h3 h4)⟩
theorem Two.below {w w1 w2 : World} {g r : Nat} (h : Two w w1 g r) (h2 : Below w1.heap.size w1 w2) : Two w w2 g r := h.left ⟨h2.os, h2.tape, h2.output, h2.size, fun k hk _ => h2.block k hk⟩
theorem Two.drew {w w1 : World} {g r : Nat} (h : Two w w1 g r) : Two w w1.drew g r := ⟨h.os, h.tape, h.output, h.size, h.block⟩
theorem Two.drewN {w w1 : World} {g r : Nat} (h : Two w w1 g r) (n : Nat) : Two w (w1.drewN n) g r := ⟨h.os, h.tape, h.output, h.size, h.block⟩
structure O where
  k : Int
  ev : Int
  a : Bool
  b : Bool
def O.v (o : O) : Value := .agg #[.int .i64 o.k, .int .i64 o.ev, .bool o.a, .bool o.b]
def Tk.step (T : Tk) (o : O) : Tk := if o.k = 0 then (T.act o.ev).1 else if o.k = 1 then (T.opened o.a o.b).1 else T
structure Stepped (g r : Nat) (T : Tk) (o : O) (w : World) (e : Ending) (w' : World) : Prop where
  ret : e = .returned (.bool true)
  at1 : TkAt w' 59 g (T.step o)
  at2 : TkAt w' 43 r (T.step o)
  two : Two w w' g r
theorem box_at {w w' : World} {q x : Nat} {cs : Array Value} (h : w.heap[q]? = some (.cells cs 32 (0, 0))) (hg : w.grownBy w' (some x)) (hne : x < q) : w'.heap[q]? = some (.cells cs 32 (0, 0)) :=
  (hg.block q (Array.getElem?_eq_some_iff.1 h).1 (fun e => by cases e; omega)).trans h
theorem box_cell {w : World} {q : Nat} {cs : Array Value} (h : w.heap[q]? = some (.cells cs 32 (0, 0))) (j : Nat) (v : Value) (hv : cs[j]? = some v) : w.cell? ⟨q, j, none⟩ = some v := (cell_of_row _ _ _ _ _ _ h).trans hv
set_option maxHeartbeats 4000000 in
theorem step23 (g r : Nat) (T : Tk) (o : O) (N : Int) (w : World) (h : TkAt w 59 g T) (h' : TkAt w 43 r T) (hne : g ≠ r) (hT : T.ok N) (hT' : (T.step o).ok (N + 1)) (hN : N ≤ 999999) :
  Calls Try.prog 23 #[.pointer (some ⟨g, 0, none⟩), .pointer (some ⟨r, 0, none⟩), o.v] w (Stepped g r T o w) := by
  obtain ⟨k, ev, a, b⟩ := o
  simp only [O.v]
  have l1 := h.lt
  have l2 := h'.lt
  have hN' : N ≤ 1000000 := by omega
  have he := fun w => eq41 (T.step ⟨k, ev, a, b⟩) (T.step ⟨k, ev, a, b⟩) (N + 1) hT' hT' (by omega) w
  rw [sameT_refl] at he
  obtain ⟨T', hT2⟩ : ∃ T', T' = T.step ⟨k, ev, a, b⟩ := ⟨_, rfl⟩
  rw [← hT2] at he
  simp only [Tk.times] at he
  have HT2 := Lib.hid hT2
  clear hT2
  have HG := Lib.hid h
  have HR := Lib.hid h'
  have Hne := Lib.hid hne
  clear h h' hne
  go_enter Try.func23, Try.ntmps23
  go_upto_block 0 with fail
  go_cut [] from 9 to 48 (fun wx => TkAt wx 59 g T' ∧ TkAt wx 43 r T' ∧ Two w wx g r)
  case first =>
    have hb0 : Below w.heap.size w (w.alloc (.cells #[.int .i64 k, .int .i64 ev, .bool a, .bool b] 32)) := (Below.refl _ w).alloc (Nat.le_refl _) _
    have HG' := Lib.hid (HG.out.below hb0).drew
    have HR' := Lib.hid (HR.out.below hb0).drew
    have HB : Hid ((w.alloc (.cells #[.int .i64 k, .int .i64 ev, .bool a, .bool b] 32)).drew.heap[w.heap.size]? = some (.cells #[.int .i64 k, .int .i64 ev, .bool a, .bool b] 32 (0, 0))) := Lib.hid (heap_alloc_new w _)
    have HT0 := Lib.hid ((Two.refl w g r).below hb0).drew
    clear he
    by_cases k0 : k = 0
    · subst k0
      have D16 := fun w h => do16 g T ev N w h hT hN'
      have D34 := fun w h => do34 r T ev N w h hT hN'
      obtain ⟨⟨T1, c⟩, hac⟩ : ∃ x, x = T.act ev := ⟨_, rfl⟩
      rw [← hac] at D16 D34
      have hT1 : T' = T1 := HT2.out.trans ((if_pos rfl : T.step ⟨0, ev, a, b⟩ = (T.act ev).1).trans (by rw [← hac]))
      subst hT1
      clear hac
      go_wp2_with fail
      go_region_held3 (fun w' => w'.cell? ⟨w.heap.size, 1, none⟩ = some (.int .i64 ev) ∧ w'.cell? ⟨w.heap.size, 2, none⟩ = some (.bool a) ∧ w'.cell? ⟨w.heap.size, 3, none⟩ = some (.bool b)) (first | go_keep | exact ⟨box_cell HB.out 1 (.int .i64 ev) rfl, box_cell HB.out 2 (.bool a) rfl, box_cell HB.out 3 (.bool b) rfl⟩ | exact ⟨box_cell B1 1 (.int .i64 ev) rfl, box_cell B1 2 (.bool a) rfl, box_cell B1 3 (.bool b) rfl⟩ | exact ⟨box_cell B2 1 (.int .i64 ev) rfl, box_cell B2 2 (.bool a) rfl, box_cell B2 3 (.bool b) rfl⟩) ((first | (go_at_call 16; first | (refine (D16 _ HG'.out).mono ?_; rintro E1 w1 ⟨rfl, h1, hg1⟩; have B1 := box_at HB.out hg1 l1) | (refine (D16 _ (HG'.out.grown hg2 (by simpa using Hne.out))).mono ?_; rintro E1 w1 ⟨rfl, h1, hg1⟩; have h2' := h2.grown hg1 (by simpa using Hne.out.symm); have ht := (HT0.out.right hg2).left hg1; have B1 := box_at B2 hg1 l1)) | (go_at_call 34; first | (refine (D34 _ HR'.out).mono ?_; rintro E2 w2 ⟨rfl, h2, hg2⟩; have B2 := box_at HB.out hg2 l2) | (refine (D34 _ (HR'.out.grown hg1 (by simpa using Hne.out.symm))).mono ?_; rintro E2 w2 ⟨rfl, h2, hg2⟩; have h1' := h1.grown hg2 (by simpa using Hne.out); have ht := (HT0.out.left hg1).right hg2; have B2 := box_at B1 hg2 l2))))
      all_goals
        go_wp2_with fail
        go_meet
        first | exact ⟨h1', h2, ht⟩ | exact ⟨h1, h2', ht⟩
    · by_cases k1 : k = 1
      · subst k1
        have D17 := fun w h => open17 g T a b N w h hT hN'
        have D35 := fun w h => open35 r T a b N w h hT hN
        obtain ⟨⟨T1, c⟩, hac⟩ : ∃ x, x = T.opened a b := ⟨_, rfl⟩
        rw [← hac] at D17 D35
        have hT1 : T' = T1 := HT2.out.trans ((show T.step ⟨1, ev, a, b⟩ = (T.opened a b).1 from rfl).trans (by rw [← hac]))
        subst hT1
        clear hac
        go_wp2_with fail
        go_region_held3 (fun w' => w'.cell? ⟨w.heap.size, 1, none⟩ = some (.int .i64 ev) ∧ w'.cell? ⟨w.heap.size, 2, none⟩ = some (.bool a) ∧ w'.cell? ⟨w.heap.size, 3, none⟩ = some (.bool b)) (first | go_keep | exact ⟨box_cell HB.out 1 (.int .i64 ev) rfl, box_cell HB.out 2 (.bool a) rfl, box_cell HB.out 3 (.bool b) rfl⟩ | exact ⟨box_cell B1 1 (.int .i64 ev) rfl, box_cell B1 2 (.bool a) rfl, box_cell B1 3 (.bool b) rfl⟩ | exact ⟨box_cell B2 1 (.int .i64 ev) rfl, box_cell B2 2 (.bool a) rfl, box_cell B2 3 (.bool b) rfl⟩) ((first | (go_at_call 17; first | (refine (D17 _ HG'.out).mono ?_; rintro E1 w1 ⟨rfl, h1, hg1⟩; have B1 := box_at HB.out hg1 l1) | (refine (D17 _ (HG'.out.grown hg2 (by simpa using Hne.out))).mono ?_; rintro E1 w1 ⟨rfl, h1, hg1⟩; have h2' := h2.grown hg1 (by simpa using Hne.out.symm); have ht := (HT0.out.right hg2).left hg1; have B1 := box_at B2 hg1 l1)) | (go_at_call 35; first | (refine (D35 _ HR'.out).mono ?_; rintro E2 w2 ⟨rfl, h2, hg2⟩; have B2 := box_at HB.out hg2 l2) | (refine (D35 _ (HR'.out.grown hg1 (by simpa using Hne.out.symm))).mono ?_; rintro E2 w2 ⟨rfl, h2, hg2⟩; have h1' := h1.grown hg2 (by simpa using Hne.out); have ht := (HT0.out.left hg1).right hg2; have B2 := box_at B1 hg2 l2))))
        all_goals
          go_wp2_with fail
          go_meet
          first | exact ⟨h1', h2, ht⟩ | exact ⟨h1, h2', ht⟩
      · have hT1 : T' = T := HT2.out.trans ((if_neg k0).trans (if_neg k1))
        subst hT1
        have q0 : (k == 0) = false := by simpa using k0
        have q1 : (k == 1) = false := by simpa using k1
        have c0 := HR'.out.c0
        clear k0 k1
        go_wp2_with fail
        go_region_held3 (fun w' => w'.cell? ⟨r, 0, none⟩ = some (.int .i64 T'.ph) ∧ w'.cell? ⟨w.heap.size, 1, none⟩ = some (.int .i64 ev)) (first | go_keep | exact ⟨c0, box_cell HB.out 1 (.int .i64 ev) rfl⟩) ((first | (go_at_call 18; refine (passes18 g T' ev _ HG'.out).mono ?_; rintro E1 w1 ⟨rfl, rfl⟩) | (go_at_call 12; refine (pass12 T'.ph ev _).mono ?_; rintro E2 w2 ⟨rfl, rfl⟩)))
        all_goals
          go_wp2_with fail
          go_meet
          exact ⟨HG'.out, HR'.out, HT0.out⟩
  case rest =>
    obtain ⟨hg, hr, ht⟩ := hcut
    have HT3 := Lib.hid (fun w hg => times26 g T' w hg)
    simp only [Tk.times] at HT3
    have HG := Lib.hid hg
    have HR := Lib.hid hr
    have HW := Lib.hid ht
    clear hg hr ht
    go_wp2_with (go_at_call 25; refine (proved25 g T' _ HG.out).mono ?_; rintro E1 w1 ⟨rfl, n, rfl⟩)
    have HG1 : Hid (TkAt (wc.drewN n).drew 59 g T') := Lib.hid ⟨HG.out.blk⟩
    have hr1 : Hid (TkAt (wc.drewN n).drew 43 r T') := Lib.hid ⟨HR.out.blk⟩
    have HW1 := Lib.hid (HW.out.drewN n).drew
    have d0 := hr1.out.c0
    have d3 := hr1.out.c3
    have d4 := hr1.out.c4
    have d5 := hr1.out.c5
    have d6 := hr1.out.c6
    have d7 := hr1.out.c7
    have d8 := hr1.out.c8
    have d9 := hr1.out.c9
    go_region_held3 (fun w' => w'.cell? ⟨r, 0, none⟩ = some (.int .i64 T'.ph) ∧ w'.cell? ⟨r, 3, none⟩ = some (.bool T'.ia) ∧ w'.cell? ⟨r, 4, none⟩ = some (.bool T'.ib) ∧ w'.cell? ⟨r, 5, none⟩ = some (.int .i64 T'.t0) ∧ w'.cell? ⟨r, 6, none⟩ = some (.int .i64 T'.t1) ∧ w'.cell? ⟨r, 7, none⟩ = some (.int .i64 T'.t2) ∧ w'.cell? ⟨r, 8, none⟩ = some (.int .i64 T'.t3) ∧ w'.cell? ⟨r, 9, none⟩ = some (.int .i64 T'.t4)) (first | exact ⟨d0, d3, d4, d5, d6, d7, d8, d9⟩ | exact ⟨hr2.c0, hr2.c3, hr2.c4, hr2.c5, hr2.c6, hr2.c7, hr2.c8, hr2.c9⟩) ((first | (go_at_call 15; refine (at15 g T' _ HG1.out).mono ?_; rintro E1 w1 ⟨rfl, rfl⟩) | (go_at_call 26; refine (HT3.out _ HG1.out).mono ?_; rintro E2 w2 ⟨rfl, hb2⟩; have hr2 := hr1.out.below hb2)))
    all_goals
      go_wp2_with fail
      go_ret
      exact ⟨rfl, by rw [← HT2.out]; exact HG1.out.below hb2, by rw [← HT2.out]; exact hr2, HW1.out.below hb2⟩
end Go.Proofs.Ytamkfalafnlomaa.F
