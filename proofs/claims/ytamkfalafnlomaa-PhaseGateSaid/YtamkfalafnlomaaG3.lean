import Derived.Test.YtamkfalafnlomaaG2
set_option linter.unusedVariables false
set_option linter.unusedSimpArgs false
namespace Go.Proofs.Ytamkfalafnlomaa.F
open Go.RowKit Go.Proofs.Ytamkfalafnlomaa.K
/-- A call of both where the document's track is another one: whatever it answers. -/
structure Stepped2 (g r : Nat) (T : Tk) (o : O) (w : World) (e : Ending) (w' : World) : Prop where
  ret : ∃ b, e = .returned (.bool b)
  at1 : TkAt w' 59 g (T.step o)
  two : Two w w' g r
theorem Stepped2.mk' {g r : Nat} {T : Tk} {o : O} {w w' : World} {e : Ending} {T' : Tk} (b : Bool) (hT : T' = T.step o) (he : e = .returned (.bool b)) (h1 : TkAt w' 59 g T') (h2 : Two w w' g r) : Stepped2 g r T o w e w' := ⟨⟨b, he⟩, by rw [← hT]; exact h1, h2⟩
set_option maxHeartbeats 4000000 in
theorem step23b (g r : Nat) (T R : Tk) (o : O) (N : Int) (w : World) (h : TkAt w 59 g T) (h' : TkAt w 43 r R) (hne : g ≠ r) (hT : T.ok N) (hR : R.ok N) (hT' : (T.step o).ok (N + 1)) (hR' : (R.step o).ok (N + 1)) (hN : N ≤ 999999) :
  Calls Try.prog 23 #[.pointer (some ⟨g, 0, none⟩), .pointer (some ⟨r, 0, none⟩), o.v] w (Stepped2 g r T o w) := by
  obtain ⟨k, ev, a, b⟩ := o
  simp only [O.v]
  have l1 := h.lt
  have l2 := h'.lt
  have hN' : N ≤ 1000000 := by omega
  have he := fun w => eq41 (T.step ⟨k, ev, a, b⟩) (R.step ⟨k, ev, a, b⟩) (N + 1) hT' hR' (by omega) w
  obtain ⟨T', hT2⟩ : ∃ T', T' = T.step ⟨k, ev, a, b⟩ := ⟨_, rfl⟩
  obtain ⟨R', hR2⟩ : ∃ R', R' = R.step ⟨k, ev, a, b⟩ := ⟨_, rfl⟩
  rw [← hT2, ← hR2] at he
  have HR2 := Lib.hid hR2
  clear hR2
  simp only [Tk.times] at he
  have HT2 := Lib.hid hT2
  clear hT2
  have HG := Lib.hid h
  have HR := Lib.hid h'
  have Hne := Lib.hid hne
  clear h h' hne
  go_enter Try.func23, Try.ntmps23
  go_upto_block 0 with fail
  go_cut [] from 9 to 48 (fun wx => TkAt wx 59 g T' ∧ TkAt wx 43 r R' ∧ Two w wx g r)
  case first =>
    have hb0 : Below w.heap.size w (w.alloc (.cells #[.int .i64 k, .int .i64 ev, .bool a, .bool b] 32)) := (Below.refl _ w).alloc (Nat.le_refl _) _
    have HG' := Lib.hid (HG.out.below hb0).drew
    have HR' := Lib.hid (HR.out.below hb0).drew
    have HB : Hid ((w.alloc (.cells #[.int .i64 k, .int .i64 ev, .bool a, .bool b] 32)).drew.heap[w.heap.size]? = some (.cells #[.int .i64 k, .int .i64 ev, .bool a, .bool b] 32 (0, 0))) := Lib.hid (heap_alloc_new w _)
    have HT0 := Lib.hid ((Two.refl w g r).below hb0).drew
    clear he
    by_cases k0 : k = 0
    · subst k0
      have D16 := fun w h => do16 g T ev N w h hT hN'
      have D34 := fun w h => do34 r R ev N w h hR hN'
      obtain ⟨⟨T1, c⟩, hac⟩ : ∃ x, x = T.act ev := ⟨_, rfl⟩
      obtain ⟨⟨R1, c'⟩, hac'⟩ : ∃ x, x = R.act ev := ⟨_, rfl⟩
      rw [← hac] at D16
      rw [← hac'] at D34
      have hR1 : R' = R1 := HR2.out.trans ((if_pos rfl : R.step ⟨0, ev, a, b⟩ = (R.act ev).1).trans (by rw [← hac']))
      subst hR1
      clear hac'
      have hT1 : T' = T1 := HT2.out.trans ((if_pos rfl : T.step ⟨0, ev, a, b⟩ = (T.act ev).1).trans (by rw [← hac]))
      subst hT1
      clear hac
      go_wp2_with fail
      go_region_held3 (fun w' => w'.cell? ⟨w.heap.size, 1, none⟩ = some (.int .i64 ev) ∧ w'.cell? ⟨w.heap.size, 2, none⟩ = some (.bool a) ∧ w'.cell? ⟨w.heap.size, 3, none⟩ = some (.bool b)) (first | go_keep | exact ⟨box_cell HB.out 1 (.int .i64 ev) rfl, box_cell HB.out 2 (.bool a) rfl, box_cell HB.out 3 (.bool b) rfl⟩ | exact ⟨box_cell B1 1 (.int .i64 ev) rfl, box_cell B1 2 (.bool a) rfl, box_cell B1 3 (.bool b) rfl⟩ | exact ⟨box_cell B2 1 (.int .i64 ev) rfl, box_cell B2 2 (.bool a) rfl, box_cell B2 3 (.bool b) rfl⟩) ((first | (go_at_call 16; first | (refine (D16 _ HG'.out).mono ?_; rintro E1 w1 ⟨rfl, h1, hg1⟩; have B1 := box_at HB.out hg1 l1) | (refine (D16 _ (HG'.out.grown hg2 (by simpa using Hne.out))).mono ?_; rintro E1 w1 ⟨rfl, h1, hg1⟩; have h2' := h2.grown hg1 (by simpa using Hne.out.symm); have ht := (HT0.out.right hg2).left hg1; have B1 := box_at B2 hg1 l1)) | (go_at_call 34; first | (refine (D34 _ HR'.out).mono ?_; rintro E2 w2 ⟨rfl, h2, hg2⟩; have B2 := box_at HB.out hg2 l2) | (refine (D34 _ (HR'.out.grown hg1 (by simpa using Hne.out.symm))).mono ?_; rintro E2 w2 ⟨rfl, h2, hg2⟩; have h1' := h1.grown hg2 (by simpa using Hne.out); have ht := (HT0.out.left hg1).right hg2; have B2 := box_at B1 hg2 l2))))
      all_goals go_wp2_with fail
      all_goals first | (go_meet; first | exact ⟨h1', h2, ht⟩ | exact ⟨h1, h2', ht⟩) | (go_ret; first | exact Stepped2.mk' _ HT2.out rfl h1' ht | exact Stepped2.mk' _ HT2.out rfl h1 ht)
    · by_cases k1 : k = 1
      · subst k1
        have D17 := fun w h => open17 g T a b N w h hT hN'
        have D35 := fun w h => open35 r R a b N w h hR hN
        obtain ⟨⟨T1, c⟩, hac⟩ : ∃ x, x = T.opened a b := ⟨_, rfl⟩
        obtain ⟨⟨R1, c'⟩, hac'⟩ : ∃ x, x = R.opened a b := ⟨_, rfl⟩
        rw [← hac] at D17
        rw [← hac'] at D35
        have hR1 : R' = R1 := HR2.out.trans ((show R.step ⟨1, ev, a, b⟩ = (R.opened a b).1 from rfl).trans (by rw [← hac']))
        subst hR1
        clear hac'
        have hT1 : T' = T1 := HT2.out.trans ((show T.step ⟨1, ev, a, b⟩ = (T.opened a b).1 from rfl).trans (by rw [← hac]))
        subst hT1
        clear hac
        go_wp2_with fail
        go_region_held3 (fun w' => w'.cell? ⟨w.heap.size, 1, none⟩ = some (.int .i64 ev) ∧ w'.cell? ⟨w.heap.size, 2, none⟩ = some (.bool a) ∧ w'.cell? ⟨w.heap.size, 3, none⟩ = some (.bool b)) (first | go_keep | exact ⟨box_cell HB.out 1 (.int .i64 ev) rfl, box_cell HB.out 2 (.bool a) rfl, box_cell HB.out 3 (.bool b) rfl⟩ | exact ⟨box_cell B1 1 (.int .i64 ev) rfl, box_cell B1 2 (.bool a) rfl, box_cell B1 3 (.bool b) rfl⟩ | exact ⟨box_cell B2 1 (.int .i64 ev) rfl, box_cell B2 2 (.bool a) rfl, box_cell B2 3 (.bool b) rfl⟩) ((first | (go_at_call 17; first | (refine (D17 _ HG'.out).mono ?_; rintro E1 w1 ⟨rfl, h1, hg1⟩; have B1 := box_at HB.out hg1 l1) | (refine (D17 _ (HG'.out.grown hg2 (by simpa using Hne.out))).mono ?_; rintro E1 w1 ⟨rfl, h1, hg1⟩; have h2' := h2.grown hg1 (by simpa using Hne.out.symm); have ht := (HT0.out.right hg2).left hg1; have B1 := box_at B2 hg1 l1)) | (go_at_call 35; first | (refine (D35 _ HR'.out).mono ?_; rintro E2 w2 ⟨rfl, h2, hg2⟩; have B2 := box_at HB.out hg2 l2) | (refine (D35 _ (HR'.out.grown hg1 (by simpa using Hne.out.symm))).mono ?_; rintro E2 w2 ⟨rfl, h2, hg2⟩; have h1' := h1.grown hg2 (by simpa using Hne.out); have ht := (HT0.out.left hg1).right hg2; have B2 := box_at B1 hg2 l2))))
        all_goals go_wp2_with fail
        all_goals first | (go_meet; first | exact ⟨h1', h2, ht⟩ | exact ⟨h1, h2', ht⟩) | (go_ret; first | exact Stepped2.mk' _ HT2.out rfl h1' ht | exact Stepped2.mk' _ HT2.out rfl h1 ht)
      · have hT1 : T' = T := HT2.out.trans ((if_neg k0).trans (if_neg k1))
        subst hT1
        have hR1 : R' = R := HR2.out.trans ((if_neg k0).trans (if_neg k1))
        subst hR1
        have q0 : (k == 0) = false := by simpa using k0
        have q1 : (k == 1) = false := by simpa using k1
        have c0 := HR'.out.c0
        clear k0 k1
        go_wp2_with fail
        go_region_held3 (fun w' => w'.cell? ⟨r, 0, none⟩ = some (.int .i64 R'.ph) ∧ w'.cell? ⟨w.heap.size, 1, none⟩ = some (.int .i64 ev)) (first | go_keep | exact ⟨c0, box_cell HB.out 1 (.int .i64 ev) rfl⟩) ((first | (go_at_call 18; refine (passes18 g T' ev _ HG'.out).mono ?_; rintro E1 w1 ⟨rfl, rfl⟩) | (go_at_call 12; refine (pass12 R'.ph ev _).mono ?_; rintro E2 w2 ⟨rfl, rfl⟩)))
        all_goals go_wp2_with fail
        all_goals first | (go_meet; exact ⟨HG'.out, HR'.out, HT0.out⟩) | (go_ret; exact Stepped2.mk' _ HT2.out rfl HG'.out HT0.out)
  case rest =>
    obtain ⟨hg, hr, ht⟩ := hcut
    have HT3 := Lib.hid (fun w hg => times26 g T' w hg)
    simp only [Tk.times] at HT3
    have HG := Lib.hid hg
    have HR := Lib.hid hr
    have HW := Lib.hid ht
    clear hg hr ht
    go_wp2_with (go_at_call 25; refine (proved25 g T' _ HG.out).mono ?_; rintro E1 w1 ⟨rfl, n, rfl⟩)
    have HGn : Hid (TkAt (wc.drewN n) 59 g T') := Lib.hid ⟨HG.out.blk⟩
    have HRn : Hid (TkAt (wc.drewN n) 43 r R') := Lib.hid ⟨HR.out.blk⟩
    have HWn := Lib.hid (HW.out.drewN n)
    clear HG HR HW
    generalize wc.drewN n = V at *
    have HG1 : Hid (TkAt V.drew 59 g T') := Lib.hid ⟨HGn.out.blk⟩
    have hr1 : Hid (TkAt V.drew 43 r R') := Lib.hid ⟨HRn.out.blk⟩
    have HW1 := Lib.hid HWn.out.drew
    have d0 := hr1.out.c0
    have e0 := HRn.out.c0
    have d3 := hr1.out.c3
    have e3 := HRn.out.c3
    have d4 := hr1.out.c4
    have e4 := HRn.out.c4
    have d5 := hr1.out.c5
    have e5 := HRn.out.c5
    have d6 := hr1.out.c6
    have e6 := HRn.out.c6
    have d7 := hr1.out.c7
    have e7 := HRn.out.c7
    have d8 := hr1.out.c8
    have e8 := HRn.out.c8
    have d9 := hr1.out.c9
    have e9 := HRn.out.c9
    cases hb1 : (T'.ph == R'.ph)
    · go_quiet ((go_at_call 15; refine Calls.quiet_of_same (at15 g T' _ ?_); exact ⟨HGn.out.blk⟩))
      go_wp2_with fail
      go_ret
      exact Stepped2.mk' _ HT2.out rfl ⟨HGn.out.blk⟩ ⟨HWn.out.os, HWn.out.tape, HWn.out.output, HWn.out.size, HWn.out.block⟩
    · cases hb2' : (T'.ia == R'.ia)
      · go_quiet ((go_at_call 15; refine Calls.quiet_of_same (at15 g T' _ ?_); exact ⟨HGn.out.blk⟩))
        go_wp2_with fail
        go_ret
        exact Stepped2.mk' _ HT2.out rfl ⟨HGn.out.blk⟩ ⟨HWn.out.os, HWn.out.tape, HWn.out.output, HWn.out.size, HWn.out.block⟩
      · cases hb3 : (T'.ib == R'.ib)
        · go_quiet ((go_at_call 15; refine Calls.quiet_of_same (at15 g T' _ ?_); exact ⟨HGn.out.blk⟩))
          go_wp2_with fail
          go_ret
          exact Stepped2.mk' _ HT2.out rfl ⟨HGn.out.blk⟩ ⟨HWn.out.os, HWn.out.tape, HWn.out.output, HWn.out.size, HWn.out.block⟩
        · go_region_held3 (fun w' => w'.cell? ⟨r, 0, none⟩ = some (.int .i64 R'.ph) ∧ w'.cell? ⟨r, 3, none⟩ = some (.bool R'.ia) ∧ w'.cell? ⟨r, 4, none⟩ = some (.bool R'.ib) ∧ w'.cell? ⟨r, 5, none⟩ = some (.int .i64 R'.t0) ∧ w'.cell? ⟨r, 6, none⟩ = some (.int .i64 R'.t1) ∧ w'.cell? ⟨r, 7, none⟩ = some (.int .i64 R'.t2) ∧ w'.cell? ⟨r, 8, none⟩ = some (.int .i64 R'.t3) ∧ w'.cell? ⟨r, 9, none⟩ = some (.int .i64 R'.t4)) (first | exact ⟨d0, d3, d4, d5, d6, d7, d8, d9⟩ | exact ⟨hr2.c0, hr2.c3, hr2.c4, hr2.c5, hr2.c6, hr2.c7, hr2.c8, hr2.c9⟩) ((first | (go_at_call 15; refine (at15 g T' _ HG1.out).mono ?_; rintro E1 w1 ⟨rfl, rfl⟩) | (go_at_call 26; refine (HT3.out _ HG1.out).mono ?_; rintro E2 w2 ⟨rfl, hb2⟩; have hr2 := hr1.out.below hb2)))
          all_goals
            go_wp2_with fail
            go_ret
            first | exact Stepped2.mk' _ HT2.out rfl (HG1.out.below hb2) (HW1.out.below hb2) | exact Stepped2.mk' _ HT2.out rfl HG1.out HW1.out
end Go.Proofs.Ytamkfalafnlomaa.F
