import Derived.Test.YtcgihilcjijckaaD7
set_option linter.unusedVariables false
set_option linter.unusedSimpArgs false
namespace Go.Proofs.Ytcgihilcjijckaa.F
open Go.RowKit Go.Proofs.Ytcgihilcjijckaa.K
/-- a whole list, to be appended -/
theorem RAt.src {w : World} {g cap : Nat} {A : Option Addr} {l : List On} (h : RAt w g (.slice A l.length cap) l) : SrcR w 2 (.slice A l.length cap) l.length (ons l) := by
  rcases h.row.form with ⟨h1, h2⟩ | ⟨b, cap', cur, h1, -, h3, h4, h5, -⟩
  · obtain rfl := List.eq_nil_of_length_eq_zero h2
    cases h1
    exact SrcR.none0 _ _
  · cases h1
    have := Row.part h.row (fun u hu => ons_one hu) 0 l.length 0 cap (fun _ => by omega) (by omega)
    rwa [Nat.zero_mul, List.drop_zero, List.take_of_length_le (by rw [ons_len]; omega)] at this
def NewR (w : World) (l : List On) (e : Ending) (w' : World) : Prop := ∃ v', e = .returned (.pointer (some ⟨w.heap.size, 0, none⟩)) ∧ RAt w' w.heap.size v' l ∧ Below w.heap.size w w' ∧ ∀ k, v'.ownBlock = some k → w.heap.size ≤ k
theorem copy_fin {w w1 w2 : World} {c : Nat} {v2 : Value} {l : List On} {n : Nat} {xs : List Value} (hc : w.heap.size = c) (hb1 : Below c w w1) (hr1 : w1.heap[c]? = some (.cells #[.slice none 0 0] 41 (0, 0))) (h2 : RowR w1.drew w2 c 29 2 (.slice none 0 0) v2 n xs) (hn : n = l.length) (hx : xs = ons l) : NewR w l (.returned (.pointer (some ⟨c, 0, none⟩))) (w2.setCell ⟨c, 0, none⟩ v2) := by
  subst hn hx hc
  have hlt : w.heap.size < w1.heap.size := (Array.getElem?_eq_some_iff.1 hr1).1
  have hg2 : w2.heap[w.heap.size]? = _ := (h2.grow.block _ hlt (by simp [Value.ownBlock])).trans hr1
  have own : ∀ k, v2.ownBlock = some k → w1.heap.size ≤ k := fun k hk => by
    rcases h2.own k hk with q | q
    · simp [Value.ownBlock] at q
    · exact q
  have hset : w2.grownBy (w2.setCell ⟨w.heap.size, 0, none⟩ v2) (some w.heap.size) := ⟨rfl, rfl, rfl, by simp [World.setCell], fun k _ hk => heap_setCell_other _ _ _ _ (fun e => hk (by simp [e]))⟩
  refine ⟨v2, rfl, ⟨heap_setCell_same _ _ _ _ _ _ hg2, (h2.row.weak (Nat.zero_le _)).kept hset (fun k hk e => by have := own k hk; simp at e; omega), fun e => by have := own _ e; omega⟩, ?_, fun k hk => by have := own k hk; omega⟩
  refine ⟨h2.grow.os.trans hb1.os, h2.grow.tape.trans hb1.tape, h2.grow.output.trans hb1.output, ?_, fun k hk => ?_⟩
  · have h3 : w1.heap.size ≤ w2.heap.size := h2.grow.size
    simp [World.setCell]
    omega
  · rw [heap_setCell_other _ _ _ _ (show k ≠ w.heap.size by omega)]
    exact (h2.grow.block k (show k < w1.heap.size by omega) (by simp [Value.ownBlock])).trans (hb1.block k hk)
variable (g : Nat) (w : World)
set_option maxHeartbeats 4000000 in
theorem rcopy17 (v : Value) (l : List On) (hl : l.length ≤ 64) (h : RAt w g v l) : Calls Try.prog 17 #[.pointer (some ⟨g, 0, none⟩)] w (NewR w l) := by
  have HQ := Lib.hid h
  have c0 := h.c0
  have hlt : g < w.heap.size := (Array.getElem?_eq_some_iff.1 h.blk).1
  obtain ⟨A, cap, rfl, k1, k2, k3⟩ := h.form
  clear h k3
  unfold maxLen at k2
  obtain ⟨w1, hw1⟩ : ∃ w1, w1 = w.alloc (.cells #[.slice none 0 0] 41) := ⟨_, rfl⟩
  have hb1 : Below w.heap.size w w1 := by rw [hw1]; exact (Below.refl _ _).alloc (Nat.le_refl _) _
  have hr1 : w1.heap[w.heap.size]? = some (.cells #[.slice none 0 0] 41 (0, 0)) := by rw [hw1]; exact heap_alloc_new _ _
  have HB1 := Lib.hid hb1
  have HR1 := Lib.hid hr1
  have Q1 := Lib.hid (HQ.out.below hb1)
  have hsrc := Lib.hid (src_drew Q1.out.src)
  have hrow := Lib.hid (row_drew (Row.nil w1 w.heap.size 29 2))
  have hws := Lib.hid hb1.size
  have s1 : 0 + l.length ≤ maxLen := by unfold maxLen; omega
  have s2 : (0 + l.length) * 16 ≤ 140737488355328 := by omega
  clear hb1 hr1
  go_enter Try.func17, Try.ntmps17
  go_upto_region 2 with fail
  rw [← hw1]
  clear hw1 c0
  have c0 := Q1.out.c0
  have c1 : w1.cell? ⟨w.heap.size, 0, none⟩ = some (.slice none 0 0) := (cell_of_row _ _ _ _ _ _ HR1.out).trans rfl
  have f1 : w1.frozen? ⟨w.heap.size, 0, none⟩ = false := frozen_of_row _ _ _ _ _ HR1.out
  generalize hsz : w.heap.size = c at *
  go_region_law ((refine step_row elO (by rfl) _ _ (by rfl) c _ 0 _ (by rfl) hrow.out _ l.length _ (by rfl) hsrc.out s1 s2 hws.out ?_; intro v2 w2 hr2; obtain ⟨A2, cp2, rfl, -, -⟩ := Row.slice hr2.row; have H2 := Lib.hid hr2; have hg2 := Lib.hid (hr2.grow.block c (Array.getElem?_eq_some_iff.1 HR1.out).1 (by simp [Value.ownBlock])); have f2 : w2.frozen? ⟨c, 0, none⟩ = false := frozen_of_row _ _ _ _ _ (hg2.out.trans HR1.out); have e2 : w2.cell? ⟨c, 0, none⟩ = some (.slice none 0 0) := (cell_of_row _ _ _ _ _ _ (hg2.out.trans HR1.out)).trans rfl))
  all_goals go_wp2_with fail
  all_goals go_ret
  all_goals exact copy_fin hsz HB1.out HR1.out (by have := H2.out; rwa [Nat.zero_add, List.nil_append] at this) rfl rfl
/-- all, in order -/
structure AllR (w : World) (l : List On) (e : Ending) (w' : World) : Prop where
  ret : ∃ u, e = .returned u ∧ Row w' w.heap.size 29 2 u l.length (ons l)
  below : Below w.heap.size w w'
theorem ro_below {w w1 wr : World} {g : Nat} {v v1 ov : Value} {l1 : List On} {e : TypeId} {size m : Nat} {xs : List Value} (hb : Below w.heap.size w w1) (hg : w.heap.size ≤ g) (hv : ∀ k, v.ownBlock = some k → w.heap.size ≤ k) (h : RO w1 wr g v v1 l1 e size ov m xs) : Below w.heap.size w wr :=
  ⟨h.q.grow.os.trans hb.os, h.q.grow.tape.trans hb.tape, h.q.grow.output.trans hb.output, Nat.le_trans hb.size h.q.grow.size, fun k hk => (h.q.grow.block k (Nat.lt_of_lt_of_le hk hb.size) (by omega) (fun e => by have := hv k e.symm; omega)).trans (hb.block k hk)⟩
set_option maxHeartbeats 4000000 in
theorem rall18 (v : Value) (l : List On) (hl : l.length ≤ 64) (hu : Uniq l) (h : RAt w g v l) : Calls Try.prog 18 #[.pointer (some ⟨g, 0, none⟩)] w (AllR w (srt l)) := by
  have HQ := Lib.hid h
  have HU := Lib.hid hu
  clear h hu
  go_enter Try.func18, Try.ntmps18
  go_wp2_with fail
  refine (rcopy17 g w v l hl HQ.out).mono ?_
  rintro e w1 ⟨v0, rfl, hq0, hb0, hv0⟩
  have HB0 := Lib.hid hb0
  have HV0 := Lib.hid hv0
  have hlt : w.heap.size < w1.heap.size := (Array.getElem?_eq_some_iff.1 hq0.blk).1
  have R0 : Hid (RO w1 w1 w.heap.size v0 v0 l 29 2 (.slice none 0 0) 0 (ons [])) := Lib.hid ⟨Row.nil _ _ _ _, RS.refl hq0, fun k hk => by simp [Value.ownBlock] at hk⟩
  clear hb0 hv0 hq0
  obtain ⟨c, hc⟩ : ∃ c, c = w.heap.size := ⟨_, rfl⟩
  have HC := Lib.hid hc
  rw [← hc] at R0 hlt ⊢
  clear hc
  go_wp2_with fail
  go_loopg [4, 5] l.length (fun gn ov _ wr => ∃ (l1 : List On) (xs : List On) (v1 : Value), gn = l1.length ∧ l1.length ≤ l.length ∧ xs.length + l1.length ≤ 64 ∧ Hid (xs ++ srt l1 = srt l) ∧ Hid (RO w1 wr c v0 v1 l1 29 2 ov xs.length (ons xs)) ∧ Hid (Uniq l1))
  case atStart => exact ⟨l, [], v0, rfl, Nat.le_refl _, by simpa using hl, Lib.hid rfl, R0, HU⟩
  case round =>
    obtain ⟨l1, xs, v1, rfl, hl1, hx, HX, HR, HU1⟩ := hrel
    clear R0
    have c0 := HR.out.q.q.c0
    obtain ⟨A, cap, hv, k1, k2, k3⟩ := HR.out.q.q.form
    subst hv
    clear k3
    by_cases hn : l1.length = 0
    · obtain rfl := List.eq_nil_of_length_eq_zero hn
      go_wp2_with fail
      go_ret
      have h0 := HX.out
      rw [show srt [] = [] from rfl, List.append_nil] at h0
      exact ⟨⟨_, rfl, by rw [← h0]; exact HR.out.row.weak HB0.out.size⟩, ro_below HB0.out (Nat.le_of_eq HC.out.symm) HV0.out HR.out⟩
    · go_wp2_with fail
      refine (first36 c wr _ l1 HR.out.q.q).mono ?_
      rintro e w2 ⟨k, rfl, hf, hb⟩
      have R2 := Lib.hid (HR.out.below hb)
      clear hb
      rcases first_end hf with ⟨he, rfl⟩ | ⟨j, hj, t, rfl, hs⟩
      · exact absurd (by rw [he]; rfl) hn
      · have hpo := pop_out HU1.out hs
        have HO := Lib.hid (out_erase HU1.out hj)
        have HX2 : Hid ((xs ++ [l1[j]]) ++ srt (out l1[j].id l1) = srt l) := Lib.hid (by rw [← HX.out, hpo, hs]; simp)
        have hle : (out l1[j].id l1).length + 1 = l1.length := srt_pop_len HU1.out hs
        have HU2 : Hid (Uniq (out l1[j].id l1)) := Lib.hid (uniq_out HU1.out _)
        clear hs hpo HX hf HU1 HR c0
        have c0 := R2.out.q.q.c0
        obtain ⟨b, rfl, hbg, d0, d1⟩ := R2.out.q.q.cell hj
        have hj0 : (0 : Int) ≤ (j : Int) := by omega
        have hjl : (j : Int) < (l1.length : Int) := by omega
        obtain ⟨x, hx2⟩ : ∃ x, x = l1[j] := ⟨_, rfl⟩
        rw [← hx2] at d0 d1 hle HX2 HU2 HO
        clear hx2
        obtain ⟨xi, xa⟩ := x
        simp only at d0 d1 hle HU2
        have hbx : Below w2.heap.size w2 (w2.alloc (.cells #[.int .i64 xi, .int .i64 xa] 29)) := (Below.refl _ _).alloc (Nat.le_refl _) _
        have R3 := Lib.hid (R2.out.below hbx)
        clear hbx
        have hrow := R3.out.row
        have hws := R3.out.q.grow.size
        have s1 : xs.length + 1 ≤ maxLen := by unfold maxLen; omega
        have s2 : (xs.length + 1) * 16 ≤ 140737488355328 := by omega
        go_wp2_with (at_builtin; refine wpList_row elO rfl _ _ rfl w1.heap.size _ _ _ rfl hrow _ 1 _ rfl (src_on w2 xi xa) s1 s2 hws ?_)
        intro v4 w4 hr4
        have R4 := Lib.hid (R3.out.app hlt hr4)
        have D := Lib.hid (out37 c w4 _ l1 j hj (by omega) R4.out.q.q)
        clear hr4 hrow R3 R2 c0
        go_wp2_with fail
        refine D.out.mono ?_
        rintro e w5 ⟨rfl, v5, hrs⟩
        rw [HO.out] at hrs
        have R5 := Lib.hid (R4.out.step hlt hrs)
        clear hrs D R4
        go_wp2_with fail
        go_roundg (out xi l1).length
        case rel => exact ⟨out xi l1, xs ++ [⟨xi, xa⟩], v5, rfl, by omega, by simp only [List.length_append, List.length_cons, List.length_nil]; omega, HX2, by rw [List.length_append, ons_app]; exact R5, HU2⟩
        case measure => omega
end Go.Proofs.Ytcgihilcjijckaa.F
