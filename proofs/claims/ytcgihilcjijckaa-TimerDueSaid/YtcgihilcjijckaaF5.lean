import Derived.Test.YtcgihilcjijckaaF4
set_option linter.unusedVariables false
set_option linter.unusedSimpArgs false
set_option linter.unnecessarySimpa false
namespace Go.Proofs.Ytcgihilcjijckaa.F
open Go.RowKit Go.Proofs.Ytcgihilcjijckaa.K Go.Shelf
attribute [local go_sem] Oper.semAt_some
/-- what Copy gives back: a queue of its own -/
def CopyR (R : List On) (w : World) (e : Ending) (w' : World) : Prop := ∃ (gc : Nat) (v : Value) (n : Int) (l : List Tm), e = .returned (.pointer (some ⟨gc, 0, none⟩)) ∧ w.heap.size ≤ gc ∧ QAt w' gc v n l ∧ Like l R ∧ (∀ k, v.ownBlock = some k → w.heap.size ≤ k) ∧ Below w.heap.size w w'
theorem cp_start {w w1 : World} (hq : QAt w1 w.heap.size (.slice none 0 0) 0 []) (hb : Below w.heap.size w w1) (p : Value) : Cp w w.heap.size w1.heap.size [] ((w1.alloc (.cells #[.pointer (some ⟨w.heap.size, 0, none⟩)] 23)).alloc (.cells #[p] 23)) ∧ ((w1.alloc (.cells #[.pointer (some ⟨w.heap.size, 0, none⟩)] 23)).alloc (.cells #[p] 23)).cell? ⟨w1.heap.size + 1, 0, none⟩ = some p ∧ ((w1.alloc (.cells #[.pointer (some ⟨w.heap.size, 0, none⟩)] 23)).alloc (.cells #[p] 23)).heap.size = w1.heap.size + 2 := by
  have hb2 : Below w1.heap.size w1 ((w1.alloc (.cells #[.pointer (some ⟨w.heap.size, 0, none⟩)] 23)).alloc (.cells #[p] 23)) := ((Below.refl _ w1).alloc (Nat.le_refl _) _).alloc (by simp) _
  refine ⟨⟨⟨_, 0, [], hq.below hb2, Like.nil, fun k hk => by simp [Value.ownBlock] at hk⟩, ?_, hb.trans (hb2.mono hb.size)⟩, ?_, by simp⟩
  · rw [Below.heap_alloc _ _ _ (by simp)]
    exact World.alloc_heap_new w1 _
  · have := cell_of_row ((w1.alloc (.cells #[.pointer (some ⟨w.heap.size, 0, none⟩)] 23)).alloc (.cells #[p] 23)) (w1.heap.size + 1) 0 #[p] 23 (0, 0) (by
      have := World.alloc_heap_new (w1.alloc (.cells #[.pointer (some ⟨w.heap.size, 0, none⟩)] 23)) (.cells #[p] 23)
      simpa using this)
    simpa using this
theorem cp_ownAt {w W : World} {gc Bc : Nat} {pre : List On} (h : Cp w gc Bc pre W) : ∀ k, ownAt W gc = some k → k < W.heap.size := fun k hk => by
  obtain ⟨v, n, l, h1, h2, h3⟩ := h.ex
  unfold ownAt at hk
  rw [h1.c0] at hk
  exact (Row.live h1.row hk).2
theorem cp_fin {w W : World} {Bc D : Nat} {R : List On} (hf : Fit R) (h : Cp w w.heap.size Bc (srt R) (W.putObj D (.deferred none))) : CopyR R w (.returned (.pointer (some ⟨w.heap.size, 0, none⟩))) (W.putObj D (.deferred none)) := by
  obtain ⟨⟨v, n, l, h1, h2, h3⟩, -, h4⟩ := h
  rw [setAll_srt hf] at h2
  exact ⟨_, v, n, l, rfl, Nat.le_refl _, h1, ⟨by rw [h2.eq, srt_self (sorted_srt R)], hf⟩, fun k hk => (h3 k hk).1, h4⟩
set_option maxRecDepth 100000 in
set_option maxHeartbeats 4000000 in
theorem copy16 (g : Nat) (w : World) (v : Value) (m : Int) (l : List Tm) (R : List On) (hk : Like l R) (hQ : QAt w g v m l) : Calls Try.prog 16 #[.pointer (some ⟨g, 0, none⟩)] w (CopyR R w) := by
  refine (callsIn_wide (n := 9)).1 ?_
  obtain ⟨F, hF⟩ : ∃ F, F = Fence.wide := ⟨_, rfl⟩
  have h16 : F.fn 16 := by rw [hF]; trivial
  have h35 : F.fn 35 := by rw [hF]; trivial
  have h42 : F.fn 42 := by rw [hF]; trivial
  have h13 : F.fn 13 := by rw [hF]; trivial
  have h24 : F.fn 24 := by rw [hF]; trivial
  have hro : F.round = none := by rw [hF]; rfl
  have hN : Hid (∀ n W, CallsIn F n Try.prog 13 #[] W fun e w' => e = .returned (.pointer (some ⟨W.heap.size, 0, none⟩)) ∧ QAt w' W.heap.size (.slice none 0 0) 0 [] ∧ Below W.heap.size W w') := Lib.hid (fun n W => by rw [hF]; exact callsIn_wide.2 (new13 W))
  have hS : Hid (∀ n gc W v n1 id at_ l R, Like l R → QAt W gc v n1 l → CallsIn F n Try.prog 24 #[.pointer (some ⟨gc, 0, none⟩), .int .i64 id, .int .i64 at_] W (SetQ id at_ R gc v W)) := Lib.hid (fun n gc W v n1 id at_ l R h1 h2 => by rw [hF]; exact callsIn_wide.2 (setq24 gc W v n1 id at_ l R h1 h2))
  rw [← hF]
  clear hF
  have hA := Lib.hid (fun W => all35_in F (9 - 1) h35 hro (some ⟨g, 0, none⟩) W)
  refine callsIn_of_wp_marks Try.func16 rfl h16 ?_ hro
  simp only [Try.ntmps16, List.size_toArray, List.length_cons, List.length_nil, Nat.reduceAdd, Nat.reduceSub, Array.replicate_succ, Array.replicate_zero, List.push_toArray, List.append_toArray, List.nil_append, List.cons_append]
  gi_wp2_with (gi_at_call 13; refine (hN.out _ _).mono ?_; rintro e w1 ⟨rfl, hq1, hb1⟩)
  have HQ1 := Lib.hid hq1
  have HB1 := Lib.hid hb1
  clear hq1 hb1
  gi_wp2_with (gi_at_call 35; refine (hA.out _).mono ?_; rintro e w' ⟨rfl, rfl⟩)
  gi_wp2
  obtain ⟨hst, hfn, hsz⟩ := cp_start HQ1.out HB1.out (.pointer (some ⟨g, 0, none⟩))
  have hq3 := hQ.below hst.below
  have hgc : w.heap.size < w1.heap.size := (Array.getElem?_eq_some_iff.1 HQ1.out.blk).1
  generalize ((w1.alloc (.cells #[.pointer (some ⟨w.heap.size, 0, none⟩)] 23)).alloc (.cells #[.pointer (some ⟨g, 0, none⟩)] 23)) = W3 at *
  generalize hBc : w1.heap.size = Bc at *
  refine wpIn_rangeFunc_ownF hro (by omega) (gf := 42) (lb := #[.pointer (some ⟨Bc + 1, 0, none⟩)]) rfl h42 (enters_of Try.func42 (by kernel_rfl) rfl)
    (all42_stops F (9 - 1) h42 hro (by omega) (Bc + 1) g w.heap.size v m l hk.le W3 (by omega) hfn hq3 (by omega) (cp_ownAt hst)) kc_t (kc_b (by omega)) (Below.refl _ _) (by intro x; rfl)
    (Cp w w.heap.size Bc) (fun _ _ _ => False) ?hI ?hIx ?h0
    (fun x => { tmps := #[.pointer (some ⟨g, 0, none⟩), undef, .pointer none, .pointer (some ⟨Bc, 0, none⟩), .int .i64 x.id, .int .i64 x.at_, .pointer (some ⟨g, 0, none⟩), .bool false, .pointer (some ⟨w.heap.size, 0, none⟩), .pointer (some ⟨g, 0, none⟩), .func (.func 42) #[] #[.pointer (some ⟨Bc + 1, 0, none⟩)], .int .i64 x.id, .int .i64 x.at_, undef, undef, undef, undef, undef], defers := [] }) ?assign ?body ?done ?stop
  case hI => exact cp_own (by omega)
  case hIx => exact fun c s W W' row hs _ _ => hs
  case h0 => exact hst
  case assign =>
    intro ll x W K hK
    unfold On.enc
    gi_wp2
    exact hK
  case body =>
    rintro ll pre x W ⟨⟨v1, n1, l1, hq, hl1, hv1⟩, hbx, hbel⟩ hlen
    have c1 : W.cell? ⟨Bc, 0, none⟩ = some (.pointer (some ⟨w.heap.size, 0, none⟩)) := (cell_of_row _ _ _ _ _ _ hbx).trans rfl
    have hS1 := Lib.hid (hS.out (9 - 1 - 1 - 1) _ W v1 n1 x.id x.at_ l1 _ hl1 hq)
    have HST := Lib.hid (fun (W' : World) (v2 : Value) (n2 : Int) (l2 : List Tm) (hs : SetS W W' w.heap.size v1 v2 n2 l2) hk2 => cp_step (Bc := Bc) (pre := pre) (x := x) (Nat.le_refl _) (by omega) (by omega) hq hv1 hbx hbel hs hk2)
    clear hq hl1 hv1 hbx
    gi_wp2_with (gi_at_call 24; refine (CallsIn.inRound ll (hS1.out)).mono ?_; rintro e w4 ⟨n2, l2, v2, rfl, hs, hk2⟩)
    have hst4 := HST.out w4 v2 n2 l2 hs (by rw [setAll_snoc]; exact hk2)
    clear HST hs hk2 c1
    gi_wp2
    exact hst4
  case done =>
    rintro D ys W hD hys hcp hK
    have HEV := Lib.hid ((cp_own (B := w.heap.size) (Nat.le_refl _)).putObj (.deferred none) hcp (by omega) hK rfl)
    have c1 : W.cell? ⟨Bc, 0, none⟩ = some (.pointer (some ⟨w.heap.size, 0, none⟩)) := (cell_of_row _ _ _ _ _ _ hcp.box).trans rfl
    have HYS := Lib.hid hys
    clear hcp hys
    gi_wp2
    refine ⟨by simp, .inl ⟨_, _, rfl, run_takeDeferred hK, ?_⟩⟩
    have hfin := cp_fin (R := R) hk.fit (by have := HEV.out; rw [HYS.out, hk.eq] at this; exact this)
    exact ⟨_, results_tmp (t := 2) rfl _ _ _, hfin⟩
  case stop =>
    rintro D c pre W hD hpre h hK
    exact h.elim
end Go.Proofs.Ytcgihilcjijckaa.F
