import Derived.Test.YtcgihilcjijckaaG6
set_option linter.unusedVariables false
set_option linter.unusedSimpArgs false
set_option linter.unnecessarySimpa false
namespace Go.Proofs.Ytcgihilcjijckaa.F
open Go.RowKit Go.Proofs.Ytcgihilcjijckaa.K
def duE (now : Int) (R : List On) : List Int := (dueL now (srt R)).map On.id
/-- what is due, of both -/
theorem ids_same (w : World) (B1 B2 : Nat) (u1 u2 : Value) (a : List Int) (h1 : Row w B1 3 1 u1 a.length (ints a)) (h2 : Row w B2 3 1 u2 a.length (ints a)) : Calls Try.prog 8 #[u1, u2] w fun e w' => e = .returned (.bool true) ∧ Below w.heap.size w w' := by
  refine (ids8 w B1 B2 u1 u2 a a h1 h2).mono ?_
  rintro e w' ⟨t, rfl, ht, hb⟩
  rw [ht.2 rfl]
  exact ⟨rfl, hb⟩
theorem duT_ids {now : Int} {l : List Tm} {R : List On} (h : Like l R) : (dueT now l).map Tm.id = duE now R := by
  unfold duE
  rw [← h.eq, ← (dueT_map now l).1, List.map_map]
  rfl
theorem late_like {now : Int} {l : List Tm} {R l2 : List On} (h : Like l R) (hs : srt l2 = restL now (srt R)) (hl : l2.length ≤ R.length) (hu : Uniq l2) : Like (restT now l) l2 :=
  ⟨by rw [(dueT_map now l).2, h.eq, hs], ⟨hu, by have := h.fit.len; omega, fun x hx => h.fit.ok x (mem_srt.1 ((List.dropWhile_sublist _).mem (by have := mem_srt.2 hx; rw [hs] at this; exact this)))⟩⟩
def DueQ (now : Int) (R : List On) (g : Nat) (v : Value) (w : World) (l' : List Tm) (e : Ending) (w' : World) : Prop := ∃ u v2 n2, e = .returned u ∧ Row w' w.heap.size 3 1 u (duE now R).length (ints (duE now R)) ∧ SetS w w' g v v2 n2 l' ∧ Apart u v2
theorem dueq9 (g : Nat) (w : World) (v : Value) (n now : Int) (l : List Tm) (R : List On) (hk : Like l R) (h : QAt w g v n l) : Calls Try.prog 9 #[.pointer (some ⟨g, 0, none⟩), .int .i64 now] w (DueQ now R g v w (restT now l)) := by
  refine (due9 g w v n now l hk.le h).mono ?_
  rintro e w' ⟨⟨u, v', rfl, h1, h2, h3, h4⟩, h5⟩
  rw [duT_ids hk, show (dueT now l).length = (duE now R).length by rw [← duT_ids hk]; simp] at h1
  exact ⟨u, v', n, rfl, h1, ⟨h2, h5, h3⟩, h4⟩
def DueRR (now : Int) (R : List On) (g : Nat) (v : Value) (w : World) (e : Ending) (w' : World) : Prop := ∃ u v2 l2, e = .returned u ∧ RO w w' g v v2 l2 3 1 u (duE now R).length (ints (duE now R)) ∧ srt l2 = restL now (srt R) ∧ l2.length ≤ R.length ∧ Uniq l2
theorem duer31 (g : Nat) (w : World) (v : Value) (now : Int) (R : List On) (hf : Fit R) (h : RAt w g v R) : Calls Try.prog 31 #[.pointer (some ⟨g, 0, none⟩), .int .i64 now] w (DueRR now R g v w) := by
  refine (rdue31 g w v now R hf.len hf.uniq h).mono ?_
  rintro e w' ⟨u, v2, l2, rfl, h1, h2, h3, h4⟩
  refine ⟨u, v2, l2, rfl, ?_, h2, h3, h4⟩
  have e1 : intsOn (dueL now (srt R)) = ints (duE now R) := by unfold intsOn ints duE; rw [List.map_map]; rfl
  have e2 : (dueL now (srt R)).length = (duE now R).length := by unfold duE; simp
  rw [← e1, ← e2]
  exact h1
theorem row_cell {w : World} {B : Nat} {A : Option Addr} {cap n : Nat} {xs : List Value} (h : Row w B 3 1 (.slice A n cap) n xs) {k : Nat} (hk : k < n) : ∃ b, A = some ⟨b, 0, none⟩ ∧ (∃ u, w.cell? ⟨b, k, none⟩ = some u) ∧ w.frozen? ⟨b, k, none⟩ = false := by
  have hl := h.len
  obtain ⟨b, hA, -, h0⟩ := h.cell (j := k) (u := xs[k]'(by omega)) (List.getElem?_eq_getElem (by omega))
  refine ⟨b, hA, ⟨_, h0⟩, ?_⟩
  rcases h.form with ⟨h1, h2⟩ | ⟨g, cap', cur, h1, h2, h3, -⟩
  · omega
  · rw [hA] at h1
    cases h1
    exact frozen_of_row _ _ _ _ _ h3
variable (gq gr : Nat) (w : World)
set_option maxHeartbeats 8000000 in
set_option maxRecDepth 100000 in
theorem step14_3 (vq vr : Value) (n kd id at_ sp : Int) (l : List Tm) (R : List On) (hkd : kd = 3) (hk : Like l R) (h : TwS w w gq gr vq vr vq vr n l R) : Calls Try.prog 14 #[.pointer (some ⟨gq, 0, none⟩), .pointer (some ⟨gr, 0, none⟩), .agg #[.int .i64 kd, .int .i64 id, .int .i64 at_, .int .i64 sp]] w (StepR gq gr vq vr w) := by
  have HK := Lib.hid hk
  have T0 := Lib.hid (twB_start h kd id at_ sp)
  have HW := Lib.hid h
  clear hk h
  subst hkd
  go_enter Try.func14, Try.ntmps14
  have c0 := T0.out.box.c
  have h1 := dueq9 gq _ vq n at_ l R HK.out T0.out.t.q
  have h2 := Lib.hid (fun W v h => duer31 gr W v at_ R HK.out.fit h)
  have HL := Lib.hid (fun l2 => late_like (now := at_) (l2 := l2) HK.out)
  unfold DueQ at h1
  unfold DueRR at h2
  generalize duE at_ R = D at *
  go_wp2_with fail
  refine h1.mono ?_
  rintro e w1 ⟨u1, v2, n2, rfl, hr1, hs, ha⟩
  have T1 := Lib.hid (T0.out.left hs)
  have c1 := T1.out.box.c
  have HU1 := Lib.hid hr1
  have HA1 := Lib.hid ha
  clear h1 hs c0 hr1 ha
  go_wp2_with fail
  refine (h2.out _ _ T1.out.t.r).mono ?_
  rintro e w2 ⟨u2, v3, l2, rfl, hro, hs2, hl2, hu2⟩
  have K2 := Lib.hid (HL.out l2 hs2 hl2 hu2)
  have T2 := Lib.hid (T1.out.right hro.q)
  have HU2 := Lib.hid hro.row
  have hg1 : ∀ k, u1.ownBlock = some k → w.heap.size + 1 ≤ k := fun k hk => by have := (Row.live HU1.out hk).1; simpa using this
  have hgr : gr < w.heap.size := (Array.getElem?_eq_some_iff.1 (show w.heap[gr]? = _ from HW.out.r.blk)).1
  have hgq : gq < w.heap.size := (Array.getElem?_eq_some_iff.1 (show w.heap[gq]? = _ from HW.out.q.blk)).1
  have HU3 := Lib.hid (HU1.out.grown2 hro.q.grow (fun e => by have := hg1 _ e; omega) (fun k hk e => by have h5 := hg1 k hk; have h6 := (Row.live HW.out.r.row e).2; omega))
  have HA3 : Hid (Apart u1 v2 ∧ Apart u1 v3) := Lib.hid ⟨HA1.out, fun k hk e => by
    rcases hro.q.own k e with q | q
    · have h5 := hg1 k hk; have h6 := (Row.live HW.out.r.row q).2; omega
    · have := (Row.live HU1.out hk).2; omega⟩
  have HG1 := Lib.hid hg1
  clear hs2 hl2 hu2 h2 HL hro c1 hg1
  go_wp2_with fail
  refine (ids_same _ _ _ u1 u2 D HU3.out HU2.out).mono ?_
  rintro e w3 ⟨rfl, hb3⟩
  have T3 := Lib.hid (T2.out.t.below hb3)
  have HU4 := Lib.hid (HU3.out.below hb3)
  clear hb3
  obtain ⟨A1, p1, rfl, k1, k2⟩ := Row.slice HU4.out
  unfold maxLen at k2
  go_wp2_with fail
  go_loopw [9, 79] (fun _ i wr => ∃ (k : Nat) (xs : List Value), k ≤ D.length ∧ i = .int .i64 k ∧ Hid (Row wr (w.heap.size + 1) 3 1 (.slice A1 D.length p1) D.length xs) ∧ Hid (TwS w wr gq gr vq vr v2 v3 n2 (restT at_ l) l2)) (fun _ i _ => D.length - (intOf i).toNat)
  case atStart => exact ⟨0, _, by omega, rfl, Lib.hid (by have := HU4.out; simpa using this), T3⟩
  case round =>
    obtain ⟨k, xs, hk, rfl, HX, HT⟩ := hrel
    clear T3 HU4
    by_cases hkl : k < D.length
    · obtain ⟨b, hA, hc, hf⟩ := row_cell HX.out hkl
      subst hA
      obtain ⟨xv, hc⟩ := hc
      have i0 : (0 : Int) ≤ (k : Int) := by omega
      have i1 : (k : Int) < (D.length : Int) := by omega
      have HX2 := Lib.hid (row_set HX.out k (.int .i64 (-9)))
      have hown : (Value.slice (some ⟨b, 0, none⟩) D.length p1).ownBlock = some b := rfl
      have HT2 := Lib.hid (HT.out.elsewhere (w2 := wr.setCell ⟨b, k, none⟩ (.int .i64 (-9))) (b := b) ⟨rfl, rfl, rfl, by simp [World.setCell], fun j _ hj => heap_setCell_other _ _ _ _ (fun e => hj (by simp [e]))⟩ (by have := HG1.out b hown; omega) (by have := HG1.out b hown; omega) (fun e => HA3.out.1 b hown e) (by have := HG1.out b hown; omega) (fun e => HA3.out.2 b hown e))
      go_wp2_with fail
      go_roundw
      case rel => exact ⟨k + 1, _, by omega, by go_num, HX2, HT2⟩
      case measure => simp [intOf]; omega
    · obtain rfl : k = D.length := by omega
      go_wp2_with fail
      go_ret
      exact ⟨rfl, _, _, _, _, _, HT.out, K2.out⟩
end Go.Proofs.Ytcgihilcjijckaa.F
