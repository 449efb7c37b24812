import Derived.Test.YtedhldcoddbbdaaR7
set_option linter.unusedVariables false
set_option linter.unusedSimpArgs false
set_option linter.unnecessarySimpa false
namespace Go.Proofs.Ytedhldcoddbbdaa.F
open Go.RowKit Go.Proofs.Ytedhldcoddbbdaa.K
/-- frames that lie in a slice -/
structure FramesAt (w : World) (v : Value) (l : List (Int × List (BitVec 8))) : Prop where
  at_ : ∃ A cap, v = .slice A l.length cap ∧ l.length ≤ cap ∧ cap ≤ maxLen ∧ ∀ i (h : i < l.length), ∃ b o u, A = some ⟨b, o, none⟩ ∧ w.cell? ⟨b, o + i * 2, none⟩ = some (.int .i64 l[i].1) ∧ w.cell? ⟨b, o + i * 2 + 1, none⟩ = some u ∧ BytesAt w u l[i].2
theorem FramesAt.nil (w : World) : FramesAt w (.slice none 0 0) [] := ⟨none, 0, rfl, Nat.le_refl _, by simp [maxLen], fun i h => absurd h (by simp)⟩
theorem FramesAt.below {w w' : World} {v : Value} {l : List (Int × List (BitVec 8))} (h : FramesAt w v l) (hb : Below w.heap.size w w') : FramesAt w' v l := by
  obtain ⟨A, cap, h1, h2, h3, h4⟩ := h
  refine ⟨A, cap, h1, h2, h3, fun i hi => ?_⟩
  obtain ⟨b, o, u, q1, q2, q3, q4⟩ := h4 i hi
  exact ⟨b, o, u, q1, (hb.cell (World.block_lt_of_cell? w _ q2)).trans q2, (hb.cell (World.block_lt_of_cell? w _ q3)).trans q3, q4.below hb⟩
theorem frs_get (xs : List Fv) (i : Nat) (h : i < xs.length) : (frs xs)[i * 2]? = some (.int .i64 xs[i].n) ∧ (frs xs)[i * 2 + 1]? = some xs[i].u := by
  induction xs generalizing i with
  | nil => simp at h
  | cons x r ih =>
    cases i with
    | zero => exact ⟨rfl, rfl⟩
    | succ j =>
      have h2 : j < r.length := by simpa using h
      have := ih j h2
      rw [show (j + 1) * 2 = j * 2 + 1 + 1 by omega]
      simp only [frs, List.getElem?_cons_succ, List.getElem_cons_succ]
      exact this
theorem frames_of {w : World} {B : Nat} {v : Value} {xs : List Fv} (h : Row w B 24 2 v xs.length (frs xs)) (hi : ∀ x ∈ xs, BytesAt w x.u x.l) : FramesAt w v (xs.map Fv.fr) := by
  obtain ⟨A, cap, hv, h1, h2⟩ := Row.slice h
  subst hv
  refine ⟨A, cap, by rw [List.length_map], by rw [List.length_map]; exact h1, h2, fun i hj => ?_⟩
  rw [List.length_map] at hj
  obtain ⟨g1, g2⟩ := frs_get xs i hj
  obtain ⟨b, e1, -, c1⟩ := h.cell g1
  obtain ⟨b', e2, -, c2⟩ := h.cell g2
  subst e1
  cases e2
  refine ⟨b, 0, xs[i].u, rfl, by rw [Nat.zero_add, List.getElem_map]; exact c1, by rw [Nat.zero_add]; exact c2, ?_⟩
  rw [List.getElem_map]
  exact hi _ (List.getElem_mem hj)
set_option maxHeartbeats 4000000 in
theorem sameFrames24 (l m : List (Int × List (BitVec 8))) (v u : Value) (w : World) (h : FramesAt w v l) (h' : FramesAt w u m) : Calls Try.prog 24 #[v, u] w fun e w' => e = .returned (.bool (decide (l = m))) ∧ Below w.heap.size w w' := by
  have H1 := Lib.hid h
  have H2 := Lib.hid h'
  obtain ⟨A1, p1, rfl, k1, k2, -⟩ := h.at_
  obtain ⟨A2, p2, rfl, k3, k4, -⟩ := h'.at_
  unfold maxLen at k2 k4
  clear h h'
  by_cases hl : l.length = m.length
  · have hl2 : ((l.length : Int) != (m.length : Int)) = false := by simp [hl]
    go_enter Try.func24, Try.ntmps24
    go_wp2_with fail
    go_loopw [5] (fun i wr => ∃ k : Nat, k ≤ l.length ∧ i = .int .i64 k ∧ Hid (∀ (j : Nat) (hj : j < l.length) (hj' : j < m.length), j < k → l[j] = m[j]) ∧ Below w.heap.size w wr) (fun i _ => l.length - (intOf i).toNat)
    case atStart => exact ⟨0, by omega, rfl, Lib.hid (fun j hj hj' h0 => by omega), Below.refl _ _⟩
    case round =>
      obtain ⟨k, hk, rfl, HK, hB⟩ := hrel
      have HB := Lib.hid hB
      clear hB
      by_cases hka : k < l.length
      · have hkb : k < m.length := by omega
        obtain ⟨A1', cp1, e1, -, -, hc1⟩ := (H1.out.below HB.out).at_
        obtain ⟨A2', cp2, e2, -, -, hc2⟩ := (H2.out.below HB.out).at_
        cases e1
        cases e2
        obtain ⟨b1, o1, u1, rfl, d1, d2, d3⟩ := hc1 k hka
        obtain ⟨b2, o2, u2, rfl, d4, d5, d6⟩ := hc2 k hkb
        clear hc1 hc2
        obtain ⟨x, hx⟩ : ∃ x, x = l[k] := ⟨_, rfl⟩
        obtain ⟨y, hy⟩ : ∃ y, y = m[k] := ⟨_, rfl⟩
        have HX := Lib.hid hx
        have HY := Lib.hid hy
        rw [← hx] at d1 d3
        rw [← hy] at d4 d6
        clear hx hy
        have i0 : (0 : Int) ≤ (k : Int) := by omega
        have i1 : (k : Int) < (l.length : Int) := by omega
        have i2 : (k : Int) < (m.length : Int) := by omega
        have hs1 := fun n => BytesAt.string (P := Try.prog) (d3.below (Go.below_drewN (Below.refl _ _) n)) Try.underlying22 Try.underlying5 Try.underlying9
        have hs2 := fun n => BytesAt.string (P := Try.prog) (d6.below (Go.below_drewN (Below.refl _ _) n)) Try.underlying22 Try.underlying5 Try.underlying9
        obtain ⟨x1, x2⟩ := x
        obtain ⟨y1, y2⟩ := y
        dsimp only at *
        obtain ⟨Ax, cx, rfl, -, -, -, -⟩ := d3.at_
        obtain ⟨Ay, cy, rfl, -, -, -, -⟩ := d6.at_
        clear d3 d6
        have hl3 := Lib.hid hl
        clear hl hl2
        by_cases hxy : x1 = y1
        · subst hxy
          have z : (x1 != x1) = false := by simp
          have hq := str_beq x2 y2
          by_cases hz : x2 = y2
          · have HXY := Lib.hid hz
            have z2 : (!(str x2).toList == (str y2).toList) = false := by simp [hq, hz]
            clear hz hq
            go_upto_region 6 with fail
            go_quiet (fail)
            go_wp2_with fail
            go_roundw
            case rel => exact ⟨k + 1, by omega, by go_num, Lib.hid (fun j hj hj' hjk => by
              by_cases e : j = k
              · subst e; rw [← HX.out, ← HY.out, HXY.out]
              · exact HK.out j hj hj' (by omega)), Go.below_drewN HB.out _⟩
            case measure => simp [intOf]; omega
          · have HXY := Lib.hid hz
            have z2 : (!(str x2).toList == (str y2).toList) = true := by simp [hq, hz]
            clear hz hq
            go_upto_region 6 with fail
            go_quiet (fail)
            go_wp2_with fail
            go_ret
            refine ⟨?_, Go.below_drewN HB.out _⟩
            have : ¬ l = m := fun h => by
              subst h
              exact HXY.out (congrArg Prod.snd (HX.out.trans HY.out.symm))
            simp [this]
        · have HXY := Lib.hid hxy
          have z : (x1 != y1) = true := by simp [hxy]
          clear hxy
          go_upto_region 6 with fail
          go_quiet (fail)
          go_wp2_with fail
          go_ret
          refine ⟨?_, Go.below_drewN HB.out _⟩
          have : ¬ l = m := fun h => by
            subst h
            exact HXY.out (congrArg Prod.fst (HX.out.trans HY.out.symm))
          simp [this]
      · obtain rfl : k = l.length := by omega
        go_wp2_with fail
        go_ret
        refine ⟨?_, HB.out⟩
        have : l = m := List.ext_getElem hl (fun i h1 h2 => HK.out i h1 h2 h1)
        simp [this]
  · have hl2 : ((l.length : Int) != (m.length : Int)) = true := by simp; omega
    go_enter Try.func24, Try.ntmps24
    go_wp2_with fail
    go_ret
    refine ⟨?_, Below.refl _ _⟩
    have : ¬ l = m := fun h => hl (by rw [h])
    simp [this]
end Go.Proofs.Ytedhldcoddbbdaa.F
