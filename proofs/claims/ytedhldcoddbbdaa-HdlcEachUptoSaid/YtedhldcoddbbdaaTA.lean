import Derived.Test.YtedhldcoddbbdaaU3
import Derived.Test.YtedhldcoddbbdaaP2
set_option linter.unusedVariables false
set_option linter.unusedSimpArgs false
set_option linter.unnecessarySimpa false
namespace Go.Proofs.Ytedhldcoddbbdaa.F
open Go.RowKit Go.Proofs.Ytedhldcoddbbdaa.K
theorem proto39 (n : Int) (w : World) : Calls Try.prog 39 #[.int .i64 n] w fun e w' => e = .returned (.bool (protoB n)) ∧ w = w' := by
  by_cases h : 1 ≤ n
  · by_cases h2 : n ≤ 65535
    · have a1 : n.tmod 2 = n % 2 := Int.tmod_eq_emod_of_nonneg (by omega)
      have a2 : n.tdiv 256 = n / 256 := Int.tdiv_eq_ediv_of_nonneg (by omega)
      have a3 : (n / 256).tmod 2 = n / 256 % 2 := Int.tmod_eq_emod_of_nonneg (by omega)
      have a4 : IntKind.i64.wrap (n / 256) = n / 256 := IntWalk.i64_in _ (by omega)
      have hb : protoB n = (decide (n % 2 = 1) && decide (n / 256 % 2 = 0)) := by simp [protoB, h, h2]
      rw [hb]
      by_cases h3 : n % 2 = 1
      · have z1 : (n % 2 == 1) = true := by simpa using h3
        by_cases h4 : n / 256 % 2 = 0
        · have z2 : (n / 256 % 2 == 0) = true := by simpa using h4
          have hc : (decide (n % 2 = 1) && decide (n / 256 % 2 = 0)) = true := by simp [h3, h4]
          rw [hc]
          clear hb hc
          go_enter Try.func39, Try.ntmps39
          go_wp2
          go_ret
          exact ⟨rfl, rfl⟩
        · have z2 : (n / 256 % 2 == 0) = false := by simpa using h4
          have hc : (decide (n % 2 = 1) && decide (n / 256 % 2 = 0)) = false := by simp [h4]
          rw [hc]
          clear hb hc
          go_enter Try.func39, Try.ntmps39
          go_wp2
          go_ret
          exact ⟨rfl, rfl⟩
      · have z1 : (n % 2 == 1) = false := by simpa using h3
        have hc : (decide (n % 2 = 1) && decide (n / 256 % 2 = 0)) = false := by simp [h3]
        rw [hc]
        clear hb hc
        go_enter Try.func39, Try.ntmps39
        go_wp2
        go_ret
        exact ⟨rfl, rfl⟩
    · have hb : protoB n = false := by simp [protoB]; omega
      rw [hb]
      clear hb
      go_enter Try.func39, Try.ntmps39
      go_wp2
      go_ret
      exact ⟨rfl, rfl⟩
  · have hb : protoB n = false := by simp [protoB]; omega
    rw [hb]
    clear hb
    go_enter Try.func39, Try.ntmps39
    go_wp2
    go_ret
    exact ⟨rfl, rfl⟩
end Go.Proofs.Ytedhldcoddbbdaa.F

namespace Go.Proofs.Ytedhldcoddbbdaa.F
open Go.RowKit Go.Proofs.Ytedhldcoddbbdaa.K
theorem frame_old {w : World} {g : Nat} {a b c d : Value} {t : TypeId} (h : w.heap[g]? = some (.cells #[a, b] t (0, 0))) : (w.setCell ⟨g, 0, none⟩ c).heap[g]? = some (.cells #[c, b] t (0, 0)) ∧ (w.setCell ⟨g, 1, none⟩ d).heap[g]? = some (.cells #[a, d] t (0, 0)) :=
  ⟨heap_setCell_same _ _ 0 _ _ c h, heap_setCell_same _ _ 1 _ _ d h⟩
theorem p23_fin {l rest : List (BitVec 8)} {pfc acfc : Bool} {w wc W1 W1' w4 : World} {n : Int} {S G : Nat} {v4 : Value} {m : Nat} {xs : List Value} (hS : wc.heap.size = S) (hG : w.heap.size = G) (hlt : G < S) (hp : parseP l pfc acfc = (0, n, rest)) (hb : Below G w W1) (hk : W1.heap[S]? = some (.cells #[.int .i64 n, .slice none 0 0] 24 (0, 0))) (hf : W1.heap[G]? = some (.cells #[.int .i64 0, .slice none 0 0] 24 (0, 0))) (he : W1'.heap = W1.heap ∧ W1'.os = W1.os ∧ W1'.tape = W1.tape ∧ W1'.output = W1.output) (h4 : RowR W1' w4 G 5 1 (.slice none 0 0) v4 m xs) (hm : m = rest.length) (hx : xs = rest.map b8) :
    ParseR l pfc acfc w (.returned (.tuple #[.agg #[.int .i64 n, v4], .int .i64 0])) (((w4.setCell ⟨S, 1, none⟩ v4).setCell ⟨G, 0, none⟩ (.int .i64 n)).setCell ⟨G, 1, none⟩ v4) ∧ (w4.setCell ⟨S, 1, none⟩ v4).heap[G]? = some (.cells #[.int .i64 0, .slice none 0 0] 24 (0, 0)) := by
  subst hG
  have hSl := (Array.getElem?_eq_some_iff.1 hk).1
  have hGl := (Array.getElem?_eq_some_iff.1 hf).1
  obtain ⟨e1, e2, e3, e4⟩ := he
  have own : ∀ k, v4.ownBlock = some k → W1.heap.size ≤ k := fun k hk => by
    rcases h4.own k hk with q | q
    · simp [Value.ownBlock] at q
    · rwa [e1] at q
  have hset : w4.grownBy (w4.setCell ⟨S, 1, none⟩ v4) (some S) := ⟨rfl, rfl, rfl, by simp [World.setCell], fun k _ hk => heap_setCell_other _ _ _ _ (fun e => hk (by simp [e]))⟩
  have hz := h4.grow.size
  rw [e1] at hz
  have hblk : ∀ k, k < W1.heap.size → w4.heap[k]? = W1.heap[k]? := fun k hk => by
    have := h4.grow.block k (by rw [e1]; exact hk) (by simp [Value.ownBlock])
    rw [this, e1]
  have hf4 : (w4.setCell ⟨S, 1, none⟩ v4).heap[w.heap.size]? = some (.cells #[.int .i64 0, .slice none 0 0] 24 (0, 0)) := (heap_setCell_other _ _ _ _ (show w.heap.size ≠ S by omega)).trans ((hblk _ hGl).trans hf)
  have hb4 : Below w.heap.size w w4 := ⟨(h4.grow.os.trans e2).trans hb.os, (h4.grow.tape.trans e3).trans hb.tape, (h4.grow.output.trans e4).trans hb.output, Nat.le_trans hb.size hz, fun k hk => (hblk k (Nat.lt_of_lt_of_le hk hb.size)).trans (hb.block k hk)⟩
  refine ⟨parse_fin hp (hb4.setCell (p := ⟨S, 1, none⟩) (Nat.le_of_lt hlt) _) hf4 ?_ (fun e => by have := own _ e; omega), hf4⟩
  subst hm hx
  exact h4.row.kept hset (fun k hk e => by cases e; have := own _ hk; omega)
set_option maxHeartbeats 8000000 in
set_option maxRecDepth 100000 in
theorem parse23 (l : List (BitVec 8)) (pfc acfc : Bool) (v : Value) (w : World) (h : BytesAt w v l) (hl : l.length ≤ 140737488351232) : Calls Try.prog 23 #[v, .bool pfc, .bool acfc] w (ParseR l pfc acfc w) := by
  have HI := Lib.hid h
  obtain ⟨A, cap, rfl, k1, k2, -, -⟩ := h.at_
  unfold maxLen at k2
  clear h
  have hb : Below w.heap.size w (w.alloc (.cells #[.int .i64 0, .slice none 0 0] 24)) := (Below.refl _ w).alloc (Nat.le_refl _) _
  have HB := Lib.hid hb
  have HI0 := Lib.hid (HI.out.below hb)
  have HF := Lib.hid (heap_alloc_new w (.cells #[.int .i64 0, .slice none 0 0] 24))
  clear hb
  go_enter Try.func23, Try.ntmps23
  go_upto_region 1 with fail
  generalize w.alloc (.cells #[.int .i64 0, .slice none 0 0] 24) = W0 at *
  go_cut [25] (fun s wx => s = .bool (strip l).isSome ∧ W0 = wx)
  case first =>
    rcases l with _ | ⟨a, _ | ⟨b, r⟩⟩
    · go_wp2_with fail
      go_meet
      exact ⟨rfl, rfl⟩
    · go_wp2_with fail
      go_meet
      exact ⟨rfl, rfl⟩
    · obtain ⟨b1, o1, hA, d0⟩ := BytesAt.get HI0.out (k := 0) (by simp)
      obtain ⟨b2, o2, hA2, d1⟩ := BytesAt.get HI0.out (k := 1) (by simp)
      subst hA
      cases hA2
      simp only [List.getElem_cons_zero, List.getElem_cons_succ, Nat.add_zero] at d0 d1
      have hl2 : (2 : Int) ≤ ((a :: b :: r).length : Int) := by simp only [List.length_cons]; omega
      have hl0 : (0 : Int) < ((a :: b :: r).length : Int) := by omega
      have hl1 : (1 : Int) < ((a :: b :: r).length : Int) := by omega
      generalize (a :: b :: r).length = L at *
      by_cases ha : a = 255#8
      · by_cases hb : b = 3#8
        · have HS : Hid ((strip (a :: b :: r)).isSome = true) := Lib.hid (by simp [strip, ha, hb])
          subst ha hb
          go_wp2_with fail
          go_meet
          exact ⟨by rw [HS.out]; rfl, rfl⟩
        · have HS : Hid ((strip (a :: b :: r)).isSome = false) := Lib.hid (by simp [strip, hb])
          have z : (v8 b == 3) = false := v8_ne (b := 3#8) hb
          subst ha
          go_wp2_with fail
          go_meet
          exact ⟨by rw [HS.out], rfl⟩
      · have HS : Hid ((strip (a :: b :: r)).isSome = false) := Lib.hid (by simp [strip, ha])
        have z : (v8 a == 255) = false := v8_ne (b := 255#8) ha
        go_wp2_with fail
        go_meet
        exact ⟨by rw [HS.out], rfl⟩
  case rest =>
  obtain ⟨rfl, rfl⟩ := hcut
  go_upto_if 25 with fail
  go_cut [0] (fun v wx => W0 = wx ∧ ∃ (m : List (BitVec 8)), Hid (headP acfc l = some m) ∧ Hid (BytesAt W0 v m) ∧ m.length ≤ 140737488351232)
  case first =>
    cases hs : strip l with
    | none =>
      cases acfc
      · have HP : Hid (parseP l pfc false = (3, 0, [])) := Lib.hid (by unfold parseP headP; rw [hs]; rfl)
        have c0 : W0.cell? ⟨w.heap.size, 0, none⟩ = some (.int .i64 0) := (cell_of_row _ _ _ _ _ _ HF.out).trans rfl
        have c1 : W0.cell? ⟨w.heap.size, 1, none⟩ = some (.slice none 0 0) := (cell_of_row _ _ _ _ _ _ HF.out).trans rfl
        have f0 : W0.frozen? ⟨w.heap.size, 0, none⟩ = false := frozen_of_row _ _ _ _ _ HF.out
        have f1 : W0.frozen? ⟨w.heap.size, 1, none⟩ = false := frozen_of_row _ _ _ _ _ HF.out
        clear hs
        go_wp2_with fail
        exact bodyPost_ret (v := .tuple #[.agg #[.int .i64 0, .slice none 0 0], .int .i64 3]) (ret_ct (fn := Try.f23) (p := 6) (u := 7) rfl _ _ w.heap.size 24 #[.int .i64 0, .slice none 0 0] (0, 0) _ rfl (frame_set HF.out) Try.underlying24 rfl (by kernel_rfl)) rfl (parse_fin HP.out HB.out HF.out (Row.nil _ _ _ _) (by simp [Value.ownBlock]))
      · have HP : Hid (headP true l = some l) := Lib.hid (by unfold headP; rw [hs]; rfl)
        clear hs
        go_wp2_with fail
        go_meet
        exact ⟨rfl, l, HP, HI0, hl⟩
    | some r =>
      have HP : Hid (headP acfc l = some r) := Lib.hid (by unfold headP; rw [hs])
      have hd : l.drop 2 = r ∧ 2 ≤ l.length := by
        rcases l with _ | ⟨a, _ | ⟨b, r'⟩⟩
        · simp [strip] at hs
        · simp [strip] at hs
        · simp only [strip] at hs
          split at hs
          · simp only [Option.some.injEq] at hs
            exact ⟨hs, by simp⟩
          · simp at hs
      obtain ⟨hd1, hd2⟩ := hd
      obtain ⟨b1, o1, hA, -⟩ := BytesAt.get HI0.out (k := 0) (by omega)
      subst hA
      have i2 : (2 : Int) ≤ (l.length : Int) := by omega
      have i3 : (l.length : Int) ≤ (cap : Int) := by omega
      have hlr : r.length = l.length - 2 := by rw [← hd1, List.length_drop]
      have HD := Lib.hid hd1
      have HLR := Lib.hid hlr
      clear hs hd1 hlr
      by_cases hc : cap = 2
      · subst hc
        have hll : l.length = 2 := by omega
        have HT := Lib.hid (BytesAt.tail HI0.out 2 hd2 o1 0 (fun hh => by omega) (by omega) (by unfold maxLen; omega))
        rw [hll] at HT
        go_wp2_with fail
        go_meet
        exact ⟨rfl, r, HP, Lib.hid (by rw [← HD.out]; exact HT.out), by have := HLR.out; omega⟩
      · have HT := Lib.hid (BytesAt.tail HI0.out 2 hd2 (o1 + 2) (cap - 2) (fun hh => rfl) (by omega) (by unfold maxLen; omega))
        have hc2 : ¬ (2 : Int) = (cap : Int) := by omega
        go_wp2_with fail
        go_meet
        exact ⟨rfl, r, HP, Lib.hid (by rw [← HD.out]; exact HT.out), by have := HLR.out; omega⟩
  case rest =>
  obtain ⟨rfl, m, HH, HM, hml⟩ := hcut
  obtain ⟨A', cp', e0, q1, q2, -, -⟩ := HM.out.at_
  subst e0
  unfold maxLen at q2
  have c0 : W0.cell? ⟨w.heap.size, 0, none⟩ = some (.int .i64 0) := (cell_of_row _ _ _ _ _ _ HF.out).trans rfl
  have c1 : W0.cell? ⟨w.heap.size, 1, none⟩ = some (.slice none 0 0) := (cell_of_row _ _ _ _ _ _ HF.out).trans rfl
  have f0 : W0.frozen? ⟨w.heap.size, 0, none⟩ = false := frozen_of_row _ _ _ _ _ HF.out
  have f1 : W0.frozen? ⟨w.heap.size, 1, none⟩ = false := frozen_of_row _ _ _ _ _ HF.out
  rcases m with _ | ⟨a, r⟩
  · have HP : Hid (parseP l pfc acfc = (8, 0, [])) := Lib.hid (by unfold parseP; rw [HH.out]; rfl)
    go_wp2_with fail
    exact bodyPost_ret (v := .tuple #[.agg #[.int .i64 0, .slice none 0 0], .int .i64 8]) (ret_ct (fn := Try.f23) (p := 6) (u := 7) rfl _ _ w.heap.size 24 #[.int .i64 0, .slice none 0 0] (0, 0) _ rfl (frame_set HF.out) Try.underlying24 rfl (by kernel_rfl)) rfl (parse_fin HP.out HB.out HF.out (Row.nil _ _ _ _) (by simp [Value.ownBlock]))
  obtain ⟨b1, o1, hA, d0⟩ := BytesAt.get HM.out (k := 0) (by simp)
  subst hA
  simp only [List.getElem_cons_zero, Nat.add_zero] at d0
  have hv := v8_range a
  have hw := IntWalk.i64_in (v8 a) (by omega)
  have hl0 : (0 : Int) < ((a :: r).length : Int) := by simp only [List.length_cons]; omega
  have hle : (((a :: r).length : Int) == 0) = false := by simp; omega
  have HC : Hid ((a :: r).length = r.length + 1) := Lib.hid (by simp)
  obtain ⟨m, hm⟩ : ∃ m, m = a :: r := ⟨_, rfl⟩
  rw [← hm] at HH HM HC hml q1 hl0 hle ⊢
  have HMM := Lib.hid hm
  clear hm
  go_upto_if 41 with fail
  go_cut [8, 9] (fun a b wx => Hid (Below W0.heap.size W0 wx) ∧ ∃ (n : Int) (z : Nat), a = .int .i64 n ∧ b = .int .i64 z ∧ Hid (numP pfc m = (0, n, z)) ∧ (z = 1 ∨ z = 2) ∧ z ≤ m.length)
  case first =>
    have t2 : (v8 a).tmod 2 = v8 a % 2 := Int.tmod_eq_emod_of_nonneg (by omega)
    by_cases ho : v8 a % 2 = 1
    · have z : (v8 a % 2 == 0) = false := by simp; omega
      cases pfc
      · have HP : Hid (parseP l false acfc = (3, 0, [])) := Lib.hid (by unfold parseP; rw [HH.out, HMM.out]; simp [numP, odd8, ho])
        go_wp2_with fail
        exact bodyPost_ret (v := .tuple #[.agg #[.int .i64 0, .slice none 0 0], .int .i64 3]) (ret_ct (fn := Try.f23) (p := 6) (u := 7) rfl _ _ w.heap.size 24 #[.int .i64 0, .slice none 0 0] (0, 0) _ rfl (frame_set HF.out) Try.underlying24 rfl (by kernel_rfl)) rfl (parse_fin HP.out HB.out HF.out (Row.nil _ _ _ _) (by simp [Value.ownBlock]))
      · have HN : Hid (numP true m = (0, v8 a, 1)) := Lib.hid (by rw [HMM.out]; simp [numP, odd8, ho])
        go_wp2_with fail
        go_meet
        exact ⟨Lib.hid (Below.refl _ _), _, 1, rfl, rfl, HN, .inl rfl, by have := HC.out; omega⟩
    · have z : (v8 a % 2 == 0) = true := by simp; omega
      rcases r with _ | ⟨b, r⟩
      · have HP : Hid (parseP l pfc acfc = (8, 0, [])) := Lib.hid (by unfold parseP; rw [HH.out, HMM.out]; simp [numP, odd8, ho])
        have hl2 : (m.length : Int) < 2 := by have := HC.out; simp at this; omega
        go_wp2_with fail
        exact bodyPost_ret (v := .tuple #[.agg #[.int .i64 0, .slice none 0 0], .int .i64 8]) (ret_ct (fn := Try.f23) (p := 6) (u := 7) rfl _ _ w.heap.size 24 #[.int .i64 0, .slice none 0 0] (0, 0) _ rfl (frame_set HF.out) Try.underlying24 rfl (by kernel_rfl)) rfl (parse_fin HP.out HB.out HF.out (Row.nil _ _ _ _) (by simp [Value.ownBlock]))
      · have hm2 : 2 ≤ m.length := by have := HC.out; simp at this; omega
        obtain ⟨b2, o2, hA2, d1⟩ := BytesAt.get HM.out (k := 1) (by omega)
        cases hA2
        have hg1 : m[1]'(by omega) = b := by
          have := HMM.out
          subst this
          rfl
        rw [hg1] at d1
        have HN : Hid (numP pfc m = (0, v8 a * 256 + v8 b, 2)) := Lib.hid (by rw [HMM.out]; simp [numP, odd8, ho])
        have hv2 := v8_range b
        have hw2 := IntWalk.i64_in (v8 b) (by omega)
        have hw3 := IntWalk.i64_in (256 * v8 a) (by omega)
        have hw5 : 256 * v8 a = v8 a * 256 := Int.mul_comm _ _
        have hw4 := IntWalk.i64_in (v8 a * 256 + v8 b) (by omega)
        have hw6 := IntWalk.i64_in (v8 a * 256) (by omega)
        have hl2 : ¬ (m.length : Int) < 2 := by omega
        have hl3 : (1 : Int) < (m.length : Int) := by omega
        clear hg1
        go_wp2_with fail
        go_meet
        exact ⟨Lib.hid (Below.refl _ _), _, 2, rfl, rfl, HN, .inr rfl, hm2⟩
  case rest =>
  obtain ⟨HB1, n, z, rfl, rfl, HN, hz, hzl⟩ := hcut
  clear c0 c1 f0 f1 d0
  have HB2 := Lib.hid (HB.out.trans (HB1.out.mono HB.out.size))
  have HF2 := Lib.hid ((HB1.out.block w.heap.size (Array.getElem?_eq_some_iff.1 HF.out).1).trans HF.out)
  have HM2 := Lib.hid (HM.out.below HB1.out)
  have hP := Lib.hid (fun W => proto39 n W)
  have c0 : wc.cell? ⟨w.heap.size, 0, none⟩ = some (.int .i64 0) := (cell_of_row _ _ _ _ _ _ HF2.out).trans rfl
  have c1 : wc.cell? ⟨w.heap.size, 1, none⟩ = some (.slice none 0 0) := (cell_of_row _ _ _ _ _ _ HF2.out).trans rfl
  have f0 : wc.frozen? ⟨w.heap.size, 0, none⟩ = false := frozen_of_row _ _ _ _ _ HF2.out
  have f1 : wc.frozen? ⟨w.heap.size, 1, none⟩ = false := frozen_of_row _ _ _ _ _ HF2.out
  cases hpb : protoB n
  · rw [hpb] at hP
    have HP : Hid (parseP l pfc acfc = (30, 0, [])) := Lib.hid (by unfold parseP; rw [HH.out]; simp [HN.out, hpb])
    clear hpb
    go_wp2_with fail
    refine (hP.out _).mono ?_
    rintro e w1 ⟨rfl, rfl⟩
    go_wp2_with fail
    exact bodyPost_ret (v := .tuple #[.agg #[.int .i64 0, .slice none 0 0], .int .i64 30]) (ret_ct (fn := Try.f23) (p := 6) (u := 7) rfl _ _ w.heap.size 24 #[.int .i64 0, .slice none 0 0] (0, 0) _ rfl (frame_set HF2.out) Try.underlying24 rfl (by kernel_rfl)) rfl (parse_fin HP.out HB2.out HF2.out (Row.nil _ _ _ _) (by simp [Value.ownBlock]))
  · rw [hpb] at hP
    have HPB := Lib.hid hpb
    clear hpb
    have i0 : (0 : Int) ≤ (z : Int) := by omega
    have i1 : (z : Int) ≤ (m.length : Int) := by omega
    have i3 : (m.length : Int) ≤ (cp' : Int) := by omega
    by_cases hc : cp' = z
    · subst hc
      have hll : m.length = cp' := by omega
      have HT := Lib.hid (BytesAt.tail HM2.out cp' hzl o1 0 (fun hh => by omega) (by omega) (by unfold maxLen; omega))
      have HP : Hid (parseP l pfc acfc = (0, n, m.drop cp')) := Lib.hid (by unfold parseP; rw [HH.out]; simp [HN.out, HPB.out])
      have hlr : (m.drop cp').length = m.length - cp' := List.length_drop
      have h00 : m.length - cp' = 0 := by omega
      rw [h00] at hlr HT
      have HLR := Lib.hid hlr
      have hb3 : Below wc.heap.size wc (wc.alloc (.cells #[.int .i64 n, .slice none 0 0] 24)) := (Below.refl _ wc).alloc (Nat.le_refl _) _
      have hk3 := heap_alloc_new wc (.cells #[.int .i64 n, .slice none 0 0] 24)
      have hgs : w.heap.size < wc.heap.size := (Array.getElem?_eq_some_iff.1 HF2.out).1
      have HF3 := Lib.hid ((hb3.block w.heap.size hgs).trans HF2.out)
      have HB3 := Lib.hid (HB2.out.trans (hb3.mono HB2.out.size))
      have hsrc := Lib.hid (src_drew (HT.out.below hb3).src)
      rw [hlr] at hsrc
      clear hlr c0 c1 f0 f1
      have HK3 := Lib.hid hk3
      clear hb3 hk3
      go_wp2_with fail
      refine (hP.out _).mono ?_
      rintro e w1 ⟨rfl, rfl⟩
      go_upto_region 19 with fail
      generalize wc.alloc (.cells #[.int .i64 n, .slice none 0 0] 24) = W1 at *
      have c1 : W1.cell? ⟨wc.heap.size, 1, none⟩ = some (.slice none 0 0) := (cell_of_row _ _ _ _ _ _ HK3.out).trans rfl
      have f1 : W1.frozen? ⟨wc.heap.size, 1, none⟩ = false := frozen_of_row _ _ _ _ _ HK3.out
      have hws := Lib.hid HB3.out.size
      have hrow := Lib.hid (Row.nil W1.drew w.heap.size 5 1)
      have s1 : 0 + 0 ≤ maxLen := by unfold maxLen; omega
      have s2 : (0 + 0) * 1 ≤ 140737488355328 := by omega
      clear hP HM2
      generalize hS : wc.heap.size = S at *
      generalize hG : w.heap.size = G at *
      go_region_law ((refine step_row elB (by rfl) _ _ (by rfl) G _ 0 _ (by rfl) hrow.out _ _ _ (by rfl) hsrc.out s1 s2 hws.out ?_; intro v4 w4 hr4; rw [Nat.zero_add] at hr4; obtain ⟨A4, c4, rfl, -, -⟩ := Row.slice hr4.row; have H4 := Lib.hid hr4; have hg4 := Lib.hid ((hr4.grow.block S (Array.getElem?_eq_some_iff.1 HK3.out).1 (by simp [Value.ownBlock])).trans HK3.out); have e1 : w4.cell? ⟨S, 1, none⟩ = some (.slice none 0 0) := (cell_of_row _ _ _ _ _ _ hg4.out).trans rfl; have g1 : w4.frozen? ⟨S, 1, none⟩ = false := frozen_of_row _ _ _ _ _ hg4.out))
      all_goals have HFF := Lib.hid (p23_fin (W1' := W1.drew) hS hG hgs HP.out HB3.out HK3.out HF3.out ⟨rfl, rfl, rfl, rfl⟩ H4.out HLR.out.symm (by simp))
      all_goals have e0 : w4.cell? ⟨S, 0, none⟩ = some (.int .i64 n) := (cell_of_row _ _ _ _ _ _ hg4.out).trans rfl
      all_goals have b0 := HFF.out.2
      all_goals have x0 := cell_of_row _ _ 0 _ _ _ b0
      all_goals have x1 := cell_of_row _ _ 1 _ _ _ b0
      all_goals have y0 := frozen_of_row _ _ 0 _ _ b0
      all_goals have y1 := frozen_of_row _ _ 1 _ _ b0
      all_goals clear b0
      all_goals go_wp2_with fail
      all_goals exact bodyPost_ret (v := .tuple #[.agg #[.int .i64 n, .slice A4 (0) c4], .int .i64 0]) (ret_ct (fn := Try.f23) (p := 6) (u := 7) rfl _ _ G 24 #[.int .i64 n, .slice A4 (0) c4] (0, 0) _ rfl (frame_set HFF.out.2) Try.underlying24 rfl (by kernel_rfl)) rfl HFF.out.1
    · have hc2 : ¬ (z : Int) = (cp' : Int) := by omega
      have HT := Lib.hid (BytesAt.tail HM2.out z hzl (o1 + z) (cp' - z) (fun hh => rfl) (by omega) (by unfold maxLen; omega))
      have HP : Hid (parseP l pfc acfc = (0, n, m.drop z)) := Lib.hid (by unfold parseP; rw [HH.out]; simp [HN.out, HPB.out])
      have hlr : (m.drop z).length = m.length - z := List.length_drop
      have HLR := Lib.hid hlr
      have hb3 : Below wc.heap.size wc (wc.alloc (.cells #[.int .i64 n, .slice none 0 0] 24)) := (Below.refl _ wc).alloc (Nat.le_refl _) _
      have hk3 := heap_alloc_new wc (.cells #[.int .i64 n, .slice none 0 0] 24)
      have hgs : w.heap.size < wc.heap.size := (Array.getElem?_eq_some_iff.1 HF2.out).1
      have HF3 := Lib.hid ((hb3.block w.heap.size hgs).trans HF2.out)
      have HB3 := Lib.hid (HB2.out.trans (hb3.mono HB2.out.size))
      have hsrc := Lib.hid (src_drew (HT.out.below hb3).src)
      rw [hlr] at hsrc
      clear hlr c0 c1 f0 f1
      have HK3 := Lib.hid hk3
      clear hb3 hk3
      go_wp2_with fail
      refine (hP.out _).mono ?_
      rintro e w1 ⟨rfl, rfl⟩
      go_upto_region 19 with fail
      generalize wc.alloc (.cells #[.int .i64 n, .slice none 0 0] 24) = W1 at *
      have c1 : W1.cell? ⟨wc.heap.size, 1, none⟩ = some (.slice none 0 0) := (cell_of_row _ _ _ _ _ _ HK3.out).trans rfl
      have f1 : W1.frozen? ⟨wc.heap.size, 1, none⟩ = false := frozen_of_row _ _ _ _ _ HK3.out
      have hws := Lib.hid HB3.out.size
      have hrow := Lib.hid (Row.nil W1.drew w.heap.size 5 1)
      have s1 : 0 + (m.length - z) ≤ maxLen := by unfold maxLen; omega
      have s2 : (0 + (m.length - z)) * 1 ≤ 140737488355328 := by omega
      clear hP HM2
      generalize hS : wc.heap.size = S at *
      generalize hG : w.heap.size = G at *
      go_region_law ((refine step_row elB (by rfl) _ _ (by rfl) G _ 0 _ (by rfl) hrow.out _ _ _ (by rfl) hsrc.out s1 s2 hws.out ?_; intro v4 w4 hr4; rw [Nat.zero_add] at hr4; obtain ⟨A4, c4, rfl, -, -⟩ := Row.slice hr4.row; have H4 := Lib.hid hr4; have hg4 := Lib.hid ((hr4.grow.block S (Array.getElem?_eq_some_iff.1 HK3.out).1 (by simp [Value.ownBlock])).trans HK3.out); have e1 : w4.cell? ⟨S, 1, none⟩ = some (.slice none 0 0) := (cell_of_row _ _ _ _ _ _ hg4.out).trans rfl; have g1 : w4.frozen? ⟨S, 1, none⟩ = false := frozen_of_row _ _ _ _ _ hg4.out))
      all_goals have HFF := Lib.hid (p23_fin (W1' := W1.drew) hS hG hgs HP.out HB3.out HK3.out HF3.out ⟨rfl, rfl, rfl, rfl⟩ H4.out HLR.out.symm (by simp))
      all_goals have e0 : w4.cell? ⟨S, 0, none⟩ = some (.int .i64 n) := (cell_of_row _ _ _ _ _ _ hg4.out).trans rfl
      all_goals have b0 := HFF.out.2
      all_goals have x0 := cell_of_row _ _ 0 _ _ _ b0
      all_goals have x1 := cell_of_row _ _ 1 _ _ _ b0
      all_goals have y0 := frozen_of_row _ _ 0 _ _ b0
      all_goals have y1 := frozen_of_row _ _ 1 _ _ b0
      all_goals clear b0
      all_goals go_wp2_with fail
      all_goals exact bodyPost_ret (v := .tuple #[.agg #[.int .i64 n, .slice A4 ((m.length - z)) c4], .int .i64 0]) (ret_ct (fn := Try.f23) (p := 6) (u := 7) rfl _ _ G 24 #[.int .i64 n, .slice A4 ((m.length - z)) c4] (0, 0) _ rfl (frame_set HFF.out.2) Try.underlying24 rfl (by kernel_rfl)) rfl HFF.out.1
end Go.Proofs.Ytedhldcoddbbdaa.F
