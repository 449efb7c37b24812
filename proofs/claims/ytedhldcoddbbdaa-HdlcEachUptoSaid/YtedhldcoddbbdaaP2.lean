import Derived.Test.YtedhldcoddbbdaaP1
import Derived.Deep.CutBlock
set_option linter.unusedVariables false
set_option linter.unusedSimpArgs false
set_option linter.unnecessarySimpa false
namespace Go.Proofs.Ytedhldcoddbbdaa.F
open Go.RowKit Go.Proofs.Ytedhldcoddbbdaa.K
def ParseR (l : List (BitVec 8)) (pfc acfc : Bool) (w : World) (e : Ending) (w' : World) : Prop := ∃ u, e = .returned (.tuple #[.agg #[.int .i64 (parseP l pfc acfc).2.1, u], .int .i64 (parseP l pfc acfc).1]) ∧ Row w' w.heap.size 5 1 u (parseP l pfc acfc).2.2.length ((parseP l pfc acfc).2.2.map b8) ∧ Below w.heap.size w w'
theorem v8_ne {a b : BitVec 8} (h : a ≠ b) : (v8 a == v8 b) = false := by
  have : v8 a ≠ v8 b := fun e => h (v8_inj e)
  simpa using this
theorem ret_ct {P : Program} {fn : Func} {p u : Tmp} {ty : TypeId} (h : fn.results = #[.cell p ty, .tmp u]) (tmps : Array Value) (w : World) (g : Nat) (t : TypeId) (cs : Array Value) (fr : Nat × Nat) (d : TypeDesc)
    (hp : tmps.getD p undef = .pointer (some ⟨g, 0, none⟩)) (hg : w.heap[g]? = some (.cells cs t fr))
    (hu : P.underlying ty = some d) (hd : (match d with | .struct _ | .array _ _ => true | _ => false) = true) (hi : (P.info? ty).map (·.size) = some cs.size) :
    (results fn tmps).run P w = .ok (.tuple #[.agg cs, tmps.getD u undef]) w := by
  have hp' : tmps[p]?.getD undef = .pointer (some ⟨g, 0, none⟩) := by simpa using hp
  simp [results, h, hp', asAddr, run_loadVar_row w g t ty cs fr d hg hu hd hi]
/-- the box of a frame's result, written anew -/
theorem frame_set {w : World} {g : Nat} {a b c d : Value} (h : w.heap[g]? = some (.cells #[a, b] 24 (0, 0))) : ((w.setCell ⟨g, 0, none⟩ c).setCell ⟨g, 1, none⟩ d).heap[g]? = some (.cells #[c, d] 24 (0, 0)) := by
  have h1 := heap_setCell_same _ _ 0 _ _ c h
  have h2 := heap_setCell_same _ _ 1 _ _ d h1
  exact h2
theorem parse_fin {l : List (BitVec 8)} {pfc acfc : Bool} {w W0 : World} {er n : Int} {rest : List (BitVec 8)} {a b u : Value} (hp : parseP l pfc acfc = (er, n, rest)) (hb : Below w.heap.size w W0) (hf : W0.heap[w.heap.size]? = some (.cells #[a, b] 24 (0, 0))) (hr : Row W0 w.heap.size 5 1 u rest.length (rest.map b8)) (hne : u.ownBlock ≠ some w.heap.size) : ParseR l pfc acfc w (.returned (.tuple #[.agg #[.int .i64 n, u], .int .i64 er])) ((W0.setCell ⟨w.heap.size, 0, none⟩ (.int .i64 n)).setCell ⟨w.heap.size, 1, none⟩ u) := by
  refine ⟨u, by rw [hp], ?_, ?_⟩
  · rw [hp]
    have hset : W0.grownBy ((W0.setCell ⟨w.heap.size, 0, none⟩ (.int .i64 n)).setCell ⟨w.heap.size, 1, none⟩ u) (some w.heap.size) := ⟨rfl, rfl, rfl, by simp [World.setCell], fun k _ hk => (heap_setCell_other _ _ _ _ (fun e => hk (by simp [e]))).trans (heap_setCell_other _ _ _ _ (fun e => hk (by simp [e])))⟩
    exact hr.kept hset (fun k hk e => hne (by rw [hk, ← e]))
  · exact (hb.setCell (p := ⟨w.heap.size, 0, none⟩) (Nat.le_refl _) _).setCell (p := ⟨w.heap.size, 1, none⟩) (Nat.le_refl _) _
set_option maxHeartbeats 4000000 in
set_option maxRecDepth 100000 in
theorem parse22 (l : List (BitVec 8)) (pfc acfc : Bool) (v : Value) (w : World) (h : BytesAt w v l) (hl : l.length ≤ 140737488351232) : Calls Try.prog 22 #[v, .bool pfc, .bool acfc] w (ParseR l pfc acfc w) := by
  have HI := Lib.hid h
  obtain ⟨A, cap, rfl, k1, k2, -, -⟩ := h.at_
  unfold maxLen at k2
  clear h
  have hb : Below w.heap.size w (w.alloc (.cells #[.int .i64 0, .slice none 0 0] 24)) := (Below.refl _ w).alloc (Nat.le_refl _) _
  have HB := Lib.hid hb
  have HI0 := Lib.hid (HI.out.below hb)
  have HF := Lib.hid (heap_alloc_new w (.cells #[.int .i64 0, .slice none 0 0] 24))
  clear hb
  go_enter Try.func22, Try.ntmps22
  go_upto_region 1 with fail
  generalize w.alloc (.cells #[.int .i64 0, .slice none 0 0] 24) = W0 at *
  go_cut [24] (fun s wx => s = .bool (strip l).isSome ∧ W0 = wx)
  case first =>
    rcases l with _ | ⟨a, _ | ⟨b, r⟩⟩
    · go_wp2_with fail
      go_meet
      exact ⟨rfl, rfl⟩
    · go_wp2_with fail
      go_meet
      exact ⟨rfl, rfl⟩
    · obtain ⟨b1, o1, hA, d0⟩ := BytesAt.get HI0.out (k := 0) (by simp)
      obtain ⟨b2, o2, hA2, d1⟩ := BytesAt.get HI0.out (k := 1) (by simp)
      subst hA
      cases hA2
      simp only [List.getElem_cons_zero, List.getElem_cons_succ, Nat.add_zero] at d0 d1
      have hl2 : (2 : Int) ≤ ((a :: b :: r).length : Int) := by simp only [List.length_cons]; omega
      have hl0 : (0 : Int) < ((a :: b :: r).length : Int) := by omega
      have hl1 : (1 : Int) < ((a :: b :: r).length : Int) := by omega
      generalize (a :: b :: r).length = L at *
      by_cases ha : a = 255#8
      · by_cases hb : b = 3#8
        · have HS : Hid ((strip (a :: b :: r)).isSome = true) := Lib.hid (by simp [strip, ha, hb])
          subst ha hb
          go_wp2_with fail
          go_meet
          exact ⟨by rw [HS.out]; rfl, rfl⟩
        · have HS : Hid ((strip (a :: b :: r)).isSome = false) := Lib.hid (by simp [strip, hb])
          have z : (v8 b == 3) = false := v8_ne (b := 3#8) hb
          subst ha
          go_wp2_with fail
          go_meet
          exact ⟨by rw [HS.out], rfl⟩
      · have HS : Hid ((strip (a :: b :: r)).isSome = false) := Lib.hid (by simp [strip, ha])
        have z : (v8 a == 255) = false := v8_ne (b := 255#8) ha
        go_wp2_with fail
        go_meet
        exact ⟨by rw [HS.out], rfl⟩
  case rest =>
  obtain ⟨rfl, rfl⟩ := hcut
  go_upto_if 24 with fail
  go_cut [0] (fun v wx => W0 = wx ∧ ∃ (m : List (BitVec 8)), Hid (headP acfc l = some m) ∧ Hid (BytesAt W0 v m) ∧ m.length ≤ 140737488351232)
  case first =>
    cases hs : strip l with
    | none =>
      cases acfc
      · have HP : Hid (parseP l pfc false = (3, 0, [])) := Lib.hid (by unfold parseP headP; rw [hs]; rfl)
        have c0 : W0.cell? ⟨w.heap.size, 0, none⟩ = some (.int .i64 0) := (cell_of_row _ _ _ _ _ _ HF.out).trans rfl
        have c1 : W0.cell? ⟨w.heap.size, 1, none⟩ = some (.slice none 0 0) := (cell_of_row _ _ _ _ _ _ HF.out).trans rfl
        have f0 : W0.frozen? ⟨w.heap.size, 0, none⟩ = false := frozen_of_row _ _ _ _ _ HF.out
        have f1 : W0.frozen? ⟨w.heap.size, 1, none⟩ = false := frozen_of_row _ _ _ _ _ HF.out
        clear hs
        go_wp2_with fail
        exact bodyPost_ret (v := .tuple #[.agg #[.int .i64 0, .slice none 0 0], .int .i64 3]) (ret_ct (fn := Try.f22) (p := 6) (u := 7) rfl _ _ w.heap.size 24 #[.int .i64 0, .slice none 0 0] (0, 0) _ rfl (frame_set HF.out) Try.underlying24 rfl (by kernel_rfl)) rfl (parse_fin HP.out HB.out HF.out (Row.nil _ _ _ _) (by simp [Value.ownBlock]))
      · have HP : Hid (headP true l = some l) := Lib.hid (by unfold headP; rw [hs]; rfl)
        clear hs
        go_wp2_with fail
        go_meet
        exact ⟨rfl, l, HP, HI0, hl⟩
    | some r =>
      have HP : Hid (headP acfc l = some r) := Lib.hid (by unfold headP; rw [hs])
      have hd : l.drop 2 = r ∧ 2 ≤ l.length := by
        rcases l with _ | ⟨a, _ | ⟨b, r'⟩⟩
        · simp [strip] at hs
        · simp [strip] at hs
        · simp only [strip] at hs
          split at hs
          · simp only [Option.some.injEq] at hs
            exact ⟨hs, by simp⟩
          · simp at hs
      obtain ⟨hd1, hd2⟩ := hd
      obtain ⟨b1, o1, hA, -⟩ := BytesAt.get HI0.out (k := 0) (by omega)
      subst hA
      have i2 : (2 : Int) ≤ (l.length : Int) := by omega
      have i3 : (l.length : Int) ≤ (cap : Int) := by omega
      have hlr : r.length = l.length - 2 := by rw [← hd1, List.length_drop]
      have HD := Lib.hid hd1
      have HLR := Lib.hid hlr
      clear hs hd1 hlr
      by_cases hc : cap = 2
      · subst hc
        have hll : l.length = 2 := by omega
        have HT := Lib.hid (BytesAt.tail HI0.out 2 hd2 o1 0 (fun hh => by omega) (by omega) (by unfold maxLen; omega))
        rw [hll] at HT
        go_wp2_with fail
        go_meet
        exact ⟨rfl, r, HP, Lib.hid (by rw [← HD.out]; exact HT.out), by have := HLR.out; omega⟩
      · have HT := Lib.hid (BytesAt.tail HI0.out 2 hd2 (o1 + 2) (cap - 2) (fun hh => rfl) (by omega) (by unfold maxLen; omega))
        have hc2 : ¬ (2 : Int) = (cap : Int) := by omega
        go_wp2_with fail
        go_meet
        exact ⟨rfl, r, HP, Lib.hid (by rw [← HD.out]; exact HT.out), by have := HLR.out; omega⟩
  case rest =>
  obtain ⟨rfl, m, HH, HM, hml⟩ := hcut
  obtain ⟨A', cp', e0, q1, q2, -, -⟩ := HM.out.at_
  subst e0
  unfold maxLen at q2
  go_upto_block 0 with fail
  have c0 : W0.cell? ⟨w.heap.size, 0, none⟩ = some (.int .i64 0) := (cell_of_row _ _ _ _ _ _ HF.out).trans rfl
  have c1 : W0.cell? ⟨w.heap.size, 1, none⟩ = some (.slice none 0 0) := (cell_of_row _ _ _ _ _ _ HF.out).trans rfl
  have f0 : W0.frozen? ⟨w.heap.size, 0, none⟩ = false := frozen_of_row _ _ _ _ _ HF.out
  have f1 : W0.frozen? ⟨w.heap.size, 1, none⟩ = false := frozen_of_row _ _ _ _ _ HF.out
  go_cut [8, 9] (fun a b wx => Hid (Below W0.heap.size W0 wx) ∧ ∃ (n : Int) (z : Nat), a = .int .i64 n ∧ b = .int .i64 z ∧ Hid (numP pfc m = (0, n, z)) ∧ (z = 1 ∨ z = 2) ∧ z ≤ m.length)
  case first =>
    rcases m with _ | ⟨a, r⟩
    · have HP : Hid (parseP l pfc acfc = (8, 0, [])) := Lib.hid (by unfold parseP; rw [HH.out]; rfl)
      go_wp2_with fail
      exact bodyPost_ret (v := .tuple #[.agg #[.int .i64 0, .slice none 0 0], .int .i64 8]) (ret_ct (fn := Try.f22) (p := 6) (u := 7) rfl _ _ w.heap.size 24 #[.int .i64 0, .slice none 0 0] (0, 0) _ rfl (frame_set HF.out) Try.underlying24 rfl (by kernel_rfl)) rfl (parse_fin HP.out HB.out HF.out (Row.nil _ _ _ _) (by simp [Value.ownBlock]))
    · obtain ⟨b1, o1, hA, d0⟩ := BytesAt.get HM.out (k := 0) (by simp)
      subst hA
      simp only [List.getElem_cons_zero, Nat.add_zero] at d0
      have a8 := and8 a
      have hl0 : (0 : Int) < ((a :: r).length : Int) := by simp only [List.length_cons]; omega
      have hl1 : (1 : Int) ≤ ((a :: r).length : Int) := by omega
      by_cases ho : v8 a % 2 = 1
      · have z : (v8 a % 2 == 1) = true := by simpa using ho
        cases pfc
        · have HP : Hid (parseP l false acfc = (3, 0, [])) := Lib.hid (by unfold parseP; rw [HH.out]; simp [numP, odd8, ho])
          have hlen := Lib.hid (rfl : (a :: r).length = (a :: r).length)
          generalize (a :: r).length = L at *
          go_wp2_with fail
          exact bodyPost_ret (v := .tuple #[.agg #[.int .i64 0, .slice none 0 0], .int .i64 3]) (ret_ct (fn := Try.f22) (p := 6) (u := 7) rfl _ _ w.heap.size 24 #[.int .i64 0, .slice none 0 0] (0, 0) _ rfl (frame_set HF.out) Try.underlying24 rfl (by kernel_rfl)) rfl (parse_fin HP.out HB.out HF.out (Row.nil _ _ _ _) (by simp [Value.ownBlock]))
        · have HN : Hid (numP true (a :: r) = (0, v8 a, 1)) := Lib.hid (by simp [numP, odd8, ho])
          have hv := v8_range a
          have hw := IntWalk.i64_in (v8 a) (by omega)
          have hll : 1 ≤ (a :: r).length := by simp
          generalize (a :: r).length = L at *
          go_wp2_with fail
          go_meet
          exact ⟨Lib.hid (Below.refl _ _), _, 1, rfl, rfl, HN, .inl rfl, hll⟩
      · have z : (v8 a % 2 == 1) = false := by simpa using ho
        rcases r with _ | ⟨b, r⟩
        · have HP : Hid (parseP l pfc acfc = (8, 0, [])) := Lib.hid (by unfold parseP; rw [HH.out]; simp [numP, odd8, ho])
          go_wp2_with fail
          exact bodyPost_ret (v := .tuple #[.agg #[.int .i64 0, .slice none 0 0], .int .i64 8]) (ret_ct (fn := Try.f22) (p := 6) (u := 7) rfl _ _ w.heap.size 24 #[.int .i64 0, .slice none 0 0] (0, 0) _ rfl (frame_set HF.out) Try.underlying24 rfl (by kernel_rfl)) rfl (parse_fin HP.out HB.out HF.out (Row.nil _ _ _ _) (by simp [Value.ownBlock]))
        · obtain ⟨b2, o2, hA2, d1⟩ := BytesAt.get HM.out (k := 1) (by simp)
          cases hA2
          simp only [List.getElem_cons_succ, List.getElem_cons_zero] at d1
          have HN : Hid (numP pfc (a :: b :: r) = (0, v8 a * 256 + v8 b, 2)) := Lib.hid (by simp [numP, odd8, ho])
          have hv := v8_range a
          have hv2 := v8_range b
          have hw := IntWalk.i64_in (v8 a) (by omega)
          have hw2 := IntWalk.i64_in (v8 b) (by omega)
          have hw3 := IntWalk.i64_in (v8 a * 256) (by omega)
          have ho2 := or_add a b
          have hll : 2 ≤ (a :: b :: r).length := by simp
          have hl2 : ¬ ((a :: b :: r).length : Int) < 2 := by omega
          have hl3 : (1 : Int) < ((a :: b :: r).length : Int) := by omega
          generalize (a :: b :: r).length = L at *
          go_upto_region 6 with fail
          go_quiet (fail)
          go_wp2_with fail
          go_meet
          exact ⟨Lib.hid (Go.below_drewN (Below.refl _ _) _), _, 2, rfl, rfl, HN, .inr rfl, hll⟩
  case rest =>
  obtain ⟨HB1, n, z, rfl, rfl, HN, hz, hzl⟩ := hcut
  clear c0 c1 f0 f1
  have HB2 := Lib.hid (HB.out.trans (HB1.out.mono HB.out.size))
  have HF2 := Lib.hid ((HB1.out.block w.heap.size (Array.getElem?_eq_some_iff.1 HF.out).1).trans HF.out)
  have HM2 := Lib.hid (HM.out.below HB1.out)
  have hP := Lib.hid (fun W => proto36 n W)
  have c0 : wc.cell? ⟨w.heap.size, 0, none⟩ = some (.int .i64 0) := (cell_of_row _ _ _ _ _ _ HF2.out).trans rfl
  have c1 : wc.cell? ⟨w.heap.size, 1, none⟩ = some (.slice none 0 0) := (cell_of_row _ _ _ _ _ _ HF2.out).trans rfl
  have f0 : wc.frozen? ⟨w.heap.size, 0, none⟩ = false := frozen_of_row _ _ _ _ _ HF2.out
  have f1 : wc.frozen? ⟨w.heap.size, 1, none⟩ = false := frozen_of_row _ _ _ _ _ HF2.out
  cases hpb : protoB n
  · rw [hpb] at hP
    have HP : Hid (parseP l pfc acfc = (30, 0, [])) := Lib.hid (by unfold parseP; rw [HH.out]; simp [HN.out, hpb])
    clear hpb
    go_wp2_with fail
    refine (hP.out _).mono ?_
    rintro e w1 ⟨rfl, rfl⟩
    go_wp2_with fail
    exact bodyPost_ret (v := .tuple #[.agg #[.int .i64 0, .slice none 0 0], .int .i64 30]) (ret_ct (fn := Try.f22) (p := 6) (u := 7) rfl _ _ w.heap.size 24 #[.int .i64 0, .slice none 0 0] (0, 0) _ rfl (frame_set HF2.out) Try.underlying24 rfl (by kernel_rfl)) rfl (parse_fin HP.out HB2.out HF2.out (Row.nil _ _ _ _) (by simp [Value.ownBlock]))
  · rw [hpb] at hP
    have HPB := Lib.hid hpb
    clear hpb
    obtain ⟨b1, o1, hA, -⟩ := BytesAt.get HM2.out (k := 0) (by omega)
    subst hA
    have i0 : (0 : Int) ≤ (z : Int) := by omega
    have i1 : (z : Int) ≤ (m.length : Int) := by omega
    have i3 : (m.length : Int) ≤ (cp' : Int) := by omega
    go_wp2_with fail
    refine (hP.out _).mono ?_
    rintro e w1 ⟨rfl, rfl⟩
    by_cases hc : cp' = z
    · subst hc
      have hll : m.length = cp' := by omega
      have HT := Lib.hid (BytesAt.tail HM2.out cp' hzl o1 0 (fun hh => by omega) (by omega) (by unfold maxLen; omega))
      have HP : Hid (parseP l pfc acfc = (0, n, m.drop cp')) := Lib.hid (by unfold parseP; rw [HH.out]; simp [HN.out, HPB.out])
      have hsrc := Lib.hid (HT.out.src)
      have hlr : (m.drop cp').length = m.length - cp' := List.length_drop
      have h00 : m.length - cp' = 0 := by omega
      rw [hlr, h00] at hsrc
      rw [h00] at hlr
      have s1 : 0 + 0 ≤ maxLen := by unfold maxLen; omega
      have s2 : (0 + 0) * 1 ≤ 140737488355328 := by omega
      have hws := HB2.out.size
      have HR0 := Lib.hid (Row.nil wc w.heap.size 5 1)
      have HLR := Lib.hid hlr
      clear hlr
      go_upto_region 15 with fail
      go_wp2_with (at_builtin; refine wpList_row elB rfl _ _ rfl w.heap.size _ 0 [] rfl HR0.out _ _ _ rfl hsrc.out s1 s2 hws ?_)
      intro v4 w4 hr4
      have HB4 := Lib.hid (row_more HB2.out (Below.refl _ _) HR0.out hr4)
      have H4 := Lib.hid hr4.row
      have hgl := Lib.hid ((hr4.grow.block w.heap.size (Array.getElem?_eq_some_iff.1 HF2.out).1 (by simp [Value.ownBlock])).trans HF2.out)
      have HNE : Hid (v4.ownBlock ≠ some w.heap.size) := Lib.hid (fun e => by
        rcases hr4.own _ e with q | q
        · simp [Value.ownBlock] at q
        · have := (Array.getElem?_eq_some_iff.1 HF2.out).1; omega)
      obtain ⟨A4, c4, rfl, -, -⟩ := Row.slice hr4.row
      have e0 : w4.cell? ⟨w.heap.size, 0, none⟩ = some (.int .i64 0) := (cell_of_row _ _ _ _ _ _ hgl.out).trans rfl
      have e1 : w4.cell? ⟨w.heap.size, 1, none⟩ = some (.slice none 0 0) := (cell_of_row _ _ _ _ _ _ hgl.out).trans rfl
      have g0 : w4.frozen? ⟨w.heap.size, 0, none⟩ = false := frozen_of_row _ _ _ _ _ hgl.out
      have g1 : w4.frozen? ⟨w.heap.size, 1, none⟩ = false := frozen_of_row _ _ _ _ _ hgl.out
      clear hr4 c0 c1 f0 f1
      go_wp2_with fail
      exact bodyPost_ret (v := .tuple #[.agg #[.int .i64 n, .slice A4 (0) c4], .int .i64 0]) (ret_ct (fn := Try.f22) (p := 6) (u := 7) rfl _ _ w.heap.size 24 #[.int .i64 n, .slice A4 (0) c4] (0, 0) _ rfl (frame_set hgl.out) Try.underlying24 rfl (by kernel_rfl)) rfl (parse_fin HP.out HB4.out hgl.out (by have h9 := H4.out; rw [HLR.out]; simpa using h9) HNE.out)
    · have HT := Lib.hid (BytesAt.tail HM2.out z hzl (o1 + z) (cp' - z) (fun hh => rfl) (by omega) (by unfold maxLen; omega))
      have hc2 : ¬ (z : Int) = (cp' : Int) := by omega
      have HP : Hid (parseP l pfc acfc = (0, n, m.drop z)) := Lib.hid (by unfold parseP; rw [HH.out]; simp [HN.out, HPB.out])
      have hsrc := Lib.hid (HT.out.src)
      have hlr : (m.drop z).length = m.length - z := List.length_drop
      rw [hlr] at hsrc
      have s1 : 0 + (m.length - z) ≤ maxLen := by unfold maxLen; omega
      have s2 : (0 + (m.length - z)) * 1 ≤ 140737488355328 := by omega
      have hws := HB2.out.size
      have HR0 := Lib.hid (Row.nil wc w.heap.size 5 1)
      have HLR := Lib.hid hlr
      clear hlr
      go_upto_region 15 with fail
      go_wp2_with (at_builtin; refine wpList_row elB rfl _ _ rfl w.heap.size _ 0 [] rfl HR0.out _ _ _ rfl hsrc.out s1 s2 hws ?_)
      intro v4 w4 hr4
      have HB4 := Lib.hid (row_more HB2.out (Below.refl _ _) HR0.out hr4)
      have H4 := Lib.hid hr4.row
      have hgl := Lib.hid ((hr4.grow.block w.heap.size (Array.getElem?_eq_some_iff.1 HF2.out).1 (by simp [Value.ownBlock])).trans HF2.out)
      have HNE : Hid (v4.ownBlock ≠ some w.heap.size) := Lib.hid (fun e => by
        rcases hr4.own _ e with q | q
        · simp [Value.ownBlock] at q
        · have := (Array.getElem?_eq_some_iff.1 HF2.out).1; omega)
      obtain ⟨A4, c4, rfl, -, -⟩ := Row.slice hr4.row
      have e0 : w4.cell? ⟨w.heap.size, 0, none⟩ = some (.int .i64 0) := (cell_of_row _ _ _ _ _ _ hgl.out).trans rfl
      have e1 : w4.cell? ⟨w.heap.size, 1, none⟩ = some (.slice none 0 0) := (cell_of_row _ _ _ _ _ _ hgl.out).trans rfl
      have g0 : w4.frozen? ⟨w.heap.size, 0, none⟩ = false := frozen_of_row _ _ _ _ _ hgl.out
      have g1 : w4.frozen? ⟨w.heap.size, 1, none⟩ = false := frozen_of_row _ _ _ _ _ hgl.out
      clear hr4 c0 c1 f0 f1
      go_wp2_with fail
      exact bodyPost_ret (v := .tuple #[.agg #[.int .i64 n, .slice A4 (m.length - z) c4], .int .i64 0]) (ret_ct (fn := Try.f22) (p := 6) (u := 7) rfl _ _ w.heap.size 24 #[.int .i64 n, .slice A4 (m.length - z) c4] (0, 0) _ rfl (frame_set hgl.out) Try.underlying24 rfl (by kernel_rfl)) rfl (parse_fin HP.out HB4.out hgl.out (by have h9 := H4.out; rw [HLR.out]; simpa using h9) HNE.out)
end Go.Proofs.Ytedhldcoddbbdaa.F
