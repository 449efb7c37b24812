import Derived.Test.YtjgndagejogfnaaP5
set_option linter.unusedVariables false
set_option linter.unusedSimpArgs false
namespace Go.Proofs.Ytjgndagejogfnaa.F
open Go.RowKit Go.Proofs.Ytjgndagejogfnaa.K
theorem timeout_len (a : St) : a.timeout.2.1.length ≤ 3 := by
  unfold St.timeout
  split
  · split
    · exact do_len a 4
    · exact do_len a 5
  · simp
set_option maxRecDepth 100000 in
set_option maxHeartbeats 8000000 in
theorem law_may (c t : Int) (l : List O) (v : Value) (w : World) (h : RecsAt w v 2 O.cells l) : Calls Try.prog 11 #[.int .i64 c, .int .i64 t, v] w fun e w' => e = .returned (.bool true) ∧ Below w.heap.size w w' := by
  have H := Lib.hid h
  obtain ⟨A, cap, rfl, k1, k2, k3, k4⟩ := h
  unfold maxLen at k2
  have K3 := Lib.hid k3
  clear k3 k4
  by_cases hc : can c t
  · have Hc := Lib.hid hc
    clear hc
    go_enter Try.func11, Try.ntmps11
    go_wp2_with fail
    refine (new28 c t _ Hc.out).mono ?_
    rintro e w1 ⟨rfl, hA, hB⟩
    have HA := Lib.hid hA
    clear hA
    go_wp2_with fail
    go_loopw [8, 9, 10, 11, 13, 22] (fun up _ _ _ _ i wr => ∃ (k : Nat) (a : St), k ≤ l.length ∧ i = .int .i64 k ∧ up = .bool (decide (a.st = 9)) ∧ a.ok ∧ Hid (AtP wr w.heap.size a) ∧ Below w.heap.size w wr) (fun _ _ _ _ _ i _ => l.length - (intOf i).toNat)
    case atStart => exact ⟨0, ⟨0, 0, c, t⟩, by omega, rfl, rfl, new_ok Hc.out, HA, hB⟩
    case round =>
      clear HA hB w1
      obtain ⟨k, a, hk, rfl, rfl, hok, HA, hB⟩ := hrel
      by_cases hkl : k < l.length
      · obtain ⟨A', cap', e, -, -, -, hc⟩ := (H.out.below hB).at_
        cases e
        obtain ⟨ad, rfl⟩ : ∃ ad, A = some ad := by
          cases A with
          | none => rw [K3.out rfl] at hkl; cases hkl
          | some ad => exact ⟨ad, rfl⟩
        obtain ⟨b, o, rfl, hlt, hc⟩ := hc ad rfl k hkl
        have c0 := hc 0 (.int .i64 l[k].k) rfl
        have c1 := hc 1 (.int .i64 l[k].ev) rfl
        clear hc
        simp only [Nat.add_zero] at c0
        generalize l[k] = op at c0 c1
        obtain ⟨ok, ev⟩ := op
        try simp only at c0 c1
        have hi0 : (0 : Int) ≤ (k : Int) := by omega
        have hia : (k : Int) < (l.length : Int) := by omega
        have hbx : Below wr.heap.size wr (wr.alloc (.cells #[.int .i64 ok, .int .i64 ev] 43)) := (Below.refl _ wr).alloc (Nat.le_refl _) _
        have B := below_then hB hbx
        have HA1 := Lib.hid (HA.out.below hbx)
        have hbox : (wr.alloc (.cells #[.int .i64 ok, .int .i64 ev] 43)).heap[wr.heap.size]? = some (.cells #[.int .i64 ok, .int .i64 ev] 43 (0, 0)) := heap_alloc_new wr _
        have HX := Lib.hid hbox
        have hwlt := HA.out.lt
        have HT := Lib.hid (fun W h => timeout29 w.heap.size a W h hok)
        have HD := Lib.hid (fun ev W h => do30 w.heap.size a ev W h hok)
        have hto := timeout_ok hok
        have hdo := do_ok hok ev
        have hmt := may_timeout a ev
        have hmd := fun (hk : ok ≠ 1) => may_do a ev ok ev (.inl hk) (fun _ => rfl)
        have hlt1 := timeout_len a
        have hlt2 := do_len a ev
        clear hbx hbox
        by_cases hk1000 : k < 1000
        · have hd : decide ((1000 : Int) ≤ (k : Int)) = false := by simp; omega
          go_upto_if 31 with fail
          go_cut [11] from 31 to 43 (fun v wx => ∃ (a' : St) (L : List Int) (A2 : Option Addr) (c2 : Nat), v = .slice A2 L.length c2 ∧ a'.ok ∧ Hid (May a.st a'.st L ok ev) ∧ L.length ≤ 3 ∧ Hid (Own wr.heap.size wx (.slice A2 L.length c2) L) ∧ Hid (AtP wx w.heap.size a') ∧ Hid (wx.heap[wr.heap.size]? = some (.cells #[.int .i64 ok, .int .i64 ev] 43 (0, 0))) ∧ Below w.heap.size w wx)
          case first =>
            by_cases ho : ok = 1
            · subst ho
              go_wp2_with fail
              refine (HT.out _ HA1.out).mono ?_
              intro e w2 hr
              obtain ⟨A2, c2, rfl, o2, h2, h3⟩ := hr.open
              have B2 := below_grown B h3 B.size (Nat.le_refl _)
              have H2 := Lib.hid h2
              have HX2 := Lib.hid ((h3.block wr.heap.size (by simp) (by simp; omega)).trans HX.out)
              have O2 := Lib.hid (o2.weak (B' := wr.heap.size) (by simp))
              have HM := Lib.hid hmt
              clear hr h2 h3 o2 hmt hmd HT HD
              generalize a.timeout = r at *
              go_wp2
              go_meet
              exact ⟨r.1, r.2.1, A2, c2, rfl, hto, HM, hlt1, O2, H2, HX2, B2⟩
            · have q1 : (ok == 1) = false := by simpa using ho
              have HM := Lib.hid (hmd ho)
              clear ho
              go_wp2_with fail
              refine (HD.out ev _ HA1.out).mono ?_
              intro e w2 hr
              obtain ⟨A2, c2, rfl, o2, h2, h3⟩ := hr.open
              have B2 := below_grown B h3 B.size (Nat.le_refl _)
              have H2 := Lib.hid h2
              have HX2 := Lib.hid ((h3.block wr.heap.size (by simp) (by simp; omega)).trans HX.out)
              have O2 := Lib.hid (o2.weak (B' := wr.heap.size) (by simp))
              clear hr h2 h3 o2 hmt hmd HT HD
              generalize a.do_ ev = r at *
              go_wp2
              go_meet
              exact ⟨r.1, r.2.1, A2, c2, rfl, hdo, HM, hlt2, O2, H2, HX2, B2⟩
          case rest =>
            clear HT HD hto hdo hmt hmd hlt1 hlt2 HX HA1 B
            obtain ⟨a', L, A2, c2, rfl, hok', HM, hL3, O2, HA', HX, hB2⟩ := hcut
            have d0 := (cell_of_row _ _ 0 _ _ _ HX.out).trans rfl
            have d1 := (cell_of_row _ _ 1 _ _ _ HX.out).trans rfl
            have HS := Lib.hid (state33 w.heap.size a' wc HA'.out)
            obtain ⟨A3, c3, eA, m1, m2, m3, m4⟩ := O2.out.ints
            cases eA
            unfold maxLen at m2
            have M3 := Lib.hid m3
            have M4 := Lib.hid m4
            clear m3 m4
            go_wp2_with fail
            go_loop [8, 13, 46] (fun up _ i => ∃ j : Nat, j ≤ L.length ∧ i = .int .i64 j ∧ up = .bool (upTo (decide (a.st = 9)) L j)) (fun _ _ i => L.length - (intOf i).toNat)
            case atStart => exact ⟨0, by omega, rfl, rfl⟩
            case round =>
              obtain ⟨j, hj, rfl, rfl⟩ := hrel
              by_cases hjl : j < L.length
              · obtain ⟨ad2, rfl⟩ := some_of M3.out hjl
                obtain ⟨b2, o2, rfl, cx⟩ := M4.out ad2 rfl j hjl
                obtain ⟨e1, e2, e7, e8, e9⟩ := HM.out.one j hjl
                have hs := upTo_succ (decide (a.st = 9)) L j hjl
                have hj0 : (0 : Int) ≤ (j : Int) := by omega
                have hj1 : (j : Int) < (L.length : Int) := by omega
                generalize L[j] = x at *
                generalize hu : upTo (decide (a.st = 9)) L j = u at *
                clear hu
                have hcase : x = 1 ∨ x = 2 ∨ x = 7 ∨ x = 8 ∨ x = 9 ∨ (x ≠ 1 ∧ x ≠ 2 ∧ x ≠ 7 ∧ x ≠ 8 ∧ x ≠ 9) := by omega
                rcases hcase with rfl | rfl | rfl | rfl | rfl | ⟨n1, n2, n7, n8, n9⟩
                · have eu := e1 rfl
                  subst eu
                  have Hs := Lib.hid (show upTo (decide (a.st = 9)) L (j + 1) = true from hs)
                  clear hs e1 e2 e7 e8 e9
                  go_wp2_with fail
                  go_round
                  case rel => exact ⟨j + 1, by omega, by go_num, by rw [Hs.out]⟩
                  case measure => simp [intOf]; omega
                · have eu := e2 rfl
                  subst eu
                  have Hs := Lib.hid (show upTo (decide (a.st = 9)) L (j + 1) = false from hs)
                  clear hs e1 e2 e7 e8 e9
                  go_wp2_with fail
                  go_round
                  case rel => exact ⟨j + 1, by omega, by go_num, by rw [Hs.out]⟩
                  case measure => simp [intOf]; omega
                · have Hs := Lib.hid (show upTo (decide (a.st = 9)) L (j + 1) = u from hs)
                  have e7' := e7 rfl
                  clear hs e1 e2 e7 e8 e9
                  rcases e7' with e7 | e7
                  · rw [e7] at HS
                    clear e7
                    go_wp2_with fail
                    refine HS.out.mono ?_
                    rintro e w2 ⟨rfl, rfl⟩
                    go_wp2_with fail
                    go_round
                    case rel => exact ⟨j + 1, by omega, by go_num, by rw [Hs.out]⟩
                    case measure => simp [intOf]; omega
                  · rw [e7] at HS
                    clear e7
                    go_wp2_with fail
                    refine HS.out.mono ?_
                    rintro e w2 ⟨rfl, rfl⟩
                    go_wp2_with fail
                    refine HS.out.mono ?_
                    rintro e w2 ⟨rfl, rfl⟩
                    go_wp2_with fail
                    go_round
                    case rel => exact ⟨j + 1, by omega, by go_num, by rw [Hs.out]⟩
                    case measure => simp [intOf]; omega
                · have Hs := Lib.hid (show upTo (decide (a.st = 9)) L (j + 1) = u from hs)
                  obtain ⟨z1, z2⟩ := e8 rfl
                  subst z2
                  have q1 : (ok == 1) = false := by simpa using z1
                  clear hs e1 e2 e7 e8 e9 z1
                  go_wp2_with fail
                  go_round
                  case rel => exact ⟨j + 1, by omega, by go_num, by rw [Hs.out]⟩
                  case measure => simp [intOf]; omega
                · have Hs := Lib.hid (show upTo (decide (a.st = 9)) L (j + 1) = u from hs)
                  obtain ⟨z1, z2⟩ := e9 rfl
                  subst z2
                  have q1 : (ok == 1) = false := by simpa using z1
                  clear hs e1 e2 e7 e8 e9 z1
                  go_wp2_with fail
                  go_round
                  case rel => exact ⟨j + 1, by omega, by go_num, by rw [Hs.out]⟩
                  case measure => simp [intOf]; omega
                · have Hs := Lib.hid (show upTo (decide (a.st = 9)) L (j + 1) = u by rw [hs]; unfold up1; rw [if_neg n1, if_neg n2])
                  have q1 : (x == 1) = false := beq_eq_false_iff_ne.2 n1
                  have q2 : (x == 2) = false := beq_eq_false_iff_ne.2 n2
                  have q7 : (x == 7) = false := beq_eq_false_iff_ne.2 n7
                  have q8 : (x == 8) = false := beq_eq_false_iff_ne.2 n8
                  have q9 : (x == 9) = false := beq_eq_false_iff_ne.2 n9
                  clear hs e1 e2 e7 e8 e9 n1 n2 n7 n8 n9
                  go_wp2_with fail
                  go_round
                  case rel => exact ⟨j + 1, by omega, by go_num, by rw [Hs.out]⟩
                  case measure => simp [intOf]; omega
              · obtain rfl : j = L.length := by omega
                rw [HM.out.fin]
                have HSn := Lib.hid (sends24 L _ _ O2.out.ints (by omega))
                have hsnd := HM.out.snd
                by_cases h9 : a'.st = 9
                · have q9 : (a'.st == 9) = true := by simpa using h9
                  have d9 : decide (a'.st = 9) = true := by simpa using h9
                  have p2 : decide (a'.st < 2) = false := by simp; omega
                  rw [d9]
                  have D9 := Lib.hid d9
                  clear hsnd h9 d9
                  go_wp2_with fail
                  refine HS.out.mono ?_
                  rintro e w2 ⟨rfl, rfl⟩
                  go_wp2_with fail
                  refine HSn.out.mono ?_
                  intro e w3 hr
                  obtain ⟨A4, m4, c4, rfl, o4, bb⟩ := hr.open
                  obtain ⟨A5, c5, e5, -⟩ := o4.ints
                  cases e5
                  have B3 := below_then hB2 bb
                  have HA3 := Lib.hid (HA'.out.below bb)
                  have HS3 := Lib.hid (state33 w.heap.size a' w3 HA3.out)
                  clear hr o4 bb
                  by_cases hl0 : (0 : Int) < ((sends L).length : Int)
                  · go_wp2_with fail
                    refine HS3.out.mono ?_
                    rintro e w4 ⟨rfl, rfl⟩
                    go_wp2_with fail
                    go_roundw
                    case rel => exact ⟨k + 1, a', by omega, by go_num, by rw [D9.out], hok', HA3, B3⟩
                    case measure => simp [intOf]; omega
                  · go_wp2_with fail
                    go_roundw
                    case rel => exact ⟨k + 1, a', by omega, by go_num, by rw [D9.out], hok', HA3, B3⟩
                    case measure => simp [intOf]; omega
                · have q9 : (a'.st == 9) = false := by simpa using h9
                  have d9 : decide (a'.st = 9) = false := by simpa using h9
                  by_cases hse : sends L = []
                  · have hl1 : ((sends L).length : Int) = 0 := by rw [hse]; rfl
                    rw [d9]
                    have D9 := Lib.hid d9
                    have HL1 := Lib.hid hl1
                    clear hsnd h9 d9 hse hl1
                    go_wp2_with fail
                    refine HS.out.mono ?_
                    rintro e w2 ⟨rfl, rfl⟩
                    go_wp2_with fail
                    refine HSn.out.mono ?_
                    intro e w3 hr
                    obtain ⟨A4, m4, c4, rfl, o4, bb⟩ := hr.open
                    obtain ⟨A5, c5, e5, -⟩ := o4.ints
                    cases e5
                    have B3 := below_then hB2 bb
                    have HA3 := Lib.hid (HA'.out.below bb)
                    have hl0 : ¬ ((0 : Int) < ((sends L).length : Int)) := by rw [HL1.out]; decide
                    clear hr o4 bb
                    go_wp2_with fail
                    go_roundw
                    case rel => exact ⟨k + 1, a', by omega, by go_num, by rw [D9.out], hok', HA3, B3⟩
                    case measure => simp [intOf]; omega
                  · have p0 := hsnd hse
                    have p2 : decide (a'.st < 2) = false := by simp; omega
                    rw [d9]
                    have D9 := Lib.hid d9
                    clear hsnd h9 d9 hse
                    go_wp2_with fail
                    refine HS.out.mono ?_
                    rintro e w2 ⟨rfl, rfl⟩
                    go_wp2_with fail
                    refine HSn.out.mono ?_
                    intro e w3 hr
                    obtain ⟨A4, m4, c4, rfl, o4, bb⟩ := hr.open
                    obtain ⟨A5, c5, e5, -⟩ := o4.ints
                    cases e5
                    have B3 := below_then hB2 bb
                    have HA3 := Lib.hid (HA'.out.below bb)
                    have HS3 := Lib.hid (state33 w.heap.size a' w3 HA3.out)
                    clear hr o4 bb
                    by_cases hl0 : (0 : Int) < ((sends L).length : Int)
                    · go_wp2_with fail
                      refine HS3.out.mono ?_
                      rintro e w4 ⟨rfl, rfl⟩
                      go_wp2_with fail
                      go_roundw
                      case rel => exact ⟨k + 1, a', by omega, by go_num, by rw [D9.out], hok', HA3, B3⟩
                      case measure => simp [intOf]; omega
                    · go_wp2_with fail
                      go_roundw
                      case rel => exact ⟨k + 1, a', by omega, by go_num, by rw [D9.out], hok', HA3, B3⟩
                      case measure => simp [intOf]; omega
        · have hd : decide ((1000 : Int) ≤ (k : Int)) = true := by simp; omega
          clear HT HD hto hdo hmt hmd hlt1 hlt2
          go_wp2_with fail
          refine (awake _).mono ?_
          rintro e w3 ⟨rfl, bb⟩
          go_wp2
          go_ret
          exact ⟨rfl, below_then B bb⟩
      · obtain rfl : k = l.length := by omega
        go_wp2_with fail
        refine (awake _).mono ?_
        rintro e w3 ⟨rfl, bb⟩
        go_wp2
        go_ret
        exact ⟨rfl, below_then hB bb⟩
  · have Hc := Lib.hid hc
    clear hc
    go_enter Try.func11, Try.ntmps11
    go_wp2_with fail
    refine (new28_no c t _ Hc.out).mono ?_
    rintro e w1 ⟨rfl, rfl⟩
    go_wp2_with fail
    refine (awake _).mono ?_
    rintro e w3 ⟨rfl, bb⟩
    go_wp2
    go_ret
    exact ⟨rfl, bb⟩
end Go.Proofs.Ytjgndagejogfnaa.F
