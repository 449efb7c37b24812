import Derived.Test.YtamkfalafnlomaaG5
set_option linter.unusedVariables false
set_option linter.unusedSimpArgs false
namespace Go.Proofs.Ytamkfalafnlomaa.F
open Go.RowKit Go.Proofs.Ytamkfalafnlomaa.K
set_option maxRecDepth 100000 in
set_option maxHeartbeats 4000000 in
theorem law_gate (l : List O) (v : Value) (n : Int) (w : World) (h : RecsAt w v 4 O.cells l) :
    Calls Try.prog 4 #[v, .int .i64 n] w fun e w' => e = .returned (.bool true) ∧ Below w.heap.size w w' := by
  have H := Lib.hid h
  obtain ⟨A, cap, rfl, k1, k2, k3, k4⟩ := h
  unfold maxLen at k2
  have K3 := Lib.hid k3
  clear k3 k4
  go_enter Try.func4, Try.ntmps4
  go_upto_block 0 with (go_at_call 14; refine (new14 _).mono ?_; rintro E w1 ⟨rfl, rfl⟩)
  generalize hW : World.alloc _ _ = W
  have hb0 : Below w.heap.size w W := by rw [← hW]; exact (Below.refl _ w).alloc (Nat.le_refl _) _
  have HT : Hid (TkAt W 59 w.heap.size Tk.zero) := by
    rw [← hW]; exact Lib.hid (TkAt.mk4 (heap_alloc_new _ _) rfl)
  clear hW
  go_wp2_with fail
  go_loopw [6, 7, 8, 9, 10, 11, 12, 13, 19] (fun th mi op _ _ _ _ _ i wr => ∃ (k : Nat) (T : Tk) (x y z : Bool), k ≤ l.length ∧ k ≤ 300 ∧ i = .int .i64 k ∧ th = .bool x ∧ mi = .bool y ∧ op = .bool z ∧ T.ok k ∧ Hid (Fits T x y z) ∧ Hid (TkAt wr 59 w.heap.size T) ∧ Below w.heap.size w wr) (fun _ _ _ _ _ _ _ _ i _ => 300 - (intOf i).toNat)
  case atStart => exact ⟨0, Tk.zero, false, false, false, by omega, by omega, rfl, rfl, rfl, rfl, zero_ok, Lib.hid fits_zero, HT, hb0⟩
  case round =>
    clear HT hb0 W
    obtain ⟨k, T, x, y, z, hk, hk3, rfl, rfl, rfl, rfl, hT, HF, HT, hB⟩ := hrel
    by_cases hkl : k < l.length
    · by_cases hk300 : k < 300
      · obtain ⟨A', cap', e, -, -, -, hc⟩ := (H.out.below hB).at_
        cases e
        obtain ⟨ad, rfl⟩ : ∃ ad, A = some ad := by
          cases A with
          | none => rw [K3.out rfl] at hkl; cases hkl
          | some ad => exact ⟨ad, rfl⟩
        obtain ⟨b, o, rfl, hlt, hc⟩ := hc ad rfl k hkl
        have c0 := hc 0 (.int .i64 l[k].k) rfl
        have c1 := hc 1 (.int .i64 l[k].ev) rfl
        have c2 := hc 2 (.bool l[k].a) rfl
        have c3 := hc 3 (.bool l[k].b) rfl
        clear hc
        simp only [Nat.add_zero] at c0
        generalize l[k] = o at c0 c1 c2 c3
        obtain ⟨ok, ev, oa, ob⟩ := o
        try simp only at c0 c1 c2 c3
        have hd : decide ((300 : Int) ≤ (k : Int)) = false := by simp; omega
        have hi0 : (0 : Int) ≤ (k : Int) := by omega
        have hia : (k : Int) < (l.length : Int) := by omega
        go_upto_block 2 with fail
        go_cut [6, 7, 8, 11, 12, 19] from 26 to 77 (fun th mi op _ _ i wx => ∃ (T' : Tk) (x y z : Bool), i = .int .i64 k ∧ th = .bool x ∧ mi = .bool y ∧ op = .bool z ∧ T'.ok (k + 1) ∧ Hid (Fits T' x y z) ∧ Hid (TkAt wx 59 w.heap.size T') ∧ Below w.heap.size w wx)
        case first =>
          have hb1 : Below wr.heap.size wr (wr.alloc (.cells #[.int .i64 ok, .int .i64 ev, .bool oa, .bool ob] 32)) := (Below.refl _ wr).alloc (Nat.le_refl _) _
          have B := (hB.trans (hb1.mono hB.size))
          have HT1 := Lib.hid (HT.out.below hb1)
          have HX : Hid ((wr.alloc (.cells #[.int .i64 ok, .int .i64 ev, .bool oa, .bool ob] 32)).heap[wr.heap.size]? = some (.cells #[.int .i64 ok, .int .i64 ev, .bool oa, .bool ob] 32 (0, 0))) := Lib.hid (heap_alloc_new wr _)
          have hlt1 := HT.out.lt
          have A15 := Lib.hid (fun (W : World) h => at15 w.heap.size T W h)
          by_cases k0 : ok = 0
          · subst k0
            obtain ⟨⟨T1, c⟩, hac⟩ : ∃ x, x = T.act ev := ⟨_, rfl⟩
            have D16 := fun (W : World) h => do16 w.heap.size T ev k W h hT (by omega)
            rw [← hac] at D16
            have D := Lib.hid D16
            clear D16
            have hT1 : T1.ok (k + 1) := by have := ok_act (e := ev) hT; rw [← hac] at this; exact this
            by_cases hc : c = 0
            · subst hc
              have hF1 : Fits T1 (gTh T x ev) (gMi T y ev) (gOp z ev) := by
                have := fits_act HF.out ev (by rw [← hac])
                rw [← hac] at this
                exact this
              have HF1 := Lib.hid hF1
              clear hF1 hac HF
              go_wp2_with fail
              refine (A15.out _ HT1.out).mono ?_
              rintro e w1 ⟨rfl, rfl⟩
              go_wp2_with fail
              refine (D.out _ HT1.out).mono ?_
              rintro e w2 ⟨rfl, h1, g1⟩
              have B2 := below_grown B g1 B.size (Nat.le_refl _)
              have d1 := box_cell (box_at HX.out g1 hlt1) 1 (.int .i64 ev) rfl
              replace h1 := Lib.hid h1
              clear g1 HX HT1 A15 D
              have hev : ev = 5 ∨ ev = 6 ∨ ev = 7 ∨ ev = 8 ∨ ev = 1 ∨ ev = 4 ∨ ev = 3 ∨ (ev ≠ 5 ∧ ev ≠ 6 ∧ ev ≠ 7 ∧ ev ≠ 8 ∧ ev ≠ 1 ∧ ev ≠ 4 ∧ ev ≠ 3) := by omega
              rcases hev with rfl | rfl | rfl | rfl | rfl | rfl | rfl | ⟨he5, he6, he7, he8, he1, he4, he3⟩
              · have HF5 : Hid (Fits T1 (x && !decide (T.ph = 2)) y z) := Lib.hid (by simpa [gTh, gMi, gOp] using HF1.out)
                clear HF1
                by_cases hp : T.ph = 2
                · have q2 : (T.ph != 2) = false := by simpa using hp
                  have HF6 : Hid (Fits T1 false y z) := Lib.hid (by simpa [hp] using HF5.out)
                  clear HF5 hp
                  cases x
                  all_goals
                    go_wp2_with fail
                    go_meet
                    exact ⟨T1, _, _, _, rfl, rfl, rfl, rfl, hT1, HF6, h1, B2⟩
                · have q2 : (T.ph != 2) = true := by simpa using hp
                  have HF6 : Hid (Fits T1 x y z) := Lib.hid (by simpa [hp] using HF5.out)
                  clear HF5 hp
                  cases x
                  all_goals
                    go_wp2_with fail
                    go_meet
                    exact ⟨T1, _, _, _, rfl, rfl, rfl, rfl, hT1, HF6, h1, B2⟩
              · have HF5 : Hid (Fits T1 x (y && !decide (T.ph = 2)) z) := Lib.hid (by simpa [gTh, gMi, gOp] using HF1.out)
                clear HF1
                by_cases hp : T.ph = 2
                · have q2 : (T.ph != 2) = false := by simpa using hp
                  have HF6 : Hid (Fits T1 x false z) := Lib.hid (by simpa [hp] using HF5.out)
                  clear HF5 hp
                  cases y
                  all_goals
                    go_wp2_with fail
                    go_meet
                    exact ⟨T1, _, _, _, rfl, rfl, rfl, rfl, hT1, HF6, h1, B2⟩
                · have q2 : (T.ph != 2) = true := by simpa using hp
                  have HF6 : Hid (Fits T1 x y z) := Lib.hid (by simpa [hp] using HF5.out)
                  clear HF5 hp
                  cases y
                  all_goals
                    go_wp2_with fail
                    go_meet
                    exact ⟨T1, _, _, _, rfl, rfl, rfl, rfl, hT1, HF6, h1, B2⟩
              · have HF6 : Hid (Fits T1 x y false) := Lib.hid (by simpa [gTh, gMi, gOp] using HF1.out)
                clear HF1
                go_wp2_with fail
                go_meet
                exact ⟨T1, _, _, _, rfl, rfl, rfl, rfl, hT1, HF6, h1, B2⟩
              · have HF6 : Hid (Fits T1 x y false) := Lib.hid (by simpa [gTh, gMi, gOp] using HF1.out)
                clear HF1
                go_wp2_with fail
                go_meet
                exact ⟨T1, _, _, _, rfl, rfl, rfl, rfl, hT1, HF6, h1, B2⟩
              · have HF6 : Hid (Fits T1 x y false) := Lib.hid (by simpa [gTh, gMi, gOp] using HF1.out)
                clear HF1
                go_wp2_with fail
                go_meet
                exact ⟨T1, _, _, _, rfl, rfl, rfl, rfl, hT1, HF6, h1, B2⟩
              · have HF6 : Hid (Fits T1 x y false) := Lib.hid (by simpa [gTh, gMi, gOp] using HF1.out)
                clear HF1
                go_wp2_with fail
                go_meet
                exact ⟨T1, _, _, _, rfl, rfl, rfl, rfl, hT1, HF6, h1, B2⟩
              · have HF6 : Hid (Fits T1 x y false) := Lib.hid (by simpa [gTh, gMi, gOp] using HF1.out)
                clear HF1
                go_wp2_with fail
                go_meet
                exact ⟨T1, _, _, _, rfl, rfl, rfl, rfl, hT1, HF6, h1, B2⟩
              · have HF6 : Hid (Fits T1 x y z) := Lib.hid (by
                  have := HF1.out
                  simp only [gTh, gMi, gOp] at this
                  rw [if_neg he5, if_neg he6, if_neg (by simp only [not_or]; exact ⟨he7, he8, he1, he4, he3⟩)] at this
                  exact this)
                have p5 : (ev == 5) = false := beq_eq_false_iff_ne.2 he5
                have p6 : (ev == 6) = false := beq_eq_false_iff_ne.2 he6
                have p7 : (ev == 7) = false := beq_eq_false_iff_ne.2 he7
                have p8 : (ev == 8) = false := beq_eq_false_iff_ne.2 he8
                have p1 : (ev == 1) = false := beq_eq_false_iff_ne.2 he1
                have p4 : (ev == 4) = false := beq_eq_false_iff_ne.2 he4
                have p3 : (ev == 3) = false := beq_eq_false_iff_ne.2 he3
                clear HF1 he5 he6 he7 he8 he1 he4 he3
                go_wp2_with fail
                go_meet
                exact ⟨T1, _, _, _, rfl, rfl, rfl, rfl, hT1, HF6, h1, B2⟩
            · have hTT : T1 = T := by
                have := fits_refused HF.out ev (by rw [← hac]; exact hc)
                rw [← hac] at this
                exact this
              subst hTT
              have qc : (c != 0) = true := by simpa using hc
              clear hc hac
              go_wp2_with fail
              refine (A15.out _ HT1.out).mono ?_
              rintro e w1 ⟨rfl, rfl⟩
              go_wp2_with fail
              refine (D.out _ HT1.out).mono ?_
              rintro e w2 ⟨rfl, h1, g1⟩
              have B2 := below_grown B g1 B.size (Nat.le_refl _)
              replace h1 := Lib.hid h1
              go_wp2_with fail
              go_meet
              exact ⟨T1, _, _, _, rfl, rfl, rfl, rfl, hT1, HF, h1, B2⟩
          · by_cases k1 : ok = 1
            · subst k1
              obtain ⟨⟨T1, c⟩, hac⟩ : ∃ x, x = T.opened oa ob := ⟨_, rfl⟩
              have D17 := fun (W : World) h => open17 w.heap.size T oa ob k W h hT (by omega)
              rw [← hac] at D17
              have D := Lib.hid D17
              clear D17
              have hT1 : T1.ok (k + 1) := by have := ok_opened (a := oa) (b := ob) hT; rw [← hac] at this; exact this
              by_cases hp : T.ph = 1
              · have hc : c = 0 := by
                  have : (T.opened oa ob).2 = 0 := by unfold Tk.opened; rw [if_neg (by omega), if_pos hp]
                  rw [← hac] at this
                  exact this
                subst hc
                have HF6 : Hid (Fits T1 oa ob true) := Lib.hid (by
                  have := fits_open oa ob hp
                  rw [← hac] at this
                  exact this)
                have q1 : (T.ph == 1) = true := by simpa using hp
                clear hp hac HF
                go_wp2_with fail
                refine (A15.out _ HT1.out).mono ?_
                rintro e w1 ⟨rfl, rfl⟩
                go_wp2_with fail
                refine (D.out _ HT1.out).mono ?_
                rintro e w2 ⟨rfl, h1, g1⟩
                have B2 := below_grown B g1 B.size (Nat.le_refl _)
                have d2 := box_cell (box_at HX.out g1 hlt1) 2 (.bool oa) rfl
                have d3 := box_cell (box_at HX.out g1 hlt1) 3 (.bool ob) rfl
                replace h1 := Lib.hid h1
                clear g1 HX HT1 A15 D
                go_wp2_with fail
                go_meet
                exact ⟨T1, _, _, _, rfl, rfl, rfl, rfl, hT1, HF6, h1, B2⟩
              · have hTT : T1 = T ∧ (c = 0 ∨ c = 290) := by
                  have : (T.opened oa ob).1 = T ∧ ((T.opened oa ob).2 = 0 ∨ (T.opened oa ob).2 = 290) := by
                    unfold Tk.opened
                    rw [if_neg hp]
                    split
                    · exact ⟨rfl, .inl rfl⟩
                    · exact ⟨rfl, .inr rfl⟩
                  rw [← hac] at this
                  exact this
                obtain ⟨rfl, hc⟩ := hTT
                have q1 : (T1.ph == 1) = false := by simpa using hp
                clear hp hac
                rcases hc with rfl | rfl
                all_goals
                  go_wp2_with fail
                  refine (A15.out _ HT1.out).mono ?_
                  rintro e w1 ⟨rfl, rfl⟩
                  go_wp2_with fail
                  refine (D.out _ HT1.out).mono ?_
                  rintro e w2 ⟨rfl, h1, g1⟩
                  have B2 := below_grown B g1 B.size (Nat.le_refl _)
                  replace h1 := Lib.hid h1
                  clear g1 HX HT1 A15 D
                  go_wp2_with fail
                  go_meet
                  exact ⟨T1, _, _, _, rfl, rfl, rfl, rfl, hT1, HF, h1, B2⟩
            · have q0 : (ok == 0) = false := by simpa using k0
              have q1 : (ok == 1) = false := by simpa using k1
              have hT1 : T.ok (k + 1) := by unfold Tk.ok at *; omega
              clear k0 k1
              go_wp2_with fail
              go_meet
              exact ⟨T, _, _, _, rfl, rfl, rfl, rfl, hT1, HF, HT1, B⟩
        case rest =>
          obtain ⟨T', x', y', z', rfl, rfl, rfl, rfl, hT', HF', HT', hB'⟩ := hcut
          have P := Lib.hid (fun (W : World) h => passes18 w.heap.size T' n W h)
          have A15 := Lib.hid (fun (W : World) h => at15 w.heap.size T' W h)
          have hK : (k : Int) + 1 = ((k + 1 : Nat) : Int) := by omega
          have HK := Lib.hid hK
          clear hK
          have fin : n = 49185 ∨ n = 49187 ∨ n = 49699 ∨ n = 49703 ∨ (n ≠ 49185 ∧ n ≠ 49187 ∧ n ≠ 49699 ∧ n ≠ 49703) := by omega
          by_cases hf : (x' || y' || !z') = true
          · have h3 : T'.ph ≠ 3 := by
              intro e
              obtain ⟨rfl, rfl, rfl⟩ := HF'.out.1 e
              simp at hf
            have q3 : (T'.ph == 3) = false := by simpa using h3
            rcases fin with rfl | rfl | rfl | rfl | hn
            iterate 4
              · clear h3
                cases x' <;> cases y' <;> cases z' <;> simp only [Bool.or_false, Bool.or_true, Bool.not_true, Bool.not_false, Bool.or_self, Bool.false_eq_true, reduceCtorEq] at hf
                all_goals
                  go_wp2_with (first | (go_at_call 15; refine (A15.out _ HT'.out).mono ?_; rintro E1 w1 ⟨rfl, rfl⟩) | (go_at_call 18; refine (P.out _ HT'.out).mono ?_; rintro E2 w2 ⟨rfl, rfl⟩))
                  go_roundw
                  case rel => exact ⟨k + 1, T', _, _, _, by omega, by omega, by go_num, rfl, rfl, rfl, by rw [← HK.out]; exact hT', HF', HT', hB'⟩
                  case measure => simp [intOf]; omega
            · have hp := (fits_test HF'.out n hn hf).2
              have P' := P.out
              rw [hp] at P'
              have P := Lib.hid P'
              clear P' hp h3
              have n1 : (n != 49185) = true := by simpa using hn.1
              have n2 : (n != 49187) = true := by simpa using hn.2.1
              have n3 : (n != 49699) = true := by simpa using hn.2.2.1
              have n4 : (n != 49703) = true := by simpa using hn.2.2.2
              clear hn
              cases x' <;> cases y' <;> cases z' <;> simp only [Bool.or_false, Bool.or_true, Bool.not_true, Bool.not_false, Bool.or_self, Bool.false_eq_true, reduceCtorEq] at hf
              all_goals
                go_wp2_with (first | (go_at_call 15; refine (A15.out _ HT'.out).mono ?_; rintro E1 w1 ⟨rfl, rfl⟩) | (go_at_call 18; refine (P.out _ HT'.out).mono ?_; rintro E2 w2 ⟨rfl, rfl⟩))
                go_roundw
                case rel => exact ⟨k + 1, T', _, _, _, by omega, by omega, by go_num, rfl, rfl, rfl, by rw [← HK.out]; exact hT', HF', HT', hB'⟩
                case measure => simp [intOf]; omega
          · have hx : x' = false ∧ y' = false ∧ z' = true := by cases x' <;> cases y' <;> cases z' <;> simp_all
            obtain ⟨rfl, rfl, rfl⟩ := hx
            rcases fin with rfl | rfl | rfl | rfl | hn
            iterate 4
              · clear hf
                go_wp2_with (first | (go_at_call 15; refine (A15.out _ HT'.out).mono ?_; rintro E1 w1 ⟨rfl, rfl⟩) | (go_at_call 18; refine (P.out _ HT'.out).mono ?_; rintro E2 w2 ⟨rfl, rfl⟩))
                go_roundw
                case rel => exact ⟨k + 1, T', _, _, _, by omega, by omega, by go_num, rfl, rfl, rfl, by rw [← HK.out]; exact hT', HF', HT', hB'⟩
                case measure => simp [intOf]; omega
            · have n1 : (n != 49185) = true := by simpa using hn.1
              have n2 : (n != 49187) = true := by simpa using hn.2.1
              have n3 : (n != 49699) = true := by simpa using hn.2.2.1
              have n4 : (n != 49703) = true := by simpa using hn.2.2.2
              clear hn hf
              go_wp2_with (first | (go_at_call 15; refine (A15.out _ HT'.out).mono ?_; rintro E1 w1 ⟨rfl, rfl⟩) | (go_at_call 18; refine (P.out _ HT'.out).mono ?_; rintro E2 w2 ⟨rfl, rfl⟩))
              go_roundw
              case rel => exact ⟨k + 1, T', _, _, _, by omega, by omega, by go_num, rfl, rfl, rfl, by rw [← HK.out]; exact hT', HF', HT', hB'⟩
              case measure => simp [intOf]; omega
      · have hd : decide ((300 : Int) ≤ (k : Int)) = true := by simp; omega
        obtain ⟨A', cap', e, -, -, -, hc⟩ := (H.out.below hB).at_
        cases e
        obtain ⟨ad, rfl⟩ : ∃ ad, A = some ad := by
          cases A with
          | none => rw [K3.out rfl] at hkl; cases hkl
          | some ad => exact ⟨ad, rfl⟩
        obtain ⟨b, o, rfl, hlt, hc⟩ := hc ad rfl k hkl
        have c0 := hc 0 (.int .i64 l[k].k) rfl
        have c1 := hc 1 (.int .i64 l[k].ev) rfl
        have c2 := hc 2 (.bool l[k].a) rfl
        have c3 := hc 3 (.bool l[k].b) rfl
        clear hc
        simp only [Nat.add_zero] at c0
        generalize l[k] = o at c0 c1 c2 c3
        obtain ⟨ok, ev, oa, ob⟩ := o
        try simp only at c0 c1 c2 c3
        have hi0 : (0 : Int) ≤ (k : Int) := by omega
        have hia : (k : Int) < (l.length : Int) := by omega
        have hb1 : Below wr.heap.size wr (wr.alloc (.cells #[.int .i64 ok, .int .i64 ev, .bool oa, .bool ob] 32)) := (Below.refl _ wr).alloc (Nat.le_refl _) _
        have B := (hB.trans (hb1.mono hB.size))
        go_wp2_with fail
        refine (awake _).mono ?_
        rintro e w7 ⟨rfl, bb⟩
        go_wp2
        go_ret
        exact ⟨rfl, below_then B bb⟩
    · obtain rfl : k = l.length := by omega
      go_wp2_with fail
      refine (awake _).mono ?_
      rintro e w7 ⟨rfl, bb⟩
      go_wp2
      go_ret
      exact ⟨rfl, below_then hB bb⟩
theorem row_gate (l : List O) (v : Value) (n : Int) (w : World) (h : RecsAt w v 4 O.cells l) (h1 : (Lit.int .i64 n).wf = true) :
    Calls Try.prog 4 #[v, .int .i64 n] w fun e w' => e = .returned (.bool true) ∧ Below w.heap.size w w' := law_gate l v n w h
end Go.Proofs.Ytamkfalafnlomaa.F
