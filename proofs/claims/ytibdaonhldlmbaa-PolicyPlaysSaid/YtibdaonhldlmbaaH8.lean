import Derived.Test.YtibdaonhldlmbaaH7
import Derived.Test.YtibdaonhldlmbaaG3
import Derived.Deep.DeepCutAuto
set_option linter.unusedVariables false
set_option linter.unusedSimpArgs false
namespace Go.Proofs.Ytibdaonhldlmbaa.F
open Go.RowKit Go.Proofs.Ytibdaonhldlmbaa.K
theorem own_form {w : World} {base : Nat} {e : TypeId} {size : Nat} {v : Value} {n : Nat} {xs : List Value} (h : w.ownsRow base e size v n xs) (hn : 0 < n) : ∃ g cap, v = .slice (some ⟨g, 0, none⟩) n cap ∧ n ≤ cap ∧ cap ≤ maxLen := by
  rcases h.2 with ⟨-, h0⟩ | ⟨g, cap, cur, rfl, -, -, h1, h2, -⟩
  · omega
  · exact ⟨g, cap, rfl, h1, h2⟩
theorem tk_start (c : Cf) (h : c.ok = true) : Tk c.pol := by
  unfold Cf.ok spanOk at h
  simp only [Bool.and_eq_true, decide_eq_true_eq] at h
  unfold Cf.pol
  exact ⟨by simp, by simp, by simp, by simp, by simp only; omega, by simp only; omega, by simp only; omega⟩
set_option maxHeartbeats 8000000 in
set_option maxRecDepth 100000 in
theorem law_plays (c : Cf) (l : List O) (v : Value) (w : World) (h : RecsAt w v 3 O.cells l) : Calls Try.prog 5 #[c.v, v] w fun e w' => e = .returned (.bool true) ∧ Below w.heap.size w w' := by
  have H := Lib.hid h
  obtain ⟨A, cap, rfl, k1, k2, k3, k4⟩ := h
  unfold maxLen at k2
  have K3 := Lib.hid k3
  clear k3 k4
  have hb0 : Below w.heap.size w (w.alloc (.cells c.cells 25)) := (Below.refl _ _).alloc (Nat.le_refl _) _
  have hx0 : Bx (w.alloc (.cells c.cells 25)) w.heap.size c := ⟨heap_alloc_new _ _⟩
  have hs0 : (w.alloc (.cells c.cells 25)).heap.size = w.heap.size + 1 := by simp
  cases hok : c.ok
  · have NB := Lib.hid (fun W => new8_bad c W hok)
    have NR := Lib.hid (fun W => new14_bad c W hok)
    have X0 := Lib.hid hx0
    clear hok hx0 hs0
    simp only [Cf.v] at NB NR ⊢
    simp only [Cf.cells] at NB NR hb0 X0 ⊢
    go_enter Try.func5, Try.ntmps5
    go_wp2_with (refine wpList_cf w c rfl 2 rfl rfl ?_)
    refine (NB.out _).mono ?_
    rintro e w1 ⟨rfl, b1⟩
    have B1 := below_then hb0 b1
    have X1 := Lib.hid (X0.out.below b1)
    clear hb0 b1 X0
    go_wp2_with (refine wpList_load_row rfl 25 (.tmp 2) rfl w.heap.size rfl 25 c.cells (0, 0) _ X1.out.blk Try.underlying25 rfl (by kernel_rfl) ?_)
    refine (NR.out _).mono ?_
    rintro e w2 ⟨rfl, b2⟩
    have B2 := below_then B1 b2
    clear b2 B1 X1 NB NR
    go_wp2_with fail
    refine (awake _).mono ?_
    rintro e w3 ⟨rfl, bb⟩
    go_wp2
    go_ret
    exact ⟨rfl, below_then B2 bb⟩
  · have NG := Lib.hid (fun W => new8 c W hok)
    have NR := Lib.hid (fun W => new14 c W hok)
    have T0 := Lib.hid (tk_start c hok)
    have X0 := Lib.hid hx0
    clear hok hx0
    simp only [Cf.v] at NG NR ⊢
    simp only [Cf.cells] at NG NR hb0 X0 ⊢
    go_enter Try.func5, Try.ntmps5
    go_wp2_with (refine wpList_cf w c rfl 2 rfl rfl ?_)
    refine (NG.out _).mono ?_
    rintro e w1 ⟨rfl, p1, b1⟩
    have B1 := below_then hb0 b1
    have X1 := Lib.hid (X0.out.below b1)
    have P1 := Lib.hid p1
    rw [hs0] at P1
    have hs1 := p1.lt
    rw [hs0] at hs1 ⊢
    clear hb0 b1 p1 X0 hs0
    go_wp2_with (refine wpList_load_row rfl 25 (.tmp 2) rfl w.heap.size rfl 25 c.cells (0, 0) _ X1.out.blk Try.underlying25 rfl (by kernel_rfl) ?_)
    refine (NR.out _).mono ?_
    rintro e w2 ⟨rfl, q1, b2⟩
    have B2 := below_then B1 b2
    have P2 := Lib.hid (P1.out.below b2)
    have Q2 := Lib.hid q1
    have hgq : w.heap.size + 1 + 1 < w1.heap.size + 1 := by omega
    have hgl := q1.lt
    generalize w1.heap.size + 1 = gr at *
    clear b2 B1 X1 NG NR q1 P1 hs1
    go_wp2_with fail
    go_loopw [9, 10, 11, 12, 13, 14, 15, 16, 17, 43] (fun nw _ _ _ _ _ _ _ _ i wr => ∃ (k : Nat) (p : Pol) (now : Int), k ≤ l.length ∧ k ≤ 400 ∧ i = .int .i64 k ∧ nw = .int .i64 now ∧ p.fok ∧ Hid (StR p) ∧ Hid (Tk p) ∧ Hid (PolAt wr (w.heap.size + 1 + 1) p) ∧ Hid (RefAt wr gr c p) ∧ Below w.heap.size w wr) (fun _ _ _ _ _ _ _ _ _ i _ => l.length - (intOf i).toNat)
    case atStart => exact ⟨0, c.pol, 0, by omega, by omega, rfl, rfl, by simp [Pol.fok, Cf.pol], Lib.hid ⟨by simp [Cf.pol], by simp [Cf.pol]⟩, T0, P2, Q2, B2⟩
    case round =>
      clear T0 P2 Q2 B2 hgl
      obtain ⟨k, p, now, hk, hk3, rfl, rfl, hf, HS, HT, HP, HR, hB⟩ := hrel
      by_cases hkl : k < l.length
      · obtain ⟨A', cap', e0, -, -, -, hc⟩ := (H.out.below hB).at_
        cases e0
        obtain ⟨ad, rfl⟩ : ∃ ad, A = some ad := by
          cases A with
          | none => rw [K3.out rfl] at hkl; cases hkl
          | some ad => exact ⟨ad, rfl⟩
        obtain ⟨bk, o, rfl, hlt, hc⟩ := hc ad rfl k hkl
        have c0 := hc 0 (.int .i64 l[k].k) rfl
        have c1 := hc 1 (.int .i64 l[k].by_) rfl
        have c2 := hc 2 (.bool l[k].m) rfl
        clear hc
        simp only [Nat.add_zero] at c0
        generalize l[k] = op at c0 c1 c2
        obtain ⟨kd, by_, m⟩ := op
        try simp only at c0 c1 c2
        have hi0 : (0 : Int) ≤ (k : Int) := by omega
        have hia : (k : Int) < (l.length : Int) := by omega
        have hbx : Below wr.heap.size wr (wr.alloc (.cells #[.int .i64 kd, .int .i64 by_, .bool m] 33)) := (Below.refl _ wr).alloc (Nat.le_refl _) _
        have B := below_then hB hbx
        have P1 := Lib.hid (HP.out.below hbx)
        have R1 := Lib.hid (HR.out.below hbx)
        have OX : Hid ((wr.alloc (.cells #[.int .i64 kd, .int .i64 by_, .bool m] 33)).heap[wr.heap.size]? = some (.cells #[.int .i64 kd, .int .i64 by_, .bool m] 33 (0, 0))) := Lib.hid (heap_alloc_new _ _)
        have hrl := HR.out.lt
        have hsz : wr.heap.size < (wr.alloc (.cells #[.int .i64 kd, .int .i64 by_, .bool m] 33)).heap.size := by simp
        clear hbx
        by_cases hk300 : k < 400
        · have hd : ¬ (400 : Int) ≤ (k : Int) := by omega
          go_upto_region 12 with fail
          clear c0 c1 c2
          generalize hwa : wr.alloc (.cells #[.int .i64 kd, .int .i64 by_, .bool m] 33) = wa at *
          clear hwa
          have f0 : wa.cell? ⟨wr.heap.size, 0, none⟩ = some (.int .i64 kd) := (cell_of_row _ _ _ _ _ _ OX.out).trans rfl
          have f1 : wa.cell? ⟨wr.heap.size, 1, none⟩ = some (.int .i64 by_) := (cell_of_row _ _ _ _ _ _ OX.out).trans rfl
          have f2 : wa.cell? ⟨wr.heap.size, 2, none⟩ = some (.bool m) := (cell_of_row _ _ _ _ _ _ OX.out).trans rfl
          go_cut [12] (fun v wx => wa = wx ∧ ∃ x : Int, v = .int .i64 x)
          case first =>
            go_wp2_with fail
            go_meet
            exact ⟨rfl, _, rfl⟩
          case rest =>
          obtain ⟨rfl, x0, rfl⟩ := hcut
          go_upto_region 13 with fail
          go_cut [61] (fun v wx => wa = wx ∧ ∃ b : Bool, v = .bool b)
          case first =>
            by_cases y1 : 1099511627776 < by_
            · go_wp2_with fail
              go_meet
              exact ⟨rfl, true, rfl⟩
            · by_cases y2 : by_ < -1099511627776
              · go_wp2_with fail
                go_meet
                exact ⟨rfl, true, rfl⟩
              · go_wp2_with fail
                go_meet
                exact ⟨rfl, false, rfl⟩
          case rest =>
          obtain ⟨rfl, bb, rfl⟩ := hcut
          go_upto_if 61 with fail
          go_cut [12] (fun v wx => wa = wx ∧ ∃ x : Int, v = .int .i64 x)
          case first =>
            cases bb
            · go_wp2_with fail
              go_meet
              exact ⟨rfl, _, rfl⟩
            · go_wp2_with fail
              go_meet
              exact ⟨rfl, _, rfl⟩
          case rest =>
          obtain ⟨rfl, x, rfl⟩ := hcut
          have hrw : gr < wa.heap.size := R1.out.lt
          go_wp2_with fail
          refine (call12 _ p _ kd by_ m x P1.out hf).mono ?_
          rintro e1 w3 ⟨⟨u3, rfl, o3⟩, p3, g3⟩
          have hf2 := atC_fok (csOf kd m) x hf
          have TN := Lib.hid (atC_tk kd m x HT.out HS.out)
          have P3 := Lib.hid p3
          have R3 := Lib.hid (R1.out.keep g3 (by simp; omega))
          have OZ := Lib.hid ((g3.block _ hsz (by simp; omega)).trans OX.out)
          have B3 := below_grown B g3 B.size (by omega)
          have O3 := Lib.hid o3
          have hpl : w.heap.size + 1 + 1 < wa.heap.size := P1.out.lt
          have hbs := B.size
          clear p3 g3 f0 f1 f2 P1 R1 OX o3 B
          have f0 : w3.cell? ⟨wr.heap.size, 0, none⟩ = some (.int .i64 kd) := (cell_of_row _ _ _ _ _ _ OZ.out).trans rfl
          have f1 : w3.cell? ⟨wr.heap.size, 1, none⟩ = some (.int .i64 by_) := (cell_of_row _ _ _ _ _ _ OZ.out).trans rfl
          have f2 : w3.cell? ⟨wr.heap.size, 2, none⟩ = some (.bool m) := (cell_of_row _ _ _ _ _ _ OZ.out).trans rfl
          go_wp2_with fail
          refine (rmodel15 gr c p _ kd by_ m x R3.out hf HS.out).mono ?_
          rintro e1 w4 ⟨⟨u4, rfl, o4⟩, r4, g4⟩
          have P4 := Lib.hid (P3.out.keep g4 (by simp; omega))
          have R4 := Lib.hid r4
          have O4 := Lib.hid (O3.out.grown g4 hrw)
          have O5 := Lib.hid o4.ints
          have B4 := below_grown B3 g4 B3.size (by omega)
          clear r4 g4 o4 O3 P3 R3 f0 f1 f2 OZ B3
          generalize atC (csOf kd m) x p = rr at *
          obtain ⟨q, la2, er⟩ := rr
          simp only at hf2 ⊢
          have O4 : Hid (Own wa.heap.size w4 u3 la2) := O4
          have O5 : Hid (IntsAt w4 u4 la2) := O5
          have P4 : Hid (PolAt w4 (w.heap.size + 1 + 1) q) := P4
          have R4 : Hid (RefAt w4 gr c q) := R4
          have TQ : Hid (Tk q ∧ StR q) := TN
          clear TN
          have zer : (er != er) = false := by simp
          go_wp2_with fail
          refine (numbers_same la2 u3 u4 _ O4.out.ints O5.out).mono ?_
          rintro e1 w5 ⟨rfl, b5⟩
          have P5 := Lib.hid (P4.out.below b5)
          have R5 := Lib.hid (R4.out.below b5)
          have O6 := Lib.hid (O4.out.below b5)
          have B5 := below_then B4 b5
          clear P4 R4 O4 O5 B4 b5
          go_wp2_with fail
          refine (alike17 _ gr c q _ P5.out R5.out TQ.out.1).mono ?_
          rintro e1 w6 ⟨rfl, b6⟩
          have P6 := Lib.hid (P5.out.below b6)
          have R6 := Lib.hid (R5.out.below b6)
          have O7 := Lib.hid (O6.out.below b6)
          have B6 := below_then B5 b6
          clear P5 R5 O6 B5 b6
          obtain ⟨A1, c1, rfl, hlc, hcm, kn, -⟩ := O7.out.ints.at_
          unfold maxLen at hcm
          have KN := Lib.hid kn
          have O8 : Hid (w6.ownsRow wa.heap.size 3 1 (.slice A1 la2.length c1) la2.length (la2.map (Value.int .i64))) := O7
          clear kn O7
          obtain ⟨wk, rfl⟩ : ∃ wk : World, wk = wr := ⟨_, rfl⟩
          go_wp2_with fail
          go_loopw [17, 95] (fun _ i2 wx => ∃ (n : Nat) (xs : List Value), n ≤ la2.length ∧ i2 = .int .i64 n ∧ Hid (wx.ownsRow wa.heap.size 3 1 (.slice A1 la2.length c1) la2.length xs) ∧ Hid (PolAt wx (w.heap.size + 1 + 1) q) ∧ Hid (RefAt wx gr c q) ∧ Below w.heap.size w wx) (fun _ i2 _ => la2.length - (intOf i2).toNat)
          case atStart => exact ⟨0, _, by omega, rfl, O8, P6, R6, B6⟩
          case round =>
            clear O8 P6 R6 B6
            obtain ⟨n, xs, hn, rfl, h1, h2, h3, hB9⟩ := hrel
            by_cases hnl : n < la2.length
            · obtain ⟨ad9, rfl⟩ := some_of KN.out hnl
              obtain ⟨q9, cap9, eg, -, -⟩ := own_form h1.out (by omega)
              cases eg
              have hx := h1.out.1
              have cc := h1.out.cellAt n (by omega)
              rw [List.getElem?_eq_getElem (by rw [hx]; omega)] at cc
              obtain ⟨u9, hu9⟩ : ∃ u, wr.cell? ⟨q9, n, none⟩ = some u := ⟨_, cc⟩
              clear cc hx
              have ff := h1.out.frozenAt n
              have st := h1.out.stored n (.int .i64 99)
              have hg1 := (h1.out.lt q9 rfl).1
              have hn1 : (n : Int) < (la2.length : Int) := by omega
              have st1 := Lib.hid st.1
              have h2' := Lib.hid (h2.out.keep st.2 (by simp; omega))
              have h3' := Lib.hid (h3.out.keep st.2 (by simp; omega))
              clear st
              go_wp2_with fail
              go_roundw
              case rel => exact ⟨n + 1, _, by omega, by go_num, st1, h2', h3', hB9.setCell (by simp; omega) _⟩
              case measure => simp [intOf]; omega
            · obtain rfl : n = la2.length := by omega
              clear hn hnl h1 KN zer
              by_cases her : er = 0
              · have z1 : (er == 0) = true := beq_iff_eq.2 her
                clear her
                go_wp2_with fail
                go_roundw
                case rel => exact ⟨k + 1, q, x, by omega, by omega, by go_num, rfl, hf2, Lib.hid TQ.out.2, Lib.hid TQ.out.1, h2, h3, hB9⟩
                case measure => simp [intOf]; omega
              · have z1 : (er == 0) = false := beq_eq_false_iff_ne.2 her
                clear her
                go_wp2_with fail
                go_roundw
                case rel => exact ⟨k + 1, q, now, by omega, by omega, by go_num, rfl, hf2, Lib.hid TQ.out.2, Lib.hid TQ.out.1, h2, h3, hB9⟩
                case measure => simp [intOf]; omega
        · have hd : (400 : Int) ≤ (k : Int) := by omega
          go_wp2_with fail
          refine (alike17 _ gr c p _ P1.out R1.out HT.out).mono ?_
          rintro e1 w6 ⟨rfl, b6⟩
          go_wp2_with fail
          refine (awake _).mono ?_
          rintro e1 w2 ⟨rfl, bb⟩
          go_wp2
          go_ret
          exact ⟨rfl, below_then (below_then B b6) bb⟩
      · obtain rfl : k = l.length := by omega
        go_wp2_with fail
        refine (alike17 _ gr c p _ HP.out HR.out HT.out).mono ?_
        rintro e1 w6 ⟨rfl, b6⟩
        go_wp2_with fail
        refine (awake _).mono ?_
        rintro e1 w2 ⟨rfl, bb⟩
        go_wp2
        go_ret
        exact ⟨rfl, below_then (below_then hB b6) bb⟩
end Go.Proofs.Ytibdaonhldlmbaa.F
