import Derived.Test.YtibdaonhldlmbaaG2
import Derived.Test.YtibdaonhldlmbaaF1
import Derived.Deep.DeepCutAuto
set_option linter.unusedVariables false
set_option linter.unusedSimpArgs false
namespace Go.Proofs.Ytibdaonhldlmbaa.F
open Go.RowKit Go.Proofs.Ytibdaonhldlmbaa.K
def TiE (p : Pol) (now : Int) : Prop := ∃ b la e, Ti p now b la e
theorem TiE.rng {p : Pol} {now : Int} (h : TiE p now) : p.now ≤ now ∧ 0 ≤ now := by obtain ⟨b, la, e, h⟩ := h; exact ⟨h.clock, h.lo⟩
theorem TiE.next {p : Pol} {now t : Int} (h : TiE p now) (k : Int) (m : Bool) (h1 : now ≤ t) (h2 : t ≤ 2000000) : TiE (atC (csOf k m) t p).1 t ∧ (atC (csOf k m) t p).2.2 = 0 := by
  obtain ⟨b, la, e, h⟩ := h
  have r := ti_round k m h h1 h2
  exact ⟨⟨_, _, _, r.next⟩, r.ok⟩
theorem TiE.tick {p : Pol} {now t : Int} (h : TiE p now) (h1 : now ≤ t) (h2 : t ≤ 2000000) (hn : (nx p).2 = 5 ∨ t < (nx p).1) : atC [] t p = ({ p with now := t }, [], 0) := by
  obtain ⟨b, la, e, h⟩ := h
  exact tick_idle h h1 h2 hn
set_option maxHeartbeats 8000000 in
set_option maxRecDepth 100000 in
theorem law_idles (c : Cf) (l : List O) (ts : List Int) (v v2 : Value) (w : World) (h : RecsAt w v 3 O.cells l) (h2 : IntsAt w v2 ts) : Calls Try.prog 6 #[c.v, v, v2] w fun e w' => e = .returned (.bool true) ∧ Below w.heap.size w w' := by
  have H := Lib.hid h
  have H2 := Lib.hid h2
  obtain ⟨A, cap, rfl, k1, k2, k3, k4⟩ := h
  obtain ⟨AT, capT, rfl, t1, t2, t3, t4⟩ := h2
  unfold maxLen at k2 t2
  have K3 := Lib.hid k3
  have T3 := Lib.hid t3
  clear k3 k4 t3 t4
  have hb0 : Below w.heap.size w (w.alloc (.cells c.cells 25)) := (Below.refl _ _).alloc (Nat.le_refl _) _
  have hx0 : Bx (w.alloc (.cells c.cells 25)) w.heap.size c := ⟨heap_alloc_new _ _⟩
  have hs0 : (w.alloc (.cells c.cells 25)).heap.size = w.heap.size + 1 := by simp
  cases hok : c.ok
  · have NB := Lib.hid (fun W => new8_bad c W hok)
    have X0 := Lib.hid hx0
    clear hok hx0 hs0
    simp only [Cf.v] at NB ⊢
    simp only [Cf.cells] at NB hb0 X0 ⊢
    go_enter Try.func6, Try.ntmps6
    go_wp2_with (refine wpList_cf w c rfl 3 rfl rfl ?_)
    refine (NB.out _).mono ?_
    rintro e w1 ⟨rfl, b1⟩
    have B1 := below_then hb0 b1
    have X1 := Lib.hid (X0.out.below b1)
    clear hb0 b1 X0
    go_wp2_with (refine wpList_load_row rfl 25 (.tmp 3) rfl w.heap.size rfl 25 c.cells (0, 0) _ X1.out.blk Try.underlying25 rfl (by kernel_rfl) ?_)
    refine (NB.out _).mono ?_
    rintro e w2 ⟨rfl, b2⟩
    have B2 := below_then B1 b2
    clear b2 B1 X1 NB
    go_wp2_with fail
    refine (awake _).mono ?_
    rintro e w3 ⟨rfl, bb⟩
    go_wp2
    go_ret
    exact ⟨rfl, below_then B2 bb⟩
  · have NG := Lib.hid (fun W => new8 c W hok)
    have T0 := Lib.hid (ti_start c hok)
    have X0 := Lib.hid hx0
    clear hok hx0
    simp only [Cf.v] at NG ⊢
    simp only [Cf.cells] at NG hb0 X0 ⊢
    go_enter Try.func6, Try.ntmps6
    go_wp2_with (refine wpList_cf w c rfl 3 rfl rfl ?_)
    refine (NG.out _).mono ?_
    rintro e w1 ⟨rfl, p1, b1⟩
    have B1 := below_then hb0 b1
    have X1 := Lib.hid (X0.out.below b1)
    have P1 := Lib.hid p1
    rw [hs0] at P1
    have hs1 := p1.lt
    rw [hs0] at hs1 ⊢
    clear hb0 b1 p1 X0 hs0
    go_wp2_with (refine wpList_load_row rfl 25 (.tmp 3) rfl w.heap.size rfl 25 c.cells (0, 0) _ X1.out.blk Try.underlying25 rfl (by kernel_rfl) ?_)
    refine (NG.out _).mono ?_
    rintro e w2 ⟨rfl, q1, b2⟩
    have B2 := below_then B1 b2
    have P2 := Lib.hid (P1.out.below b2)
    have Q2 := Lib.hid q1
    have hgq : w.heap.size + 1 + 1 < w1.heap.size + 1 := by omega
    have hgl := q1.lt
    generalize w1.heap.size + 1 = gq at *
    clear b2 B1 X1 NG q1 P1 hs1
    go_wp2_with fail
    go_loopw [11, 12, 13, 14, 15, 16, 17, 18, 19, 20, 21, 22, 23, 49] (fun nw _ _ _ _ _ _ _ _ _ _ _ _ i wr => ∃ (k : Nat) (p : Pol) (now : Int), k ≤ l.length ∧ k ≤ 300 ∧ i = .int .i64 k ∧ nw = .int .i64 now ∧ now ≤ 5000 * k ∧ p.fok ∧ Hid (TiE p now) ∧ Hid (PolAt wr (w.heap.size + 1 + 1) p) ∧ Hid (PolAt wr gq p) ∧ Below w.heap.size w wr) (fun _ _ _ _ _ _ _ _ _ _ _ _ _ i _ => l.length - (intOf i).toNat)
    case atStart => exact ⟨0, c.pol, 0, by omega, by omega, rfl, rfl, by omega, by simp [Pol.fok, Cf.pol], Lib.hid ⟨_, _, _, T0.out⟩, P2, Q2, B2⟩
    case round =>
      clear T0 P2 Q2 B2 hgl
      obtain ⟨k, p, now, hk, hk3, rfl, rfl, hnow, hf, HT, HP, HQ, hB⟩ := hrel
      by_cases hkl : k < l.length
      · obtain ⟨A', cap', e0, -, -, -, hc⟩ := (H.out.below hB).at_
        cases e0
        obtain ⟨ad, rfl⟩ : ∃ ad, A = some ad := by
          cases A with
          | none => rw [K3.out rfl] at hkl; cases hkl
          | some ad => exact ⟨ad, rfl⟩
        obtain ⟨bk, o, rfl, hlt, hc⟩ := hc ad rfl k hkl
        have c0 := hc 0 (.int .i64 l[k].k) rfl
        have c1 := hc 1 (.int .i64 l[k].by_) rfl
        have c2 := hc 2 (.bool l[k].m) rfl
        clear hc
        simp only [Nat.add_zero] at c0
        generalize l[k] = op at c0 c1 c2
        obtain ⟨kd, by_, m⟩ := op
        try simp only at c0 c1 c2
        have hi0 : (0 : Int) ≤ (k : Int) := by omega
        have hia : (k : Int) < (l.length : Int) := by omega
        have hbx : Below wr.heap.size wr (wr.alloc (.cells #[.int .i64 kd, .int .i64 by_, .bool m] 33)) := (Below.refl _ wr).alloc (Nat.le_refl _) _
        have B := below_then hB hbx
        have P1 := Lib.hid (HP.out.below hbx)
        have Q1 := Lib.hid (HQ.out.below hbx)
        have OX : Hid ((wr.alloc (.cells #[.int .i64 kd, .int .i64 by_, .bool m] 33)).heap[wr.heap.size]? = some (.cells #[.int .i64 kd, .int .i64 by_, .bool m] 33 (0, 0))) := Lib.hid (heap_alloc_new _ _)
        have hql := HQ.out.lt
        clear hbx
        by_cases hk300 : k < 300
        · have hd : ¬ (300 : Int) ≤ (k : Int) := by omega
          have hsm := smo_rng by_ 5000 (by decide)
          have hlo := HT.out.rng.2
          have hck := HT.out.rng.1
          have hwt : wrap64 (now + smo by_ 5000) = now + smo by_ 5000 := by unfold wrap64; omega
          go_wp2_with fail
          refine (some10 by_ 5000 _ (by decide)).mono ?_
          rintro e1 w2 ⟨rfl, rfl⟩
          generalize htt : now + smo by_ 5000 = t at *
          have HTT := Lib.hid htt
          have hnt : now ≤ t := by omega
          have htm : t ≤ 2000000 := by omega
          have hdf : 0 ≤ t - now ∧ t - now ≤ 5000 := by omega
          go_upto_if 64 with fail
          clear hwt hsm htt
          go_cut [15] (fun _ wx => ∃ x : Int, x ≤ t ∧ Hid (PolAt wx (w.heap.size + 1 + 1) p) ∧ Hid (PolAt wx gq { p with now := x }) ∧ Hid (wx.heap[wr.heap.size]? = some (.cells #[.int .i64 kd, .int .i64 by_, .bool m] 33 (0, 0))) ∧ Below w.heap.size w wx ∧ wr.heap.size < wx.heap.size)
          case first =>
            by_cases hkt : k < ts.length
            · obtain ⟨AT', capT', e0, -, -, -, hct⟩ := (H2.out.below B).at_
              cases e0
              obtain ⟨adt, rfl⟩ : ∃ ad, AT = some ad := by
                cases AT with
                | none => rw [T3.out rfl] at hkt; cases hkt
                | some ad => exact ⟨ad, rfl⟩
              obtain ⟨bt, ot, rfl, hct⟩ := hct adt rfl k hkt
              generalize ts[k] = tk at *
              have hit : (k : Int) < (ts.length : Int) := by omega
              have hsm := smo_rng tk (t - now) hdf.1
              have hwd : wrap64 (t - now) = t - now := by unfold wrap64; omega
              have hwt : wrap64 (now + smo tk (t - now)) = now + smo tk (t - now) := by unfold wrap64; omega
              go_wp2_with fail
              refine (some10 tk (t - now) _ hdf).mono ?_
              rintro e1 w2 ⟨rfl, rfl⟩
              generalize hxx : now + smo tk (t - now) = x at *
              have hx1 : now ≤ x := by omega
              have hx2 : x ≤ t := by omega
              clear hwd c0 c1 c2 hct
              go_wp2_with fail
              clear hwt hsm hxx
              refine (next18 gq p _ Q1.out).mono ?_
              rintro e1 w2 ⟨rfl, b2⟩
              have P2 := Lib.hid (P1.out.below b2)
              have Q2 := Lib.hid (Q1.out.below b2)
              have OY := Lib.hid ((b2.block _ (by simp)).trans OX.out)
              have B2 := below_then B b2
              have hsz : wr.heap.size < w2.heap.size := by have := b2.size; simp at this; omega
              clear b2 OX B P1 Q1
              have TK : Hid ((nx p).2 = 5 ∨ x < (nx p).1 → atC [] x p = ({ p with now := x }, [], 0)) := Lib.hid (fun hh => HT.out.tick hx1 (by omega) hh)
              have NE := Lib.hid (nx_er p)
              have hg5 := hgq
              generalize nx p = nn at *
              obtain ⟨dn, er⟩ := nn
              simp only at TK NE ⊢
              have key : (er = 5 ∨ x < dn) ∨ (er = 0 ∧ ¬ x < dn) := by have := NE.out; omega
              rcases key with hh | ⟨h0, hh⟩
              · have TK2 := Lib.hid (TK.out hh)
                have hx : (er = 5) ∨ (er = 0 ∧ x < dn) := by have := NE.out; omega
                clear TK NE hh
                rcases hx with rfl | ⟨rfl, hx⟩
                all_goals
                  go_wp2_with fail
                  refine (tick19 gq p _ x Q2.out hf).mono ?_
                  rw [TK2.out]
                  rintro e1 w3 ⟨⟨u3, rfl, o3⟩, p3, g3⟩
                  simp only at o3 p3
                  obtain ⟨A3, c3, rfl, -⟩ := o3.ints.at_
                  have P3 := Lib.hid (P2.out.keep g3 (by simp; omega))
                  have Q3 := Lib.hid p3
                  have OZ := Lib.hid ((g3.block _ hsz (by simp; omega)).trans OY.out)
                  have B3 := below_grown B2 g3 B2.size (by omega)
                  have hsz3 : wr.heap.size < w3.heap.size := Nat.lt_of_lt_of_le hsz g3.size
                  clear p3 o3 g3
                  go_wp2_with fail
                  go_meet
                  exact ⟨x, hx2, P3, Q3, OZ, B3, hsz3⟩
              · subst h0
                clear TK NE
                go_wp2_with fail
                go_meet
                exact ⟨p.now, by omega, P2, Q2, OY, B2, hsz⟩
            · have hit : ¬ (k : Int) < (ts.length : Int) := by omega
              go_wp2_with fail
              go_meet
              exact ⟨p.now, by omega, P1, Q1, OX, B, by simp⟩
          case rest =>
            obtain ⟨x, hx, P2, Q2, OY, B2, hsz⟩ := hcut
            clear P1 Q1 OX B c0 c1 c2
            have f0 : wc.cell? ⟨wr.heap.size, 0, none⟩ = some (.int .i64 kd) := (cell_of_row _ _ _ _ _ _ OY.out).trans rfl
            have f1 : wc.cell? ⟨wr.heap.size, 1, none⟩ = some (.int .i64 by_) := (cell_of_row _ _ _ _ _ _ OY.out).trans rfl
            have f2 : wc.cell? ⟨wr.heap.size, 2, none⟩ = some (.bool m) := (cell_of_row _ _ _ _ _ _ OY.out).trans rfl
            go_wp2_with fail
            refine (call12 _ p _ kd by_ m t P2.out hf).mono ?_
            rintro e1 w3 ⟨⟨u3, rfl, o3⟩, p3, g3⟩
            have AC := Lib.hid (atC_clock (csOf kd m) (p := p) (a := x) (t := t) ⟨by omega, htm⟩ (by omega) hx)
            have hf2 := atC_fok (csOf kd m) t hf
            obtain ⟨tn, ter⟩ := HT.out.next kd m hnt htm
            have TN := Lib.hid tn
            have P3 := Lib.hid p3
            have Q3 := Lib.hid (Q2.out.keep g3 (by simp; omega))
            have OZ := Lib.hid ((g3.block _ hsz (by simp; omega)).trans OY.out)
            have B3 := below_grown B2 g3 B2.size (by omega)
            have O3 := Lib.hid o3
            have hqw : gq < wc.heap.size := Q2.out.lt
            clear p3 g3 f0 f1 f2 OY B2 P2 Q2 tn o3
            have f0 : w3.cell? ⟨wr.heap.size, 0, none⟩ = some (.int .i64 kd) := (cell_of_row _ _ _ _ _ _ OZ.out).trans rfl
            have f1 : w3.cell? ⟨wr.heap.size, 1, none⟩ = some (.int .i64 by_) := (cell_of_row _ _ _ _ _ _ OZ.out).trans rfl
            have f2 : w3.cell? ⟨wr.heap.size, 2, none⟩ = some (.bool m) := (cell_of_row _ _ _ _ _ _ OZ.out).trans rfl
            go_wp2_with fail
            refine (call12 _ { p with now := x } _ kd by_ m t Q3.out hf).mono ?_
            rw [AC.out]
            rintro e1 w4 ⟨⟨u4, rfl, o4⟩, p4, g4⟩
            have P4 := Lib.hid (P3.out.keep g4 (by simp; omega))
            have Q4 := Lib.hid p4
            have O4 := Lib.hid (O3.out.grown g4 hqw).ints
            have O5 := Lib.hid o4
            have B4 := below_grown B3 g4 B3.size (by omega)
            clear p4 g4 o4 O3 P3 Q3 AC f0 f1 f2 OZ B3
            generalize atC (csOf kd m) t p = rr at *
            obtain ⟨q, la2, er⟩ := rr
            simp only at ter hf2
            subst ter
            have O4 : Hid (IntsAt w4 u3 la2) := O4
            have O5 : Hid (Own _ w4 u4 la2) := O5
            have I5 := Lib.hid O5.out.ints
            clear O5
            go_wp2_with fail
            refine (numbers_same la2 u3 u4 _ O4.out I5.out).mono ?_
            rintro e1 w5 ⟨rfl, b5⟩
            have P5 := Lib.hid (P4.out.below b5)
            have Q5 := Lib.hid (Q4.out.below b5)
            have B5 := below_then B4 b5
            clear P4 Q4 O4 I5 B4 b5
            go_wp2_with fail
            refine (state11 _ q _ P5.out).mono ?_
            rintro e1 w6 ⟨rfl, rfl⟩
            go_wp2_with fail
            refine (state11 _ q _ Q5.out).mono ?_
            rintro e1 w6 ⟨rfl, rfl⟩
            go_wp2_with fail
            refine (failures20 _ q _ P5.out).mono ?_
            rintro e1 w6 ⟨rfl, rfl⟩
            go_wp2_with fail
            refine (failures20 _ q _ Q5.out).mono ?_
            rintro e1 w6 ⟨rfl, rfl⟩
            go_wp2_with fail
            refine (why21 _ q _ P5.out).mono ?_
            rintro e1 w6 ⟨rfl, rfl⟩
            go_wp2_with fail
            refine (why21 _ q _ Q5.out).mono ?_
            rintro e1 w6 ⟨rfl, rfl⟩
            go_wp2_with fail
            go_roundw
            case rel => exact ⟨k + 1, q, t, by omega, by omega, by go_num, rfl, by have := HTT.out; have := smo_rng by_ 5000 (by decide); omega, hf2, TN, P5, Q5, B5⟩
            case measure => simp [intOf]; omega
        · have hd : (300 : Int) ≤ (k : Int) := by omega
          go_wp2_with fail
          refine (awake _).mono ?_
          rintro e1 w2 ⟨rfl, bb⟩
          go_wp2
          go_ret
          exact ⟨rfl, below_then B bb⟩
      · obtain rfl : k = l.length := by omega
        go_wp2_with fail
        refine (awake _).mono ?_
        rintro e1 w2 ⟨rfl, bb⟩
        go_wp2
        go_ret
        exact ⟨rfl, below_then hB bb⟩
end Go.Proofs.Ytibdaonhldlmbaa.F
