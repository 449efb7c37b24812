import Derived.Test.YtcgihilcjijckaaH6
set_option linter.unusedVariables false
set_option linter.unusedSimpArgs false
set_option linter.unnecessarySimpa false
namespace Go.Proofs.Ytcgihilcjijckaa.F
open Go.RowKit Go.Proofs.Ytcgihilcjijckaa.K
theorem PlB.drop {w wr : World} {gq gr : Nat} {cv dv : Value} {b : Nat} {kd id at_ sp : Int} (h : PlB w wr gq gr cv dv b kd id at_ sp) : PlSt w wr gq gr cv dv := by
  obtain ⟨vq, vr, n, l, R, hp, hbx, hc⟩ := h
  rcases hc with ⟨rfl, ho⟩ | ⟨gc, gd, vc, vd, nc, lc, Rc, rfl, rfl, hpc, ho⟩
  · exact ⟨vq, vr, n, l, R, hp, .inl ⟨rfl, ho.drop⟩⟩
  · exact ⟨vq, vr, n, l, R, hp, .inr ⟨gc, gd, vc, vd, nc, lc, Rc, rfl, rfl, hpc, ho.drop2⟩⟩
theorem row_prefix {w : World} {B : Nat} {e : TypeId} {size : Nat} {n : Nat} {xs : List Value} {A : Option Addr} {cap : Nat} (h : Row w B e size (.slice A n cap) n xs) (hA : A ≠ none) (i : Nat) (hi : i ≤ n) : Row w B e size (.slice A i cap) i (xs.take (i * size)) := by
  have hm : i * size ≤ n * size := Nat.mul_le_mul_right _ hi
  rcases h.form with ⟨h1, h2⟩ | ⟨g, cap', cur, h1, h2, h3, h4, h5, h6, h7⟩
  · cases h1
    exact absurd rfl hA
  · cases h1
    refine ⟨by rw [List.length_take, h.len]; omega, .inr ⟨g, cap, cur, rfl, h2, h3, by omega, h5, h6, ?_⟩⟩
    rw [← h7, List.take_take, Nat.min_eq_left hm]
/-- the pair, of either kind -/
theorem PlB.one {w wr : World} {gq gr : Nat} {cv dv : Value} {b : Nat} {kd id at_ sp : Int} (h : PlB w wr gq gr cv dv b kd id at_ sp) : ∃ (vq vr : Value) (n : Int) (l : List Tm) (R : List On), Pr wr gq gr vq vr n l R ∧ BoxO wr b kd id at_ sp ∧ Own w wr [BF b, PF gq gr vq vr] := by
  obtain ⟨vq, vr, n, l, R, hp, hbx, hc⟩ := h
  rcases hc with ⟨rfl, ho⟩ | ⟨gc, gd, vc, vd, nc, lc, Rc, rfl, rfl, hpc, ho⟩
  · exact ⟨vq, vr, n, l, R, hp, hbx, ho⟩
  · exact ⟨vq, vr, n, l, R, hp, hbx, ho.drop⟩
set_option maxHeartbeats 16000000 in
set_option maxRecDepth 100000 in
theorem row_plays (ops : List O) (v : Value) (a1 : Int) (w : World) {p1 : Prop} (H : RecsAt w v 4 O.cells ops) (_ : p1) : Calls Try.prog 5 #[v, .int .i64 a1] w fun e w' => e = .returned (.bool true) ∧ Below w.heap.size w w' := by
  obtain ⟨A, cap, rfl, k1, k2, -, -⟩ := H.at_
  have HR := Lib.hid H
  unfold maxLen at k2
  clear H
  have HN := Lib.hid (new13 w)
  go_enter Try.func5, Try.ntmps5
  go_wp2_with fail
  refine HN.out.mono ?_
  rintro e w1 ⟨rfl, hq, hb⟩
  have T0 := Lib.hid (pl_new hq hb)
  clear hq hb HN
  go_upto_block 0 with fail
  generalize w1.heap.size = gr at *
  generalize (w1.alloc (.cells #[.slice none 0 0] 41)).alloc (.cells #[.slice none 0 0] 41) = W0 at *
  obtain ⟨gq, hgq⟩ : ∃ g, g = w.heap.size := ⟨_, rfl⟩
  rw [← hgq] at T0 ⊢
  clear hgq
  go_cut [7, 8] (fun cv dv wx => Hid (PlSt w wx gq gr cv dv))
  case first =>
    go_wp2_with fail
    go_loopw [7, 8, 9, 10, 21] (fun cv dv _ _ i wr => ∃ (k : Nat), k ≤ ops.length ∧ i = .int .i64 k ∧ Hid (PlSt w wr gq gr cv dv)) (fun _ _ _ _ i _ => ops.length - (intOf i).toNat)
    case atStart => exact ⟨0, by omega, rfl, T0⟩
    case round =>
      clear T0
      obtain ⟨k, hk, rfl, HT⟩ := hrel
      by_cases hkl : k < ops.length
      · obtain ⟨b, o, rfl, d0, d1, d2, d3⟩ := ops_at (HR.out.below HT.out.base) hkl
        generalize ops[k] = op at *
        obtain ⟨kd, id, at_, sp⟩ := op
        simp only at d0 d1 d2 d3
        have hi0 : (0 : Int) ≤ (k : Int) := by omega
        have hia : (k : Int) < (ops.length : Int) := by omega
        have TB := Lib.hid (plB_start HT.out kd id at_ sp)
        by_cases hk300 : k < 300
        · have hd : ¬ (300 : Int) ≤ (k : Int) := by omega
          go_upto_region 10 with fail
          generalize hwa : wr.alloc (.cells #[.int .i64 kd, .int .i64 id, .int .i64 at_, .int .i64 sp] 44) = wa at *
          generalize hbx : wr.heap.size = bx at *
          clear d0 d1 d2 d3 hwa
          go_upto_if 30 with fail
          go_cut [7, 8] (fun cv dv wx => Hid (PlB w wx gq gr cv dv bx kd id at_ sp))
          case first =>
            by_cases hka : (k : Int) = a1
            · have z : ((k : Int) == a1) = true := by simpa using hka
              obtain ⟨vq, vr, n, l, R, hp, hbx2, ho⟩ := TB.out.one
              have HP := Lib.hid hp
              have HX := Lib.hid hbx2
              have HO := Lib.hid ho
              clear hp hbx2 ho hka
              have hC := Lib.hid (copy16 gq wa vq n l R HP.out.like HP.out.t.q)
              go_wp2_with fail
              refine hC.out.mono ?_
              rintro e w2 ⟨gc, vc, nc, lc, rfl, hgc, hqc, hlc, hvc, hb1⟩
              have hD := Lib.hid (rcopy17 gr w2 vr R HP.out.like.fit.len (HP.out.below hb1).t.r)
              have HF := Lib.hid (fun w3 vd hrd hb2 hvd => plB_copy (w2 := w3) (vd := vd) HP.out HX.out HO.out hgc hqc hlc hvc hb1 hrd hb2 hvd)
              clear hgc hqc hlc hvc hb1 hC
              go_wp2_with fail
              refine hD.out.mono ?_
              rintro e w3 ⟨vd, rfl, hrd, hb2, hvd⟩
              have HF2 := Lib.hid (HF.out w3 vd hrd hb2 hvd)
              clear hrd hb2 hvd hD HF
              go_wp2_with fail
              go_meet
              exact HF2
            · have z : ((k : Int) == a1) = false := by simpa using hka
              go_wp2_with fail
              go_meet
              exact TB
          case rest =>
            clear TB HT
            obtain ⟨vq, vr, n, l, R, hp, hbx2, ⟨rfl, ho⟩ | ⟨gc, gd, vc, vd, nc, lc, Rc, rfl, rfl, hpc, ho⟩⟩ := hcut.out
            · have HP := Lib.hid hp
              have HX := Lib.hid hbx2
              have HO := Lib.hid ho
              clear hp hbx2 ho hcut
              have c0 := HX.out.c
              have hS := Lib.hid (stepP HP.out kd id at_ sp)
              go_wp2_with fail
              refine hS.out.mono ?_
              rintro e w2 ⟨rfl, vq2, vr2, n2, l2, R2, hp2, hs⟩
              have H2 := Lib.hid (one_step HX.out HO.out hs)
              have HP2 := Lib.hid hp2
              have hW := Lib.hid (wholeP hp2)
              clear hs hp2 hS c0
              go_wp2_with fail
              refine hW.out.mono ?_
              rintro e w3 ⟨rfl, hb⟩
              have H3 := Lib.hid (H2.out.2.below hb)
              have HP3 := Lib.hid (HP2.out.below hb)
              clear hb hW
              go_wp2_with fail
              go_roundw
              case rel => exact ⟨k + 1, by omega, by go_num, Lib.hid ⟨_, _, _, _, _, HP3.out, .inl ⟨rfl, H3.out.drop⟩⟩⟩
              case measure => simp [intOf]; omega
            · have HP := Lib.hid hp
              have HX := Lib.hid hbx2
              have HC := Lib.hid hpc
              have HO := Lib.hid ho
              clear hp hbx2 ho hpc hcut
              have c0 := HX.out.c
              have hS := Lib.hid (stepP HP.out kd id at_ sp)
              go_wp2_with fail
              refine hS.out.mono ?_
              rintro e w2 ⟨rfl, vq2, vr2, n2, l2, R2, hp2, hs⟩
              have H2 := Lib.hid (duo_step HX.out HC.out HO.out hs)
              have HP2 := Lib.hid hp2
              have hW := Lib.hid (wholeP hp2)
              clear hs hp2 hS c0
              go_wp2_with fail
              refine hW.out.mono ?_
              rintro e w3 ⟨rfl, hb⟩
              have HX3 := Lib.hid (H2.out.1.below hb)
              have HC3 := Lib.hid (H2.out.2.1.below hb)
              have H3 := Lib.hid (H2.out.2.2.below hb)
              have HP3 := Lib.hid (HP2.out.below hb)
              clear hb hW
              have c0 := HX3.out.c
              have hS := Lib.hid (stepP HC3.out kd id at_ sp)
              by_cases hpar : (k : Int) % 2 = 0
              · have z : decide ((k : Int) % 2 = 0) = true := by simpa using hpar
                go_wp2_with fail
                refine hS.out.mono ?_
                rintro e w4 ⟨rfl, vc4, vd4, n4, l4, R4, hp4, hs⟩
                have H4 := Lib.hid (duo_stepc HP3.out H3.out hs)
                have HC4 := Lib.hid hp4
                clear hs hp4 hS c0
                go_wp2_with fail
                go_roundw
                case rel => exact ⟨k + 1, by omega, by go_num, Lib.hid ⟨_, _, _, _, _, H4.out.1, .inr ⟨_, _, _, _, _, _, _, rfl, rfl, HC4.out, H4.out.2.drop2⟩⟩⟩
                case measure => simp [intOf]; omega
              · have z : decide ((k : Int) % 2 = 0) = false := by simpa using hpar
                go_wp2_with fail
                go_roundw
                case rel => exact ⟨k + 1, by omega, by go_num, Lib.hid ⟨_, _, _, _, _, HP3.out, .inr ⟨_, _, _, _, _, _, _, rfl, rfl, HC3.out, H3.out.drop2⟩⟩⟩
                case measure => simp [intOf]; omega
        · have hd : (300 : Int) ≤ (k : Int) := by omega
          go_wp2_with fail
          go_meet
          exact Lib.hid TB.out.drop
      · obtain rfl : k = ops.length := by omega
        go_wp2_with fail
        go_meet
        exact HT
  case rest =>
    have HB := Lib.hid hcut.out.base
    obtain ⟨vq, vr, n, l, R, hp, hc⟩ := hcut.out
    have HP := Lib.hid hp
    have HC : Hid ((u7 = .pointer none) ∨ ∃ (gc gd : Nat) (vc vd : Value) (nc : Int) (lc : List Tm) (Rc : List On), u7 = .pointer (some ⟨gc, 0, none⟩) ∧ u8 = .pointer (some ⟨gd, 0, none⟩) ∧ Pr wc gc gd vc vd nc lc Rc) := Lib.hid (by
      rcases hc with ⟨h, -⟩ | ⟨gc, gd, vc, vd, nc, lc, Rc, h1, h2, h3, -⟩
      · exact .inl h
      · exact .inr ⟨gc, gd, vc, vd, nc, lc, Rc, h1, h2, h3⟩)
    clear hp hc hcut T0
    go_upto_region 20 with fail
    go_cut [70] (fun s wx => s = .bool false ∧ Below wc.heap.size wc wx)
    case first =>
      rcases HC.out with rfl | ⟨gc, gd, vc, vd, nc, lc, Rc, rfl, rfl, hpc⟩
      · go_wp2_with fail
        go_meet
        exact ⟨rfl, Below.refl _ _⟩
      · have hW := Lib.hid (wholeP hpc)
        clear hpc
        go_wp2_with fail
        refine hW.out.mono ?_
        rintro e w3 ⟨rfl, hb⟩
        have H3 := Lib.hid hb
        clear hb hW
        go_wp2_with fail
        go_meet
        exact ⟨rfl, H3.out⟩
    case rest =>
    obtain ⟨rfl, hb⟩ := hcut
    have HP1 := Lib.hid (HP.out.below hb)
    have HB1 := Lib.hid (below_then HB.out hb)
    clear hb HC
    have hA := Lib.hid (rall18 gr _ vr R HP1.out.like.fit.len HP1.out.like.fit.uniq HP1.out.t.r)
    go_wp2_with fail
    refine hA.out.mono ?_
    rintro e w3 ⟨⟨u, rfl, hr⟩, hb⟩
    have HP3 := Lib.hid (HP1.out.below hb)
    have HB3 := Lib.hid (below_then HB1.out hb)
    have HU := Lib.hid hr
    obtain ⟨A3, c3, rfl, k3, k4⟩ := Row.slice hr
    unfold maxLen at k4
    clear hr hb hA HP1
    go_upto_region 23 with fail
    go_cut [75] (fun s wx => s = .bool (decide (1 < (srt R).length)) ∧ w3 = wx)
    case first =>
      by_cases h1 : 1 < (srt R).length
      · have h2 : (1 : Int) < ((srt R).length : Int) := by omega
        go_wp2_with fail
        go_meet
        exact ⟨by simp [h1], rfl⟩
      · have h2 : ¬ (1 : Int) < ((srt R).length : Int) := by omega
        go_wp2_with fail
        go_meet
        exact ⟨by simp; omega, rfl⟩
    case rest =>
    obtain ⟨rfl, rfl⟩ := hcut
    go_upto_if 75 with fail
    go_cut [11] (fun v wx => w3 = wx ∧ Hid (Row w3 0 29 2 v ((srt R).take 1).length (ons ((srt R).take 1))))
    case first =>
      by_cases h1 : 1 < (srt R).length
      · have h2 : decide (1 < (srt R).length) = true := by simpa using h1
        have h3 : (1 : Int) ≤ (c3 : Int) := by omega
        obtain ⟨b3, hA3, -, -⟩ := row_on HU.out (k := 0) (by omega)
        subst hA3
        rw [h2]
        go_wp2_with fail
        go_meet
        exact ⟨rfl, Lib.hid (by
          have := (row_prefix HU.out (by simp) 1 (by omega)).weak (Nat.zero_le _)
          rw [ons_take _ 1 (by omega)] at this
          rw [List.length_take, Nat.min_eq_left (by omega)]
          exact this)⟩
      · have h2 : decide (1 < (srt R).length) = false := by simpa using h1
        rw [h2]
        go_wp2_with fail
        go_meet
        exact ⟨rfl, Lib.hid (by rw [List.take_of_length_le (by omega)]; exact HU.out.weak (Nat.zero_le _))⟩
    case rest =>
    obtain ⟨rfl, HU1⟩ := hcut
    clear HU
    have hE := Lib.hid (every20 gq w3 vq n 1 l HP3.out.like.le (by omega) HP3.out.t.q)
    go_wp2_with fail
    refine hE.out.mono ?_
    rintro e w4 ⟨u4', rfl, hr, hb⟩
    have HB4 := Lib.hid (below_then HB3.out hb)
    rw [HP3.out.like.eq] at hr
    have hS := Lib.hid (alike_same w4 _ _ u4' _ ((srt R).take 1) hr (HU1.out.below hb))
    clear hr hb hE
    go_wp2_with fail
    refine hS.out.mono ?_
    rintro e w5 ⟨rfl, hb⟩
    have HB5 := Lib.hid (below_then HB4.out hb)
    clear hb hS
    go_wp2_with fail
    refine (awake12 _).mono ?_
    rintro e w6 ⟨rfl, hb⟩
    have HB6 := Lib.hid (below_then HB5.out hb)
    clear hb
    go_wp2_with fail
    go_ret
    exact ⟨rfl, HB6.out⟩
end Go.Proofs.Ytcgihilcjijckaa.F
