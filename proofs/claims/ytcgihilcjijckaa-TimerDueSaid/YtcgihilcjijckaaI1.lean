import Derived.Test.YtcgihilcjijckaaH9
set_option linter.unusedVariables false
set_option linter.unusedSimpArgs false
set_option linter.unnecessarySimpa false
namespace Go.Proofs.Ytcgihilcjijckaa.F
open Go.RowKit Go.Proofs.Ytcgihilcjijckaa.K
theorem ids_src {w : World} {B : Nat} {v : Value} {D : List Int} (h : Row w B 3 1 v D.length (ints D)) : SrcR w 1 v D.length (ints D) := by
  have hone : ∀ u ∈ ints D, u.oneCell' = true := fun u hu => by
    obtain ⟨x, -, rfl⟩ := List.mem_map.1 hu
    rfl
  rcases h.form with ⟨h1, h2⟩ | ⟨b, cap', cur, h1, -, h3, h4, h5, -⟩
  · obtain rfl := List.eq_nil_of_length_eq_zero h2
    rw [h1]
    exact SrcR.none0 _ _
  · rw [h1] at h ⊢
    have := Row.part h hone 0 D.length 0 cap' (fun _ => by omega) (by omega)
    rwa [Nat.zero_mul, List.drop_zero, List.take_of_length_le (by simp [ints])] at this
theorem due_left (hi : Int) {l : List Tm} {R : List On} (h : Like l R) : ((restT hi (restT hi l)).length : Int) = wrap64 (((srt R).length : Int) - ((duE hi R).length : Int)) := by
  have h1 := (dueT_map hi (restT hi l)).2
  rw [(dueT_map hi l).2, h.eq, (due_two (l := srt R) (Int.le_refl hi)).2] at h1
  have h2 := congrArg List.length h1
  rw [List.length_map] at h2
  have h3 := due_len hi (srt R)
  have h4 : (duE hi R).length = (dueL hi (srt R)).length := by unfold duE; simp
  have h5 := h.fit.len
  rw [len_srt] at h3
  rw [h2, h4, len_srt, IntWalk.wrap64_in _ (by omega)]
  omega
theorem want_below {w3 wr wa wb w4 : World} {v v4 : Value} {n m : Nat} {xs ys : List Value} (h1 : Below w3.heap.size w3 wr) (h2 : Below wr.heap.size wr wa) (h3 : Below wa.heap.size wa wb) (hr : Row wr w3.heap.size 3 1 v n xs) (h4 : RowR wb w4 w3.heap.size 3 1 v v4 m ys) : Below w3.heap.size w3 w4 := by
  have h5 := below_then h1 (below_then h2 h3)
  exact ⟨h4.grow.os.trans h5.os, h4.grow.tape.trans h5.tape, h4.grow.output.trans h5.output, Nat.le_trans h5.size h4.grow.size, fun k hk => (h4.grow.block k (Nat.lt_of_lt_of_le hk h5.size) (fun e => by have := (Row.live hr e.symm).1; omega)).trans (h5.block k hk)⟩
set_option maxHeartbeats 16000000 in
set_option maxRecDepth 100000 in
theorem row_due (ops : List O) (v : Value) (a1 a2 : Int) (w : World) {p1 p2 : Prop} (H : RecsAt w v 4 O.cells ops) (_ : p1) (_ : p2) : Calls Try.prog 3 #[v, .int .i64 a1, .int .i64 a2] w fun e w' => e = .returned (.bool true) ∧ Below w.heap.size w w' := by
  obtain ⟨A, cap, rfl, k1, k2, -, -⟩ := H.at_
  have HR := Lib.hid H
  clear H
  have hF := Lib.hid (fillT w w ops _ HR.out [] (Things.start w))
  go_enter Try.func3, Try.ntmps3
  go_wp2_with fail
  refine hF.out.mono ?_
  rintro e w1 ⟨gp, vp, u, np, lp, rfl, hlp, h1⟩
  have T1 := Lib.hid h1
  have LP := Lib.hid hlp
  have hF1 := Lib.hid (fillT w w1 ops _ (HR.out.below h1.base) _ h1)
  clear hF h1 hlp
  go_wp2_with fail
  refine hF1.out.mono ?_
  rintro e w2 ⟨gq, vq, u2, nq, lq, rfl, hlq, h2⟩
  have T2 := Lib.hid h2.drop
  have LQ := Lib.hid hlq
  have hF2 := Lib.hid (fillT w w2 ops _ (HR.out.below h2.base) _ T2.out)
  clear hF1 h2 hlq T1
  go_wp2_with fail
  refine hF2.out.mono ?_
  rintro e w3 ⟨gs, vs, u3, ns, ls, rfl, hls, h3⟩
  have T3 := Lib.hid h3.drop
  have LS := Lib.hid hls
  clear hF2 h3 hls T2 HR
  generalize fillR ops 300 = R at *
  go_upto_region 6 with fail
  go_cut [49] (fun s wx => s = .bool (decide (a2 < a1)) ∧ w3 = wx)
  case first =>
    by_cases h1 : a2 < a1
    · go_wp2_with fail
      go_meet
      exact ⟨by simp [h1], rfl⟩
    · go_wp2_with fail
      go_meet
      exact ⟨by simp; omega, rfl⟩
  case rest =>
  obtain ⟨rfl, rfl⟩ := hcut
  go_upto_if 49 with fail
  go_cut [1, 2, 13] (fun a b _ wx => w3 = wx ∧ ∃ lo hi : Int, a = .int .i64 lo ∧ b = .int .i64 hi ∧ lo ≤ hi)
  case first =>
    by_cases h1 : a2 < a1
    · have h2 : decide (a2 < a1) = true := by simpa using h1
      rw [h2]
      go_wp2_with fail
      go_meet
      exact ⟨rfl, _, _, rfl, rfl, by omega⟩
    · have h2 : decide (a2 < a1) = false := by simpa using h1
      rw [h2]
      go_wp2_with fail
      go_meet
      exact ⟨rfl, _, _, rfl, rfl, by omega⟩
  case rest =>
  obtain ⟨rfl, lo, hi, rfl, rfl, hlh⟩ := hcut
  have HU : Hid (Row w3 0 29 2 u (srt R).length (ons (srt R))) := Lib.hid (T3.out.get 2 (by simp))
  obtain ⟨Au, cu, hu, k3, k4⟩ := Row.slice HU.out
  subst hu
  unfold maxLen at k4
  have HW0 : Hid (Row w3 w3.heap.size 3 1 (.slice none 0 0) 0 (ints [])) := Lib.hid (Row.nil _ _ _ _)
  have HLEN : Hid ((srt R).length ≤ 64) := Lib.hid (by rw [len_srt]; exact LP.out.fit.len)
  go_wp2_with fail
  go_loopw [14, 16, 55] (fun ov _ i wr => ∃ k : Nat, k ≤ (srt R).length ∧ i = .int .i64 k ∧ Hid (Row wr w3.heap.size 3 1 ov (wantK hi (srt R) k).length (ints (wantK hi (srt R) k))) ∧ Hid (Below w3.heap.size w3 wr)) (fun _ _ i _ => (srt R).length - (intOf i).toNat)
  case atStart => exact ⟨0, by omega, rfl, HW0, Lib.hid (Below.refl _ _)⟩
  case round =>
    clear HW0
    obtain ⟨k, hk, rfl, HO, HB⟩ := hrel
    by_cases hkl : k < (srt R).length
    · obtain ⟨b, hA, d0, d1⟩ := row_on (HU.out.below HB.out) hkl
      subst hA
      have hy := Lib.hid (fun h => wantK_yes (now := hi) hkl h)
      have hn := Lib.hid (fun h => wantK_no (now := hi) hkl h)
      have hwl := wantK_len hi (srt R) k
      generalize (srt R)[k] = x at *
      obtain ⟨xi, xa⟩ := x
      simp only at d0 d1
      have hi0 : (0 : Int) ≤ (k : Int) := by omega
      have hia : (k : Int) < ((srt R).length : Int) := by omega
      have hb1 : Below wr.heap.size wr (wr.alloc (.cells #[.int .i64 xi, .int .i64 xa] 29)) := (Below.refl _ wr).alloc (Nat.le_refl _) _
      have HBX := Lib.hid hb1
      have HOX := Lib.hid (HO.out.below hb1)
      clear hb1
      by_cases hle : xa ≤ hi
      · have hw2 := Lib.hid (hy.out hle)
        have hb2 := (Below.refl _ (wr.alloc (.cells #[.int .i64 xi, .int .i64 xa] 29))).alloc (Nat.le_refl _) (.cells #[.int .i64 xi] 3)
        have HBY := Lib.hid hb2
        have HOY := Lib.hid (HOX.out.below hb2)
        have hlen := HLEN.out
        have s1 : (wantK hi (srt R) k).length + 1 ≤ maxLen := by unfold maxLen; omega
        have s2 : ((wantK hi (srt R) k).length + 1) * 8 ≤ 140737488355328 := by omega
        have hws : w3.heap.size ≤ ((wr.alloc (.cells #[.int .i64 xi, .int .i64 xa] 29)).alloc (.cells #[.int .i64 xi] 3)).heap.size := Nat.le_trans HB.out.size (Nat.le_trans HBX.out.size hb2.size)
        clear hb2
        have hsrc := src_one (wr.alloc (.cells #[.int .i64 xi, .int .i64 xa] 29)) (.int .i64 xi) 3 rfl
        rw [World.size_alloc] at hsrc
        have HSRC := Lib.hid hsrc
        clear hsrc
        go_wp2_with (at_builtin; refine wpList_row elI rfl _ _ rfl w3.heap.size _ _ _ rfl HOY.out _ 1 _ rfl HSRC.out s1 s2 hws ?_)
        intro v4 w4 hr4
        have H4 := Lib.hid hr4.row
        have HB4 := Lib.hid (want_below HB.out HBX.out HBY.out HO.out hr4)
        clear hr4
        go_wp2_with fail
        go_roundw
        case rel => exact ⟨k + 1, by omega, by go_num, Lib.hid (by rw [hw2.out, List.length_append]; simpa [ints] using H4.out), HB4⟩
        case measure => simp [intOf]; omega
      · have hw2 := Lib.hid (hn.out hle)
        go_wp2_with fail
        go_roundw
        case rel => exact ⟨k + 1, by omega, by go_num, by rw [hw2.out]; exact HOX, Lib.hid (HB.out.trans (HBX.out.mono HB.out.size))⟩
        case measure => simp [intOf]; omega
    · obtain rfl : k = (srt R).length := by omega
      have T4 := Lib.hid (T3.out.new (t := .ids _ (duE hi R)) HB.out (show Row wr 0 3 1 _ _ _ from (by have := HO.out; rw [wantK_all] at this; exact this.weak (Nat.zero_le _))) (fun k hk => (Row.live HO.out hk).1))
      have hD := Lib.hid (dueTh w wr _ T4.out 4 (by simp) (now := hi) rfl LP.out)
      clear HO HB HU
      go_wp2_with fail
      refine hD.out.mono ?_
      rintro e w5 ⟨u5, vp5, np5, rfl, h5⟩
      have hS := Lib.hid (idsT w w5 _ h5 0 1 (by simp) (by simp) rfl rfl)
      clear h5 hD
      go_wp2_with fail
      refine hS.out.mono ?_
      rintro e w6 ⟨rfl, h6⟩
      have T6 := Lib.hid h6.drop
      clear h6 hS T4
      have T6b : Hid (Things w w6 [.ids (.slice none 0 0) [], .ids u14 (duE hi R), .q gs vs ns ls, .q gq vq nq lq, .all (.slice Au (srt R).length cu) (srt R), .q gp vp5 np5 (restT hi lp)]) := Lib.hid (T6.out.also (t := .ids (.slice none 0 0) []) (Row.nil _ _ _ _) (fun k hk => by simp [Thing.foot, RF, Value.ownBlock] at hk))
      have HDL : Hid ((duE hi R).length ≤ 64) := Lib.hid (Nat.le_trans (duE_len _ _) LP.out.fit.len)
      go_upto_block 2 with fail
      clear T6
      go_cut [17] (fun ov wx => ∃ (vq2 : Value) (n2 : Int) (l2 : List Tm), Hid (Things w wx [.ids ov (duE hi R), .ids u14 (duE hi R), .q gs vs ns ls, .q gq vq2 n2 l2, .all (.slice Au (srt R).length cu) (srt R), .q gp vp5 np5 (restT hi lp)]))
      case first =>
        go_wp2_with fail
        go_loopw [17, 18, 19, 20] (fun ov i _ _ wr => ∃ (k : Nat) (Rk : List On) (xs : List Int) (vq2 : Value) (n2 : Int) (l2 : List Tm), i = .int .i64 k ∧ xs.length = k ∧ Hid (xs ++ duE hi Rk = duE hi R) ∧ Hid (Like l2 Rk) ∧ Hid (Things w wr [.ids ov xs, .ids u14 (duE hi R), .q gs vs ns ls, .q gq vq2 n2 l2, .all (.slice Au (srt R).length cu) (srt R), .q gp vp5 np5 (restT hi lp)])) (fun _ i _ _ _ => 65 - (intOf i).toNat)
        case atStart => exact ⟨0, R, [], _, _, _, rfl, rfl, Lib.hid rfl, LQ, T6b⟩
        case round =>
          clear T6b
          obtain ⟨k, Rk, xs, vq2, n2, l2, rfl, hxs, HX, HL, HT⟩ := hrel
          have hxl : xs.length + (duE hi Rk).length ≤ 64 := by
            have := congrArg List.length HX.out
            rw [List.length_append] at this
            have := HDL.out
            omega
          have hk400 : (k : Int) < 400 := by omega
          have hP := Lib.hid (popT w wr _ HT.out 3 (by simp) (now := hi) rfl HL.out)
          rcases pop_due hi HL.out.fit with ⟨he, hd⟩ | ⟨i, he, hd⟩
          · rw [he] at hP
            have HD := Lib.hid hd
            clear he hd
            go_wp2_with fail
            refine hP.out.mono ?_
            rintro e w7 ⟨n7, l7, v7, rfl, h7, hl7⟩
            have T7 := Lib.hid h7
            clear h7 hl7 hP
            go_wp2_with fail
            go_meet
            exact ⟨v7, n7, l7, Lib.hid (by
              have h0 := HX.out
              rw [HD.out, List.append_nil] at h0
              rw [← h0]
              rw [← h0] at T7
              exact T7.out)⟩
          · rw [he] at hP
            have HD := Lib.hid hd
            have hlen2 := congrArg List.length hd
            simp only [List.length_cons] at hlen2
            clear he hd
            go_wp2_with fail
            refine hP.out.mono ?_
            rintro e w7 ⟨n7, l7, v7, rfl, h7, hl7⟩
            have T7 := Lib.hid h7
            have L7 := Lib.hid hl7
            clear h7 hl7 hP
            have HO : Hid (Row w7 0 3 1 u17 xs.length (ints xs)) := Lib.hid (T7.out.get 0 (by simp))
            have hb1 : Below w7.heap.size w7 (w7.alloc (.cells #[.int .i64 i] 3)) := (Below.refl _ w7).alloc (Nat.le_refl _) _
            have T8 := Lib.hid (T7.out.below hb1)
            have HO8 := Lib.hid (HO.out.below hb1)
            clear hb1
            have s1 : xs.length + 1 ≤ maxLen := by unfold maxLen; omega
            have s2 : (xs.length + 1) * 8 ≤ 140737488355328 := by omega
            go_wp2_with (at_builtin; refine wpList_row elI rfl _ _ rfl 0 _ _ _ rfl HO8.out _ 1 _ rfl (src_one w7 (.int .i64 i) 3 rfl) s1 s2 (Nat.zero_le _) ?_)
            intro v8 w8 hr8
            have T9 := Lib.hid (T8.out.step 0 (by simp) (t' := .ids v8 (xs ++ [i])) (RowR.stepW hr8) (by have := hr8.row; rw [show (ints xs ++ [Value.int .i64 i]) = ints (xs ++ [i]) by simp [ints], show k + 1 = (xs ++ [i]).length by simp [hxs]] at this; exact this))
            clear hr8 T8 HO8 HO
            go_wp2_with fail
            go_roundw
            case rel => exact ⟨k + 1, popR hi Rk, xs ++ [i], v7, n7, l7, by go_num, by simp [hxs], Lib.hid (by rw [← HX.out, HD.out]; simp), L7, T9⟩
            case measure => simp [intOf]; omega
      case rest =>
        obtain ⟨vq2, n2, l2, HT⟩ := hcut
        clear T6b
        have hD := Lib.hid (dueTh w wc _ HT.out 2 (by simp) (now := lo) rfl LS.out)
        go_wp2_with fail
        refine hD.out.mono ?_
        rintro e w7 ⟨u7', vs7, ns7, rfl, h7⟩
        have T7 : Hid (Things w w7 [.ids u7' (duE lo R), .ids u17 (duE hi R), .ids u14 (duE hi R), .q gs vs7 ns7 (restT lo ls), .q gq vq2 n2 l2, .all (.slice Au (srt R).length cu) (srt R), .q gp vp5 np5 (restT hi lp)]) := Lib.hid h7
        have hD2 := Lib.hid (dueTh w w7 _ T7.out 3 (by simp) (now := hi) rfl (rest_like LS.out))
        clear h7 hD HT
        go_wp2_with fail
        refine hD2.out.mono ?_
        rintro e w8 ⟨u8', vs8, ns8, rfl, h8⟩
        have T8 : Hid (Things w w8 [.ids u8' (duE hi (restL lo (srt R))), .ids u7' (duE lo R), .ids u17 (duE hi R), .ids u14 (duE hi R), .q gs vs8 ns8 (restT hi (restT lo ls)), .q gq vq2 n2 l2, .all (.slice Au (srt R).length cu) (srt R), .q gp vp5 np5 (restT hi lp)]) := Lib.hid h8
        clear h8 hD2 T7
        have HA : Hid (Row w8 0 3 1 u7' (duE lo R).length (ints (duE lo R))) := Lib.hid (T8.out.get 1 (by simp))
        have HB : Hid (Row w8 0 3 1 u8' (duE hi (restL lo (srt R))).length (ints (duE hi (restL lo (srt R))))) := Lib.hid (T8.out.get 0 (by simp))
        have hsrc := Lib.hid (ids_src HB.out)
        have hle1 : (duE lo R).length ≤ 64 := Nat.le_trans (duE_len _ _) LP.out.fit.len
        have hle2 : (duE hi (restL lo (srt R))).length ≤ 64 := Nat.le_trans (duE_len _ _) (rest_like (now := lo) LS.out).fit.len
        have s1 : (duE lo R).length + (duE hi (restL lo (srt R))).length ≤ maxLen := by unfold maxLen; omega
        have s2 : ((duE lo R).length + (duE hi (restL lo (srt R))).length) * 8 ≤ 140737488355328 := by omega
        go_wp2_with (at_builtin; refine wpList_row elI rfl _ _ rfl 0 _ _ _ rfl HA.out _ _ _ rfl hsrc.out s1 s2 (Nat.zero_le _) ?_)
        intro v9 w9 hr9
        have T9 : Hid (Things w w9 [.ids u8' (duE hi (restL lo (srt R))), .ids v9 (duE hi R), .ids u17 (duE hi R), .ids u14 (duE hi R), .q gs vs8 ns8 (restT hi (restT lo ls)), .q gq vq2 n2 l2, .all (.slice Au (srt R).length cu) (srt R), .q gp vp5 np5 (restT hi lp)]) := Lib.hid (T8.out.step 1 (by simp) (t' := .ids v9 (duE hi R)) (RowR.stepW hr9) (by
          have := hr9.row
          have e := duE_two hlh R
          rw [← e]
          show Row w9 0 3 1 v9 (duE lo R ++ duE hi (restL lo (srt R))).length (ints (duE lo R ++ duE hi (restL lo (srt R))))
          rw [List.length_append]
          unfold ints
          rw [List.map_append]
          exact this))
        clear hr9 T8 HA HB hsrc
        have T10 := Lib.hid T9.out.drop
        clear T9
        have hS := Lib.hid (idsT w w9 _ T10.out 1 2 (by simp) (by simp) rfl rfl)
        go_wp2_with fail
        refine hS.out.mono ?_
        rintro e w10 ⟨rfl, h10⟩
        have T11 := Lib.hid h10
        have hS2 := Lib.hid (idsT w w10 _ h10 0 2 (by simp) (by simp) rfl rfl)
        clear h10 hS T10
        go_wp2_with fail
        refine hS2.out.mono ?_
        rintro e w11 ⟨rfl, h11⟩
        have T12 := Lib.hid h11
        have hD3 := Lib.hid (dueTh w w11 _ h11 6 (by simp) (now := hi) rfl (rest_like LP.out))
        clear h11 hS2 T11
        go_wp2_with fail
        refine hD3.out.mono ?_
        rintro e w12 ⟨u12', vp12, np12, rfl, h12⟩
        rw [duE_rest] at h12
        have T13 := Lib.hid h12
        have HE : Hid (Row w12 0 3 1 u12' 0 (ints [])) := Lib.hid (T13.out.get 0 (by simp))
        obtain ⟨Ae, ce, he, -, k5⟩ := Row.slice HE.out
        subst he
        have HW : Hid (Row w12 0 3 1 u14 (duE hi R).length (ints (duE hi R))) := Lib.hid (T13.out.get 3 (by simp))
        obtain ⟨Aw, cw, hw, -, k6⟩ := Row.slice HW.out
        have HQ : Hid (QAt w12 gp vp12 np12 (restT hi (restT hi lp))) := Lib.hid (T13.out.get 7 (by simp))
        have hL := Lib.hid (len11 gp w12 _ _ _ HQ.out)
        have HLN : Hid (((restT hi (restT hi lp)).length : Int) = wrap64 (((srt R).length : Int) - ((duE hi R).length : Int))) := Lib.hid (due_left hi LP.out)
        have HBB := Lib.hid T13.out.base
        subst hw
        unfold maxLen at k5 k6
        have zl : (((restT hi (restT hi lp)).length : Int) == wrap64 (((srt R).length : Int) - ((duE hi R).length : Int))) = true := by rw [HLN.out]; exact beq_self_eq_true _
        clear h12 hD3 T12
        go_wp2_with fail
        refine hL.out.mono ?_
        rintro e w13 ⟨rfl, rfl⟩
        go_wp2_with fail
        refine (awake12 _).mono ?_
        rintro e w14 ⟨rfl, hb⟩
        have HF := Lib.hid (below_then HBB.out hb)
        clear hb
        go_wp2_with fail
        go_ret
        exact ⟨rfl, HF.out⟩
end Go.Proofs.Ytcgihilcjijckaa.F
