import Derived.Test.YtedhldcoddbbdaaNA
import Derived.Test.YtedhldcoddbbdaaOO
import Derived.Test.YtedhldcoddbbdaaS4
set_option linter.unusedVariables false
set_option linter.unusedSimpArgs false
set_option linter.unnecessarySimpa false
namespace Go.Proofs.Ytedhldcoddbbdaa.F
open Go.RowKit Go.Proofs.Ytedhldcoddbbdaa.K
theorem IntsAt_get {w : World} {A : Option Addr} {cap : Nat} {l : List Int} (h : IntsAt w (.slice A l.length cap) l) {k : Nat} (hk : k < l.length) : ∃ b o, A = some ⟨b, o, none⟩ ∧ w.cell? ⟨b, o + k, none⟩ = some (.int .i64 l[k]) := by
  obtain ⟨A', cap', e, h1, h2, h3, h4⟩ := h.at_
  cases e
  cases A with
  | none => rw [h3 rfl] at hk; simp at hk
  | some ad =>
    obtain ⟨b, o, rfl, hc⟩ := h4 ad rfl k hk
    exact ⟨b, o, rfl, hc⟩
theorem enc_any (a n : Int) (info : List (BitVec 8)) (v : Value) (w : World) (h : BytesAt w v info) : Calls Try.prog 11 #[.agg #[.int .i64 n, v], .agg #[.int .i64 a, .bool false, .bool false]] w fun e w' => ∃ u er, e = .returned (.tuple #[u, .int .i64 er]) ∧ Row w' w.heap.size 5 1 u (encB a (n, info)).length ((encB a (n, info)).map b8) ∧ Below w.heap.size w w' := by
  by_cases he : bodyE n ⟨a, false, false⟩ info = 0
  · refine (enc11 n ⟨a, false, false⟩ info v w h he).mono ?_
    rintro e w' ⟨u, rfl, hr, hb⟩
    refine ⟨u, 0, rfl, ?_, hb⟩
    unfold encB
    rw [if_pos he]
    exact hr
  · refine (enc_bad n ⟨a, false, false⟩ info v w h he).mono ?_
    rintro e w' ⟨rfl, hb⟩
    refine ⟨_, _, rfl, ?_, hb⟩
    unfold encB
    rw [if_neg he]
    exact Row.nil _ _ _ _
theorem LnAt_other {w w' : World} {g g2 : Nat} {d : Ln} (h : LnAt w g d (.slice none 0 0)) (hg : Grown2 w w' g2 none) (hne : g ≠ g2) : LnAt w' g d (.slice none 0 0) :=
  ⟨(hg.block g (Array.getElem?_eq_some_iff.1 h.blk).1 hne (by simp)).trans h.blk, h.row.grown2 hg (by simp [Value.ownBlock]) (fun k hk => by simp [Value.ownBlock] at hk), h.ne⟩
/-- told frames, read in a later world -/
theorem Fed.frames {w w' w2 : World} {g g2 : Nat} {u u' v : Value} {d' : Ln} {fs : List (Int × List (BitVec 8))} {xs : List Fv} {r : Option Nat} (h : Fed w w' g u u' v d' fs xs) (hg : Grown2 w' w2 g2 r) (h1 : g2 < w.heap.size) (h2 : ∀ k, r = some k → k < w.heap.size) : FramesAt w2 v fs := by
  rw [← h.told]
  refine frames_of (B := w.heap.size) (h.row.grown2 hg (fun e => by have := (Row.live h.row e).1; omega) (fun k hk e => by have := (Row.live h.row hk).1; have := h2 k e; omega)) (fun x hx => ?_)
  exact RowB.bytes (((h.info x hx).grown2 hg (fun e => by have := (Row.live (h.info x hx) e).1; omega) (fun k hk e => by have := (Row.live (h.info x hx) hk).1; have := h2 k e; omega)).weak (Nat.zero_le _))
set_option maxRecDepth 100000 in
set_option maxHeartbeats 16000000 in
theorem noise5 (L : List (Int × List (BitVec 8))) (v : Value) (a : Int) (ns : List Int) (vn : Value) (w : World) (hL : FramesAt w v L) (hwa : (Lit.int .i64 a).wf = true) (hn : IntsAt w vn ns ∧ ns.length ≤ 17592186043904) : Calls Try.prog 5 #[v, .int .i64 a, vn] w fun e w' => e = .returned (.bool true) ∧ Below w.heap.size w w' := by
  have HK := Lib.hid (fun W => known21 W)
  have HM := Lib.hid (fun W => map25 a W)
  have HLL := Lib.hid hL
  have HNN := Lib.hid hn.1
  obtain ⟨A, cap, rfl, k1, k2, -⟩ := hL.at_
  obtain ⟨An, capn, rfl, k3, k4, -, -⟩ := hn.1.at_
  have hnl := hn.2
  unfold maxLen at k2 k4
  clear hL hn
  cases hm : mapB a
  · rw [hm] at HM
    clear hm
    go_enter Try.func5, Try.ntmps5
    go_wp2_with fail
    refine (HM.out _).mono ?_
    rintro e w1 ⟨rfl, rfl⟩
    go_wp2_with fail
    refine (HK.out _).mono ?_
    rintro e w2 ⟨rfl, hb2⟩
    have HB2 := Lib.hid hb2
    go_wp2_with fail
    go_ret
    exact ⟨rfl, HB2.out⟩
  · rw [hm] at HM
    have hok : newOk 16384 a = true := by unfold newOk; rw [hm]; decide
    have hm2 := hm
    unfold mapB at hm2
    simp only [Bool.and_eq_true, decide_eq_true_eq] at hm2
    obtain ⟨ha0, ha1⟩ := hm2
    have HN := Lib.hid (fun W => new26 16384 a true true W hok)
    have HOK := Lib.hid (kO 16384 a true true hok)
    clear hm hok
    go_enter Try.func5, Try.ntmps5
    go_wp2_with fail
    refine (HM.out _).mono ?_
    rintro e w1 ⟨rfl, rfl⟩
    go_wp2_with fail
    refine (HN.out _).mono ?_
    rintro e w2 ⟨rfl, hl2, hb2⟩
    have HL2 := Lib.hid hl2
    have HB2 := Lib.hid hb2
    have hg1 := (Array.getElem?_eq_some_iff.1 hl2.blk).1
    clear hl2 hb2
    go_wp2_with fail
    refine (HN.out _).mono ?_
    rintro e w3 ⟨rfl, hl3, hb3⟩
    have HL3 := Lib.hid hl3
    have HB3 := Lib.hid (below_then HB2.out hb3)
    have HL2' := Lib.hid (HL2.out.below hb3)
    have hg2 := (Array.getElem?_eq_some_iff.1 hl3.blk).1
    have hws := HB2.out.size
    clear hl3 hb3 HN HM HL2 HB2
    have hdl2 : ∀ i, (Ln.start 16384 (dropF a) true true).drop i = dropF a i := fun i => rfl
    have H0 := Lib.hid (Row.nil w3 w3.heap.size 5 1)
    have HR := Lib.hid (Below.refl w3.heap.size w3)
    go_wp2_with fail
    go_loopw [9, 10] (fun bv i wr => ∃ k : Nat, k ≤ L.length ∧ k ≤ 20 ∧ i = .int .i64 k ∧ Hid (Row wr w3.heap.size 5 1 bv (encs a (L.take k)).length ((encs a (L.take k)).map b8)) ∧ Hid (Below w3.heap.size w3 wr)) (fun _ i _ => 20 - (intOf i).toNat)
    case atStart => exact ⟨0, by omega, by omega, rfl, H0, HR⟩
    case round =>
      clear H0 HR
      obtain ⟨k, hk, hk20, rfl, HRr, HBr⟩ := hrel
      have hsl := Lib.hid (show k < L.length → encs a (L.take (k + 1)) = encs a (L.take k) ++ encB a (L.getD k (0, [])) from fun h => by
        rw [List.take_succ_eq_append_getElem h, encs_snoc, List.getD_eq_getElem?_getD, List.getElem?_eq_getElem h]; rfl)
      have hbl : (encs a (L.take k)).length ≤ 800000 := by
        have := encs_len a (L.take k)
        rw [List.length_take] at this
        omega
      have HBL := Lib.hid hbl
      have HLr := Lib.hid ((HLL.out.below HB3.out).below HBr.out)
      obtain ⟨Ab, cb, hbv, -, -⟩ := Row.slice HRr.out
      subst hbv
      have hbs := HBr.out.size
      generalize hM : encs a (L.take k) = M at *
      go_upto_region 9 with fail
      go_cut [37] (fun s wx => s = .bool (decide (k < L.length ∧ k < 20)) ∧ wr = wx)
      case first =>
        by_cases hkl : k < L.length
        · have i1 : (k : Int) < (L.length : Int) := by omega
          by_cases hk2 : k < 20
          · have i2 : (k : Int) < 20 := by omega
            go_wp2_with fail
            go_meet
            exact ⟨by simp [hkl, hk2], rfl⟩
          · have i2 : ¬ (k : Int) < 20 := by omega
            go_wp2_with fail
            go_meet
            exact ⟨by simp [hk2], rfl⟩
        · have i1 : ¬ (k : Int) < (L.length : Int) := by omega
          go_wp2_with fail
          go_meet
          exact ⟨by simp [hkl], rfl⟩
      case rest =>
      obtain ⟨rfl, rfl⟩ := hcut
      by_cases hc : k < L.length ∧ k < 20
      · rw [decide_eq_true hc]
        obtain ⟨hkl, hk2⟩ := hc
        have i1 : (k : Int) < (L.length : Int) := by omega
        have i2 : (k : Int) < 20 := by omega
        have i0 : (0 : Int) ≤ (k : Int) := by omega
        obtain ⟨A', cap', e1, -, -, hc⟩ := HLr.out.at_
        cases e1
        obtain ⟨b1, o1, u1, rfl, d0, d1, d2⟩ := hc k hkl
        clear hc
        have hgd : L.getD k (0, []) = L[k] := by rw [List.getD_eq_getElem?_getD, List.getElem?_eq_getElem hkl]; rfl
        obtain ⟨x, hx⟩ : ∃ x, x = L[k] := ⟨_, rfl⟩
        rw [← hx] at d0 d2 hgd
        have HS := Lib.hid (hgd ▸ hsl.out hkl)
        obtain ⟨n, info⟩ := x
        dsimp only at d0 d2
        obtain ⟨Ai, ci, rfl, -, -, -, -⟩ := d2.at_
        have HE := Lib.hid (enc_any a n info _ wr d2)
        clear hx hgd d2 hsl hbl
        go_wp2_with fail
        refine HE.out.mono ?_
        rintro e w4 ⟨u4, er, rfl, hr4, hb4⟩
        obtain ⟨A4, c4, rfl, -, -⟩ := Row.slice hr4
        have HB4 := Lib.hid hb4
        have hel := encB_len a (n, info)
        have hsrc := Lib.hid (RowB.bytes (w := w4) (l := encB a (n, info)) (hr4.weak (Nat.zero_le _))).src
        have HR4 := Lib.hid (HRr.out.below hb4)
        have s1 : M.length + (encB a (n, info)).length ≤ maxLen := by have := HBL.out; unfold maxLen; omega
        have s2 : (M.length + (encB a (n, info)).length) * 1 ≤ 140737488355328 := by have := HBL.out; omega
        have s3 : w3.heap.size ≤ w4.heap.size := Nat.le_trans hbs hb4.size
        clear hr4 hb4 d0 d1 HE hel
        generalize encB a (n, info) = N at *
        go_wp2_with (at_builtin; refine wpList_row elB rfl _ _ rfl w3.heap.size _ _ _ rfl HR4.out _ _ _ rfl hsrc.out s1 s2 s3 ?_)
        intro v5 w5 hr5
        have HR5 := Lib.hid hr5.row
        have HB5 := Lib.hid (row_more HBr.out HB4.out HRr.out hr5)
        clear hr5 HR4 hsrc
        go_wp2_with fail
        go_roundw
        case rel => exact ⟨k + 1, by omega, by omega, by go_num, Lib.hid (by rw [HS.out, List.length_append, List.map_append]; exact HR5.out), HB5⟩
        case measure => simp [intOf]; omega
      · rw [decide_eq_false hc]
        clear hc hM hsl hk hk20 hbl
        clear HLr
        obtain ⟨W4, rfl⟩ : ∃ wk, wk = wr := ⟨_, rfl⟩
        have HNN0 := Lib.hid ((HNN.out.below HB3.out).below HBr.out)
        have H00 := Lib.hid (Row.nil W4 W4.heap.size 5 1)
        have HR00 := Lib.hid (Below.refl W4.heap.size W4)
        go_upto_region 14 with fail
        go_wp2_with fail
        go_loopw [13, 14] (fun mv i wx => ∃ k : Nat, k ≤ M.length ∧ i = .int .i64 k ∧ Hid (Row wx W4.heap.size 5 1 mv (noisy a ns 0 (M.take k)).length ((noisy a ns 0 (M.take k)).map b8)) ∧ Hid (Below W4.heap.size W4 wx)) (fun _ i _ => M.length - (intOf i).toNat)
        case atStart => exact ⟨0, by omega, rfl, H00, HR00⟩
        case round =>
          clear H00 HR00
          obtain ⟨k, hk, rfl, HRx, HBx⟩ := hrel
          have hml : (noisy a ns 0 (M.take k)).length ≤ 1600000 := by
            have h1 := noisy_len a ns 0 (M.take k)
            have h2 := HBL.out
            rw [List.length_take] at h1
            omega
          have HML := Lib.hid hml
          obtain ⟨Am, cm, hmv, -, -⟩ := Row.slice HRx.out
          subst hmv
          have HSn := Lib.hid (show ∀ h : k < M.length, noisy a ns 0 (M.take (k + 1)) = noisy a ns 0 (M.take k) ++ nz a ns k ++ [M[k]] from fun h => by
            rw [List.take_succ_eq_append_getElem h, noisy_snoc, List.length_take, Nat.min_eq_left (by omega), Nat.zero_add])
          generalize hQ : noisy a ns 0 (M.take k) = Q at *
          by_cases hkm : k < M.length
          · have HS := Lib.hid (HSn.out hkm)
            have j0 : (0 : Int) ≤ (k : Int) := by omega
            have j1 : (k : Int) < (M.length : Int) := by omega
            have hws4 := HBx.out.size
            clear hml HSn
            go_upto_if 62 with fail
            go_cut [13] (fun mv wx => Hid (Row wx W4.heap.size 5 1 mv (Q ++ nz a ns k).length ((Q ++ nz a ns k).map b8)) ∧ Hid (Below W4.heap.size W4 wx))
            case first =>
              by_cases hkn : k < ns.length
              · obtain ⟨bn, on, hAn, d0⟩ := IntsAt_get (HNN0.out.below HBx.out) hkn
                subst hAn
                have j2 : (k : Int) < (ns.length : Int) := by omega
                have hgd : ns.getD k 0 = ns[k] := by rw [List.getD_eq_getElem?_getD, List.getElem?_eq_getElem hkn]; rfl
                obtain ⟨x, hx⟩ : ∃ x, x = ns[k] := ⟨_, rfl⟩
                rw [← hx] at d0 hgd
                have hcr := cnt_range x 40 (by omega)
                have HC := Lib.hid (fun W => count27 x 40 (by omega) (by omega) W)
                have HZ : Hid (nz a ns k = if cnt x 40 < 32 ∧ bitB a (cnt x 40).toNat = true then [bt (cnt x 40)] else []) := Lib.hid (by unfold nz; rw [hgd]; simp [hkn])
                clear hx hgd
                generalize cnt x 40 = y at *
                obtain ⟨z, rfl⟩ : ∃ z : Nat, y = (z : Int) := ⟨y.toNat, by omega⟩
                go_wp2_with fail
                refine (HC.out _).mono ?_
                rintro e w5 ⟨rfl, rfl⟩
                clear HC d0
                have z40 : (z : Int) < 40 := hcr.2
                have hwu : IntKind.u64.wrap (z : Int) = (z : Int) := by simp [IntKind.wrap, IntKind.bits, IntKind.signed]; omega
                have hwb := wrap_bt (z : Int)
                have hzt : ((z : Int)).toNat = z := by omega
                by_cases hz : (z : Int) < 32
                · have a1 := and1 (a / 2 ^ z) (Int.ediv_nonneg ha0 (by exact Int.le_of_lt (Int.pow_pos (by omega)))) (Int.le_trans (Int.ediv_le_self _ ha0) (by omega))
                  have hzb : (a / 2 ^ z % 2 == 1) = bitB a z := by unfold bitB; rw [Bool.eq_iff_iff]; simp
                  cases hbit : bitB a z
                  · rw [hbit] at hzb
                    have HZ2 : Hid (nz a ns k = []) := Lib.hid (by rw [HZ.out]; simp [hzt, hbit])
                    clear HZ hbit
                    go_wp2_with fail
                    go_meet
                    exact ⟨Lib.hid (by rw [HZ2.out, List.append_nil]; exact HRx.out), HBx⟩
                  · rw [hbit] at hzb
                    have HZ2 : Hid (nz a ns k = [bt (z : Int)]) := Lib.hid (by rw [HZ.out]; simp [hzt, hbit]; omega)
                    have hb5 : Below wr.heap.size wr (wr.alloc (.cells #[.int .u8 (v8 (bt (z : Int)))] 5)) := (Below.refl _ _).alloc (Nat.le_refl _) _
                    have HB5 := Lib.hid hb5
                    have HR5 := Lib.hid (HRx.out.below hb5)
                    have s1 : Q.length + 1 ≤ maxLen := by have := HML.out; unfold maxLen; omega
                    have s2 : (Q.length + 1) * 1 ≤ 140737488355328 := by have := HML.out; omega
                    have s3 : W4.heap.size ≤ (wr.alloc (.cells #[.int .u8 (v8 (bt (z : Int)))] 5)).heap.size := Nat.le_trans hws4 hb5.size
                    clear HZ hbit hb5
                    go_wp2_with (at_builtin; refine wpList_row elB rfl _ _ rfl W4.heap.size _ _ _ rfl HR5.out _ 1 _ rfl (src_one wr (.int .u8 (v8 (bt (z : Int)))) 5 rfl) s1 s2 s3 ?_)
                    intro v6 w6 hr6
                    have HR6 := Lib.hid hr6.row
                    have HB6 := Lib.hid (row_more HBx.out HB5.out HRx.out hr6)
                    clear hr6 HR5
                    go_wp2_with fail
                    go_meet
                    exact ⟨Lib.hid (by rw [HZ2.out, List.length_append, List.map_append]; exact HR6.out), HB6⟩
                · have HZ2 : Hid (nz a ns k = []) := Lib.hid (by rw [HZ.out]; simp; intro h; omega)
                  go_wp2_with fail
                  go_meet
                  exact ⟨Lib.hid (by rw [HZ2.out, List.append_nil]; exact HRx.out), HBx⟩
              · have HZ : Hid (nz a ns k = []) := Lib.hid (by unfold nz; simp [hkn])
                have j2 : ¬ (k : Int) < (ns.length : Int) := by omega
                go_wp2_with fail
                go_meet
                exact ⟨Lib.hid (by rw [HZ.out, List.append_nil]; exact HRx.out), HBx⟩
            case rest =>
            obtain ⟨HRy, HBy⟩ := hcut
            have hM8 : M.length ≤ 800000 := HBL.out
            have hnzl := nz_len a ns k
            have hle : (Q ++ nz a ns k).length ≤ 1600001 := by have := HML.out; rw [List.length_append]; omega
            have HLE := Lib.hid hle
            have hwc := HBy.out.size
            obtain ⟨b1, o1, hA1, d0⟩ := BytesAt.get (RowB.bytes (w := wc) (l := M) (((HRr.out.below HBy.out)).weak (Nat.zero_le _))) hkm
            subst hA1
            obtain ⟨x, hx⟩ : ∃ x, x = M[k] := ⟨_, rfl⟩
            rw [← hx] at d0 HS
            obtain ⟨Ay, cy, hvy, -, -⟩ := Row.slice HRy.out
            subst hvy
            clear hx hle hnzl HML HRx HBx hws4
            generalize Q ++ nz a ns k = Q2 at *
            have hb5 : Below wc.heap.size wc (wc.alloc (.cells #[.int .u8 (v8 x)] 5)) := (Below.refl _ _).alloc (Nat.le_refl _) _
            have HB5 := Lib.hid hb5
            have HR5 := Lib.hid (HRy.out.below hb5)
            have s1 : Q2.length + 1 ≤ maxLen := by have := HLE.out; unfold maxLen; omega
            have s2 : (Q2.length + 1) * 1 ≤ 140737488355328 := by have := HLE.out; omega
            have s3 : W4.heap.size ≤ (wc.alloc (.cells #[.int .u8 (v8 x)] 5)).heap.size := Nat.le_trans hwc hb5.size
            clear hb5
            go_wp2_with (at_builtin; refine wpList_row elB rfl _ _ rfl W4.heap.size _ _ _ rfl HR5.out _ 1 _ rfl (src_one wc (.int .u8 (v8 x)) 5 rfl) s1 s2 s3 ?_)
            intro v6 w6 hr6
            have HR6 := Lib.hid hr6.row
            have HB6 := Lib.hid (row_more HBy.out HB5.out HRy.out hr6)
            clear hr6 HR5
            go_wp2_with fail
            go_roundw
            case rel => exact ⟨k + 1, by omega, by go_num, Lib.hid (by rw [HS.out, List.length_append, List.map_append]; exact HR6.out), HB6⟩
            case measure => simp [intOf]; omega
          · obtain rfl : k = M.length := by omega
            rw [List.take_length] at hQ
            have HFN := Lib.hid (fun d hd => feed_noisy M d a ns 0 hd)
            rw [hQ] at HFN
            have j1 : ¬ (M.length : Int) < (M.length : Int) := by omega
            have HBw := Lib.hid (below_then HBr.out HBx.out)
            have HA := Lib.hid (HL2'.out.below HBw.out)
            have HC := Lib.hid (HL3.out.below HBw.out)
            have HMr := Lib.hid (RowB.bytes (w := wr) (l := M) ((HRr.out.below HBx.out).weak (Nat.zero_le _)))
            have HFA := Lib.hid (feed28 w.heap.size wr _ _ HOK.out HA.out M _ HMr.out (by have := HBL.out; omega))
            have hz4 : w3.heap.size ≤ W4.heap.size := HBr.out.size
            have hz5 : W4.heap.size ≤ wr.heap.size := HBx.out.size
            clear hQ HSn hml hk HA HMr
            go_wp2_with fail
            refine HFA.out.mono ?_
            rintro e w10 ⟨u10, v10, xs, rfl, hfed⟩
            have hgr : Grown2 wr w10 w.heap.size none := hfed.ln.grow
            have HC2 := Lib.hid (LnAt_other HC.out hgr (by omega))
            have HQ2 := Lib.hid (RowB.bytes (w := w10) (l := Q) ((HRx.out.grown2 hgr (fun e => by have := (Row.live HRx.out e).1; omega) (fun k hk e => by cases e)).weak (Nat.zero_le _)))
            have HFC := Lib.hid (feed28 w2.heap.size w10 _ _ HOK.out HC2.out Q _ HQ2.out (by have := HML.out; omega))
            have HFD := Lib.hid hfed
            have HG := Lib.hid hgr
            obtain ⟨A10, c10, rfl, -, -⟩ := Row.slice hfed.row
            clear hfed hgr HFA HC HQ2
            go_wp2_with fail
            refine HFC.out.mono ?_
            rintro e w11 ⟨u11, v11, ys, rfl, hfed2⟩
            have hgr2 : Grown2 w10 w11 w2.heap.size none := hfed2.ln.grow
            have hf1 := HFD.out.frames hgr2 (by omega) (fun k e => by cases e)
            have hf2 := hfed2.frames (Grown2.refl w11 w2.heap.size none) (by have := HG.out.size; omega) (fun k e => by cases e)
            rw [HFN.out _ rfl] at hf2
            have HSF := Lib.hid (sameFrames24 _ _ _ _ w11 hf1 hf2)
            have hg11 : Below w.heap.size w w11 := by
              have hb := HB3.out.trans (HBw.out.mono HB3.out.size)
              have h1 := HG.out
              have hzz := hb.size
              refine ⟨hgr2.os.trans (h1.os.trans hb.os), hgr2.tape.trans (h1.tape.trans hb.tape), hgr2.output.trans (h1.output.trans hb.output), Nat.le_trans hzz (Nat.le_trans h1.size hgr2.size), fun k hk => ?_⟩
              exact (hgr2.block k (by have := h1.size; omega) (by omega) (by simp)).trans ((h1.block k (by omega) (by omega) (by simp)).trans (hb.block k hk))
            have HB11 := Lib.hid hg11
            obtain ⟨A11, c11, rfl, -, -⟩ := Row.slice hfed2.row
            clear hf1 hf2 hfed2 hgr2 hg11 HFC HFD
            go_wp2_with fail
            refine HSF.out.mono ?_
            rintro e w12 ⟨rfl, hb12⟩
            have HB12 := Lib.hid (below_then HB11.out hb12)
            clear hb12 HSF
            go_wp2_with fail
            refine (HK.out _).mono ?_
            rintro e w13 ⟨rfl, hb13⟩
            have HB13 := Lib.hid (below_then HB12.out hb13)
            go_wp2_with fail
            go_ret
            exact ⟨rfl, HB13.out⟩
end Go.Proofs.Ytedhldcoddbbdaa.F
