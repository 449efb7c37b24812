import Derived.Test.YtedhldcoddbbdaaVB
set_option linter.unusedVariables false
set_option linter.unusedSimpArgs false
set_option linter.unnecessarySimpa false
namespace Go.Proofs.Ytedhldcoddbbdaa.F
open Go.RowKit Go.Proofs.Ytedhldcoddbbdaa.K
def sumTo (L : List (List (BitVec 8))) (k : Nat) : Nat := ((L.take k).map List.length).sum
theorem sumTo_succ (L : List (List (BitVec 8))) (k : Nat) (h : k < L.length) : sumTo L (k + 1) = sumTo L k + L[k].length := by
  unfold sumTo
  rw [List.take_succ_eq_append_getElem h, List.map_append, List.sum_append]
  simp only [List.map_cons, List.map_nil, List.sum_cons, List.sum_nil, Nat.add_zero]
theorem sumTo_le (L : List (List (BitVec 8))) (k : Nat) : sumTo L k ≤ (L.map List.length).sum := by
  unfold sumTo
  conv => rhs; rw [← List.take_append_drop k L]
  rw [List.map_append, List.sum_append]
  omega
theorem same_true (l m : List (Int × List (BitVec 8))) (v u : Value) (w : World) (h : FramesAt w v l) (h' : FramesAt w u m) (e : l = m) : Calls Try.prog 24 #[v, u] w fun e w' => e = .returned (.bool true) ∧ Below w.heap.size w w' := by
  subst e
  refine (sameFrames24 l l v u w h h').mono ?_
  rintro e w' ⟨rfl, hb⟩
  simp only [decide_true]
  exact ⟨trivial, hb⟩
theorem counts_true (x y : C6) (w : World) (e : x = y) : Calls Try.prog 32 #[x.val, y.val] w fun e w' => e = .returned (.bool true) ∧ Below w.heap.size w w' := by
  subst e
  refine (counts32 x x w).mono ?_
  rintro e w' ⟨rfl, hb⟩
  simp only [decide_true]
  exact ⟨trivial, hb⟩
def Rn.cnt (r : Rn) : C6 := ⟨r.c0, r.c1, r.c2, r.c3, r.c4, r.c5⟩
/-- what the round hands on -/
structure TK (w wr : World) (G1 G2 : Nat) (m a : Int) (n : Nat) (d : Ln) (r : Rn) (u u2 : Value) : Prop where
  two : Two w wr G1 G2 d r u u2
  sim : Sim d r
  ok : d.Ok
  len : r.B.length ≤ n
  mru : r.mru = m
  accm : r.accm = a
set_option maxHeartbeats 16000000 in
set_option maxRecDepth 100000 in
theorem takes6 (m a : Int) (p q : Bool) (L : List (List (BitVec 8))) (vl : Value) (rs : Int) (w : World) (hL : RowsAt w vl L) (hs : (L.map List.length).sum ≤ 1048576) : Calls Try.prog 6 #[.int .i64 m, .int .i64 a, .bool p, .bool q, vl, .int .i64 rs] w fun e w' => e = .returned (.bool true) ∧ Below w.heap.size w w' := by
  have HK := Lib.hid (fun W => known21 W)
  have HLL := Lib.hid hL
  obtain ⟨A, cap, rfl, k1, k2, -, -⟩ := hL.at_
  unfold maxLen at k2
  clear hL
  cases hn : newOk m a
  · have HN := Lib.hid (fun W => new_bad m a p q W hn)
    have HN2 := Lib.hid (fun W => rnew_bad m a p q W hn)
    clear hn
    go_enter Try.func6, Try.ntmps6
    go_wp2_with fail
    refine (HN.out _).mono ?_
    rintro e w1 ⟨rfl, rfl⟩
    go_wp2_with fail
    refine (HN2.out _).mono ?_
    rintro e w1 ⟨rfl, rfl⟩
    go_wp2_with fail
    refine (HK.out _).mono ?_
    rintro e w2 ⟨rfl, hb2⟩
    have HB2 := Lib.hid hb2
    go_wp2_with fail
    go_ret
    exact ⟨rfl, HB2.out⟩
  · have HN := Lib.hid (fun W => new26 m a p q W hn)
    have HN2 := Lib.hid (fun W => rnew29 m a p q W hn)
    have HOK := Lib.hid (kO m a p q hn)
    have hmm : 64 ≤ m ∧ m ≤ 16384 ∧ 0 ≤ a ∧ a ≤ 4294967295 := by
      unfold newOk mapB at hn
      simp only [Bool.and_eq_true, decide_eq_true_eq] at hn
      omega
    have HMM := Lib.hid hmm
    clear hn
    go_enter Try.func6, Try.ntmps6
    go_wp2_with fail
    refine (HN.out _).mono ?_
    rintro e w1 ⟨rfl, hl1, hb1⟩
    have HL1 := Lib.hid hl1
    have HB1 := Lib.hid hb1
    clear hl1 hb1 HN
    go_wp2_with fail
    refine (HN2.out _).mono ?_
    rintro e w2 ⟨rfl, hr2, hb2⟩
    have hg1 := (Array.getElem?_eq_some_iff.1 HL1.out.blk).1
    have HT0 : Hid (TK w w2 w.heap.size w1.heap.size m a (sumTo L 0) (Ln.start m (dropF a) p q) (Rn.start m a p q) (.slice none 0 0) (.slice none 0 0)) := Lib.hid ⟨⟨below_then HB1.out hb2, HL1.out.below hb2, hr2, Nat.le_refl _, HB1.out.size, by omega, fun k hk => by simp [Value.ownBlock] at hk, fun k hk => by simp [Value.ownBlock] at hk⟩, Sim.start m a p q hmm.1, HOK.out, by simp [Rn.start], rfl, rfl⟩
    clear hr2 hb2 HN2 HB1 HL1
    generalize hG1 : w.heap.size = G1 at HT0 ⊢
    generalize hG2 : w1.heap.size = G2 at HT0 ⊢
    clear hG2 hg1 hmm
    go_wp2_with fail
    go_loopw [15] (fun i wr => ∃ (k : Nat) (d : Ln) (r : Rn) (u u2 : Value), k ≤ L.length ∧ i = .int .i64 k ∧ Hid (TK w wr G1 G2 m a (sumTo L k) d r u u2)) (fun i _ => L.length - (intOf i).toNat)
    case atStart => exact ⟨0, _, _, _, _, by omega, rfl, HT0⟩
    case round =>
      clear HT0
      obtain ⟨k, d, r, u, u2, hk, rfl, HT⟩ := hrel
      by_cases hkl : k < L.length
      · have i0 : (0 : Int) ≤ (k : Int) := by omega
        have i1 : (k : Int) < (L.length : Int) := by omega
        go_upto_if 52 with fail
        go_cut [] (fun wx => ∃ (d' : Ln) (r' : Rn) (u' u2' : Value), Hid (TK w wx G1 G2 m a (sumTo L k) d' r' u' u2'))
        case first =>
          by_cases hrs : (k : Int) = rs
          · have z : ((k : Int) == rs) = true := by simpa using hrs
            have HR := Lib.hid (reset30 G1 wr d u HT.out.two.a)
            clear hrs
            go_wp2_with fail
            refine HR.out.mono ?_
            rintro e w3 ⟨rfl, hs3, -⟩
            have ht3 := HT.out.two.ln hs3
            have HS4 := Lib.hid (rclear_s ht3.b)
            have c4 : w3.cell? ⟨G2, 4, none⟩ = some u2 := ht3.b.f.c4
            have f4 := ht3.b.free 4
            obtain ⟨A2, cp2, hu2, -, -⟩ := Row.slice ht3.b.row
            subst hu2
            have HT3 := Lib.hid ht3
            clear ht3 hs3 HR
            go_wp2_with fail
            go_meet
            exact ⟨_, _, _, _, Lib.hid ⟨HT3.out.rn HS4.out, HT.out.sim.clear, HT.out.ok.res, by simp [Rn.clear], HT.out.mru, HT.out.accm⟩⟩
          · have z : ((k : Int) == rs) = false := by simpa using hrs
            clear hrs
            go_wp2_with fail
            go_meet
            exact ⟨_, _, _, _, HT⟩
        case rest =>
        clear HT
        clear d r u u2
        obtain ⟨d, r, u, u2, HT⟩ := hcut
        obtain ⟨A', cap', e1, -, -, hA0, hAr⟩ := HLL.out.at_
        cases e1
        cases A with
        | none => exact absurd hkl (by rw [hA0 rfl]; simp)
        | some ad =>
        obtain ⟨bl, ol, pv, rfl, d00, hpb⟩ := hAr ad rfl k hkl
        have hblt : bl < w.heap.size := World.block_lt_of_cell? w _ d00
        obtain ⟨P, hP⟩ : ∃ P, P = L[k] := ⟨_, rfl⟩
        have HSS := Lib.hid (sumTo_succ L k hkl)
        rw [← hP] at hpb HSS
        have hPl : sumTo L k + P.length ≤ 1048576 := by
          have h1 := HSS.out
          have h2 := sumTo_le L (k + 1)
          omega
        have HPB := Lib.hid hpb
        obtain ⟨Ap, cp, hpv, kp1, kp2, -, -⟩ := hpb.at_
        subst hpv
        clear hP hpb hA0 hAr
        have d0 := (HT.out.two.below.cell hblt).trans d00
        have HLE := Lib.hid (lent P _ wc (HPB.out.below HT.out.two.below) (by omega))
        go_wp2_with fail
        refine HLE.out.mono ?_
        rintro e w5 ⟨ow, rfl, ho5, hb5⟩
        have HO5 := Lib.hid ho5
        have HT5 := Lib.hid (HT.out.two.bel hb5)
        have hlt5 := HT.out.two.lt
        have hz5 := hb5.size
        obtain ⟨go, co, curo, how, -⟩ := ho5.at_
        subst how
        have HF := Lib.hid (feed28 G1 w5 d u HT.out.ok HT5.out.a P _ ho5.bytes (by omega))
        clear HLE d0 ho5 hb5
        go_wp2_with fail
        refine HF.out.mono ?_
        rintro e w6 ⟨u', v6, xs, rfl, hfed⟩
        have HT6 := Lib.hid (HT5.out.ln hfed.ln)
        have HFD := Lib.hid hfed
        have HSIM := Lib.hid (HT.out.sim.feed P)
        have HOK6 := Lib.hid (HT.out.ok.feed P)
        have HFR := Lib.hid (feed_frames HT.out.ok P)
        have HO6 := Lib.hid (HO5.out.grown2 hfed.ln.grow (fun k hk => by
          have h1 := HO5.out.block
          obtain ⟨g', e1, e2, -⟩ := h1
          rw [e1] at hk
          cases hk
          exact ⟨by omega, fun e => by have := (Row.live HT.out.two.a.row e).2; omega⟩))
        obtain ⟨A6, c6, hv6, -, -⟩ := Row.slice hfed.row
        subst hv6
        have HBL := Lib.hid (show r.B.length + P.length ≤ 1099511627776 by have := HT.out.len; omega)
        have hbD : Below w6.heap.size w6 w6.drew := (Below.refl _ w6).drew
        have HTD := Lib.hid (HT6.out.bel hbD)
        have HGO : Hid (∀ k, (Value.slice (some ⟨go, 0, none⟩) P.length co).ownBlock = some k → k = go ∧ wc.heap.size ≤ go) := Lib.hid (fun k hk => by
          have h1 := HO5.out.block
          obtain ⟨g', e1, e2, -⟩ := h1
          simp only [Value.ownBlock, Option.some.injEq] at hk e1
          omega)
        have e6 : w6.cell? ⟨bl, ol + k, none⟩ = some (.slice Ap P.length cp) := (HT6.out.below.cell hblt).trans d00
        generalize hd' : (feedL d P).1 = d' at *
        generalize hr' : (r.feed P).1 = r' at *
        clear hfed HF
        go_upto_region 13 with fail
        have HVB : Hid (P ≠ [] → ∀ k, (Value.slice Ap P.length cp).ownBlock = some k → k < w6.drew.heap.size → k ≠ G2 ∧ u2.ownBlock ≠ some k) := Lib.hid (fun hne k hk _ => by
          have hl0 : 0 < P.length := by cases P with | nil => exact absurd rfl hne | cons => simp
          obtain ⟨b', o', e', hc'⟩ := BytesAt.get HPB.out (k := 0) hl0
          subst e'
          have hlt' := World.block_lt_of_cell? w _ hc'
          simp only [Value.ownBlock, Option.some.injEq] at hk
          subst hk
          have h1 := HT.out.two.g2
          refine ⟨fun e => ?_, fun e => ?_⟩
          · subst e; exact absurd hlt' (Nat.not_lt.2 h1)
          · have := (HT.out.two.ub _ e).1; exact absurd hlt' (Nat.not_lt.2 this))
        have HRF := Lib.hid (rfeed31 G2 w6.drew r u2 (by rw [HT.out.mru]; exact ⟨HMM.out.1, HMM.out.2.1⟩) (by rw [HT.out.accm]; exact HMM.out.2.2) HTD.out.b P _ (HPB.out.below HTD.out.below) HVB.out HBL.out)
        have HX7 := Lib.hid (fun (w7 : World) (u7 v7 : Value) (ys : List Fv) (hfr : FedR w6.drew w7 G2 u2 u7 v7 (r.feed P).1 (r.feed P).2 ys) => (show Two w w7 G1 G2 d' r' u' u7 ∧ FramesAt w7 (.slice A6 xs.length c6) (feedL d P).2 ∧ FramesAt w7 v7 (feedL d P).2 ∧ LentAt w7 wc.heap.size (.slice (some ⟨go, 0, none⟩) P.length co) P ∧ Grown2 w6 w7 G2 u2.ownBlock ∧ ∀ k, u7.ownBlock = some k → u2.ownBlock = some k ∨ w6.heap.size ≤ k from by
          have h1 := HTD.out.rn hfr.rn
          rw [hr'] at h1
          have hg6 : Grown2 w6 w7 G2 u2.ownBlock := (Grown2.below hbD G2 u2.ownBlock).trans hfr.rn.grow (fun k e => .inl e)
          refine ⟨h1, HFD.out.frames hg6 (by omega) (fun k e => by have := (Row.live HT.out.two.b.row e).2; omega), ?_, HO6.out.grown2 hg6 (fun k hk => ?_), hg6, hfr.rn.own⟩
          · rw [HSIM.out.2, ← hfr.told]
            exact frames_of hfr.row (fun x hx => RowB.bytes ((hfr.info x hx).weak (Nat.zero_le _)))
          · have q := HGO.out k hk
            exact ⟨by omega, fun e => by have := (Row.live HT.out.two.b.row e).2; omega⟩))
        have HCN : Hid (d'.cnt = r'.cnt) := Lib.hid (by
          have := HSIM.out.1.cs
          unfold Ln.cnt Rn.cnt
          simp [this])
        clear hbD
        go_cut [93] (fun s wx => s = .bool false ∧ ∃ u7 : Value, Hid (Two w wx G1 G2 d' r' u' u7) ∧ Hid (Grown2 w6 wx G2 u2.ownBlock) ∧ Hid (∀ k, u7.ownBlock = some k → u2.ownBlock = some k ∨ w6.heap.size ≤ k) ∧ Hid (LentAt wx wc.heap.size (.slice (some ⟨go, 0, none⟩) P.length co) P))
        case first =>
          go_region_with (first
            | (go_at_call 31; refine HRF.out.mono ?_; rintro E7 w7 ⟨u7, v7, ys, rfl, hfr⟩; have H7 := Lib.hid (HX7.out w7 u7 v7 ys hfr); obtain ⟨A7, c7, hv7, -, -⟩ := Row.slice hfr.row; subst hv7; have HL7 := Lib.hid (show True from trivial); have e7 : w7.cell? ⟨bl, ol + k, none⟩ = some (.slice Ap P.length cp) := (H7.out.1.below.cell hblt).trans d00; clear hfr)
            | (go_at_call 24; refine (same_true _ _ _ _ w7 H7.out.2.1 H7.out.2.2.1 rfl).mono ?_; rintro E8 w8 ⟨rfl, hb8⟩; have HT8 := Lib.hid (H7.out.1.bel hb8); have HO8 := Lib.hid (H7.out.2.2.2.1.below hb8); have HB8 := Lib.hid hb8; have e8 : w8.cell? ⟨bl, ol + k, none⟩ = some (.slice Ap P.length cp) := (HT8.out.below.cell hblt).trans d00; clear hb8)
            | (go_at_call 20; refine (kept20 P _ _ _ w8 HO8.out (HPB.out.below HT8.out.below)).mono ?_; rintro E9 w9 ⟨rfl, hb9⟩; have HT9 := Lib.hid (HT8.out.bel hb9); have HB9 := Lib.hid (below_then HB8.out hb9); have e9 : w9.cell? ⟨bl, ol + k, none⟩ = some (.slice Ap P.length cp) := (HT9.out.below.cell hblt).trans d00; obtain ⟨-, -, -, -, -, p5, p6, p7, p8, p9, p10⟩ := HT9.out.b.f; clear hb9)
            | (go_at_call 33; refine (counts33 G1 w9 d' u' HT9.out.a).mono ?_; rintro E10 w10 ⟨rfl, hb10⟩; have HT10 := Lib.hid (HT9.out.bel hb10); have HB10 := Lib.hid (below_then HB9.out hb10); have e10 : w10.cell? ⟨bl, ol + k, none⟩ = some (.slice Ap P.length cp) := (HT10.out.below.cell hblt).trans d00; obtain ⟨-, -, -, -, -, q5, q6, q7, q8, q9, q10⟩ := HT10.out.b.f; clear hb10)
            | (go_at_call 32; refine (counts_true d'.cnt r'.cnt w10 HCN.out).mono ?_; rintro E11 w11 ⟨rfl, hb11⟩; have HT11 := Lib.hid (HT10.out.bel hb11); have HB11 := Lib.hid (below_then HB10.out hb11); have e11 : w11.cell? ⟨bl, ol + k, none⟩ = some (.slice Ap P.length cp) := (HT11.out.below.cell hblt).trans d00; clear hb11))
          all_goals go_wp2_with fail
          all_goals go_meet
          all_goals exact ⟨rfl, _, HT11, Lib.hid (H7.out.2.2.2.2.1.trans (Grown2.below HB11.out G2 none) (fun k e => by cases e)), Lib.hid H7.out.2.2.2.2.2, Lib.hid (H7.out.2.2.2.1.below HB11.out)⟩
        case rest =>
        obtain ⟨rfl, u7, HT7, HG7, HU7, HO7⟩ := hcut
        have HFRR := Lib.hid (HFD.out.told)
        have hdis : ∀ x ∈ xs, ∀ k, x.u.ownBlock = some k → w.heap.size ≤ k ∧ k ≠ G1 ∧ k ≠ G2 ∧ u'.ownBlock ≠ some k ∧ u7.ownBlock ≠ some k ∧ (Value.slice A6 xs.length c6).ownBlock ≠ some k := fun x hx k hk => by
          have q1 := Row.live (HFD.out.info x hx) hk
          have q2 := HT5.out.below.size
          refine ⟨by omega, by omega, by omega, fun e => (HFD.out.off k e).2 x hx hk, fun e => ?_, fun e => HFD.out.apart k e x hx hk⟩
          rcases HU7.out k e with q3 | q3
          · have := (Row.live HT.out.two.b.row q3).2; omega
          · omega
        have HDIS := Lib.hid hdis
        have HROW : Hid (Row wc w5.heap.size 24 2 (.slice A6 xs.length c6) xs.length (frs xs) ∧ ∀ x ∈ xs, Row wc w5.heap.size 5 1 x.u x.l.length (x.l.map b8)) := Lib.hid (by
          have q4 := Row.live HT.out.two.b.row (k := 0)
          refine ⟨HFD.out.row.grown2 HG7.out (fun e => by have := (Row.live HFD.out.row e).1; omega) (fun k hk e => by have := (Row.live HFD.out.row hk).1; have := (Row.live HT.out.two.b.row e).2; omega), fun x hx => (HFD.out.info x hx).grown2 HG7.out (fun e => by have := (Row.live (HFD.out.info x hx) e).1; omega) (fun k hk e => by have := (Row.live (HFD.out.info x hx) hk).1; have := (Row.live HT.out.two.b.row e).2; omega)⟩)
        have HLX : Hid (∀ x ∈ xs, x.l.length ≤ 20000) := Lib.hid (fun x hx => by
          have := HFR.out x.fr (by rw [← HFRR.out]; exact List.mem_map_of_mem hx)
          exact this)
        have HND := Lib.hid HFD.out.nd
        have HGB : Hid (w.heap.size ≤ go ∧ go ≠ G1 ∧ go ≠ G2 ∧ u'.ownBlock ≠ some go ∧ u7.ownBlock ≠ some go ∧ go < w5.heap.size) := Lib.hid (by
          have q0 := (HGO.out go rfl).2
          have q1 := HT.out.two.below.size
          have q5 : go < w5.heap.size := by
            obtain ⟨g', e1, -, e3⟩ := HO5.out.block
            simp only [Value.ownBlock, Option.some.injEq] at e1
            omega
          refine ⟨by omega, by omega, by omega, fun e => ?_, fun e => ?_, q5⟩
          · rcases HFD.out.ln.own go e with q3 | q3
            · have := (Row.live HT.out.two.a.row q3).2; omega
            · omega
          · have q6 := HT6.out.below.size
            have q7 := HFD.out.ln.grow.size
            rcases HU7.out go e with q3 | q3
            · have := (Row.live HT.out.two.b.row q3).2; omega
            · omega)
        have HLEN : Hid (r'.B.length ≤ sumTo L (k + 1)) := Lib.hid (by
          have h1 := Rn.feed_len r P
          have h2 := HT.out.len
          have h3 := HSS.out
          rw [hr'] at h1
          omega)
        have HACC : Hid (r'.mru = m ∧ r'.accm = a) := Lib.hid (by
          have h1 := Rn.feed_acc r P
          rw [hr'] at h1
          exact ⟨h1.1.trans HT.out.mru, h1.2.trans HT.out.accm⟩)
        have HSP := Lib.hid (spoil19 _ P wc (show RowB wc _ P from HO7.out.row.weak (Nat.zero_le _)) (by omega))
        clear hdis e6 HT5 HT6 HTD HO5 HO6 HSS HFR HFRR HBL HGO HU7 HG7 HFD HT
        go_wp2_with fail
        refine HSP.out.mono ?_
        rintro e w8 ⟨rfl, hg8⟩
        have HT8 : Hid (Two w w8 G1 G2 d' r' u' u7) := Lib.hid (HT7.out.grown hg8 (fun k hk => by
          simp only [Value.ownBlock, Option.some.injEq] at hk
          subst hk
          have q := HGB.out
          exact ⟨q.1, q.2.1, q.2.2.1, q.2.2.2.1, q.2.2.2.2.1⟩))
        have HRW8 : Hid (Row w8 w5.heap.size 24 2 (.slice A6 xs.length c6) xs.length (frs xs)) := Lib.hid (HROW.out.1.kept hg8 (fun k hk e => by
          simp only [Value.ownBlock, Option.some.injEq] at e
          have := (Row.live HROW.out.1 hk).1
          have := HGB.out.2.2.2.2.2
          omega))
        have HRI8 : Hid (∀ (i : Nat) (h : i < xs.length), 0 ≤ i → Row w8 w5.heap.size 5 1 xs[i].u xs[i].l.length (xs[i].l.map b8)) := Lib.hid (fun i h _ => (HROW.out.2 _ (List.getElem_mem h)).kept hg8 (fun k hk e => by
          simp only [Value.ownBlock, Option.some.injEq] at e
          have := (Row.live (HROW.out.2 _ (List.getElem_mem h)) hk).1
          have := HGB.out.2.2.2.2.2
          omega))
        have hcap6 : xs.length ≤ c6 ∧ c6 ≤ maxLen := by
          obtain ⟨_, _, e, e1, e2⟩ := Row.slice HRW8.out
          cases e
          exact ⟨e1, e2⟩
        unfold maxLen at hcap6
        clear hg8 HSP HROW HT7 HO7 HGB
        go_wp2_with fail
        go_loopw [18] (fun i wr => ∃ (j : Nat), j ≤ xs.length ∧ i = .int .i64 j ∧ Hid (Two w wr G1 G2 d' r' u' u7) ∧ Hid (Row wr w5.heap.size 24 2 (.slice A6 xs.length c6) xs.length (frs xs)) ∧ Hid (∀ (i : Nat) (h : i < xs.length), j ≤ i → Row wr w5.heap.size 5 1 xs[i].u xs[i].l.length (xs[i].l.map b8))) (fun i _ => xs.length - (intOf i).toNat)
        case atStart => exact ⟨0, by omega, rfl, HT8, HRW8, HRI8⟩
        case round =>
          clear HT8 HRW8 HRI8
          obtain ⟨j, hj, rfl, HTr, HRr, HIr⟩ := hrel
          by_cases hjl : j < xs.length
          · have j0 : (0 : Int) ≤ (j : Int) := by omega
            have j1 : (j : Int) < (xs.length : Int) := by omega
            obtain ⟨-, g2⟩ := frs_get xs j hjl
            obtain ⟨bA, eA, -, cA⟩ := HRr.out.cell g2
            subst eA
            have hrx := HIr.out j hjl (Nat.le_refl _)
            obtain ⟨Ax, cx, hux, -, -⟩ := Row.slice hrx
            have HSX := Lib.hid (spoil19 _ _ wr (show RowB wr xs[j].u xs[j].l from hrx.weak (Nat.zero_le _)) (by have := HLX.out _ (List.getElem_mem hjl); omega))
            have HUX := Lib.hid hux
            rw [hux] at cA HSX
            clear hux hrx g2
            go_wp2_with fail
            refine HSX.out.mono ?_
            rintro e w9 ⟨rfl, hg9⟩
            have hg9' : wr.grownBy w9 xs[j].u.ownBlock := by rw [HUX.out]; exact hg9
            have HT9 : Hid (Two w w9 G1 G2 d' r' u' u7) := Lib.hid (HTr.out.grown hg9' (fun k hk => by
              have q := HDIS.out _ (List.getElem_mem hjl) k hk
              exact ⟨q.1, q.2.1, q.2.2.1, q.2.2.2.1, q.2.2.2.2.1⟩))
            have HR9 := Lib.hid (HRr.out.kept hg9' (fun k hk e => (HDIS.out _ (List.getElem_mem hjl) k e).2.2.2.2.2 hk))
            have HI9 : Hid (∀ (i : Nat) (h : i < xs.length), j + 1 ≤ i → Row w9 w5.heap.size 5 1 xs[i].u xs[i].l.length (xs[i].l.map b8)) := Lib.hid (fun i h hji => (HIr.out i h (by omega)).kept hg9' (fun k hk e => by
              have hp := List.pairwise_iff_getElem.1 HND.out j i hjl h (by omega)
              exact hp k e hk))
            clear hg9 hg9' HSX cA
            go_wp2_with fail
            go_roundw
            case rel => exact ⟨j + 1, by omega, by go_num, HT9, HR9, HI9⟩
            case measure => simp [intOf]; omega
          · obtain rfl : j = xs.length := by omega
            have j1 : ¬ (xs.length : Int) < (xs.length : Int) := by omega
            go_wp2_with fail
            go_roundw
            case rel => exact ⟨k + 1, d', r', u', u7, by omega, by go_num, Lib.hid ⟨HTr.out, HSIM.out.1, HOK6.out, HLEN.out, HACC.out.1, HACC.out.2⟩⟩
            case measure => simp [intOf]; omega
      · obtain rfl : k = L.length := by omega
        have i1 : ¬ (L.length : Int) < (L.length : Int) := by omega
        go_wp2_with fail
        refine (HK.out _).mono ?_
        rintro e w3 ⟨rfl, hb3⟩
        have HB3 := Lib.hid (below_then HT.out.two.below hb3)
        go_wp2_with fail
        go_ret
        exact ⟨rfl, HB3.out⟩
end Go.Proofs.Ytedhldcoddbbdaa.F
