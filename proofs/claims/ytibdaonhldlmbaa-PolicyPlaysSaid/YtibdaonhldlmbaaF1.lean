import Derived.Test.YtibdaonhldlmbaaE4
import Derived.Test.YtibdaonhldlmbaaF0
import Derived.Deep.DeepCutAuto
set_option linter.unusedVariables false
set_option linter.unusedSimpArgs false
namespace Go.Proofs.Ytibdaonhldlmbaa.F
open Go.RowKit Go.Proofs.Ytibdaonhldlmbaa.K
def NwS (a p : Pol) : Prop := a.now = p.now
theorem held_now (p : Pol) : NwS p.held.1 p := by unfold Pol.held; split <;> exact rfl
theorem fin_now (p : Pol) : NwS p.fin.1 p := by
  unfold Pol.fin
  split
  · exact held_now { p with st := 1 }
  · exact rfl
theorem clo_now (n : Nat) (p : Pol) : NwS (clo n p).1 p := by
  unfold clo
  split
  · unfold Pol.due1; split <;> exact rfl
  · split
    · unfold Pol.due2; split
      · exact held_now p
      · exact rfl
    · split
      · unfold Pol.start1; split <;> exact rfl
      · split
        · exact rfl
        · split
          · unfold Pol.packet2; split
            · split <;> exact rfl
            · exact rfl
          · split
            · unfold Pol.up1; split
              · exact rfl
              · split
                · split
                  · exact held_now { p with fa := 0, wa := true, st := 1 }
                  · exact rfl
                · exact rfl
            · split
              · exact rfl
              · split
                · exact rfl
                · split
                  · exact rfl
                  · unfold Pol.ldown1; split
                    · split
                      · exact rfl
                      · exact fin_now p.failed
                    · split
                      · exact fin_now { p with en := p.now, wy := 5, wa := p.pe }
                      · split
                        · exact fin_now { p with en := p.now, wa := p.wa || (p.pe && (p.wy != 3)) }
                        · exact fin_now { p with en := p.now }
theorem does_now (cs : List (List Int × Nat)) (p : Pol) : NwS (does cs p).1 p := by
  unfold does
  split
  · exact rfl
  · exact clo_now _ _
theorem due_now (p : Pol) : NwS p.due.1 p := by
  unfold Pol.due Pol.due1 Pol.due2
  split
  · split <;> exact rfl
  · split
    · split
      · exact held_now p
      · exact rfl
    · exact rfl
theorem atC_now {cs : List (List Int × Nat)} {t : Int} {p : Pol} (h : (atC cs t p).2.2 = 0) : (atC cs t p).1.now = t := by
  unfold atC at h ⊢
  split at h
  · cases h
  · rename_i hn
    rw [if_neg hn]
    exact (does_now cs _).trans (due_now _)
theorem gi_start (c : Cf) (h : c.ok = true) : Gi c.pol 0 false false := by
  refine ⟨by omega, by simp [Cf.pol], fun h1 _ => ?_, fun _ => rfl, fun _ _ hh => by cases hh⟩
  simp only [Cf.pol] at h1 ⊢
  exact h1
theorem asks13 (k by_ : Int) (m : Bool) (w : World) : Calls Try.prog 13 #[.agg #[.int .i64 k, .int .i64 by_, .bool m]] w fun e w' => e = .returned (.bool (asksB k m)) ∧ Below w.heap.size w w' := by
  have hb : Below w.heap.size w (w.alloc (.cells #[.int .i64 k, .int .i64 by_, .bool m] 33)) := (Below.refl _ _).alloc (Nat.le_refl _) _
  unfold asksB
  by_cases h2 : k = 2
  · subst h2
    go_enter Try.func13, Try.ntmps13
    go_wp2
    go_ret
    exact ⟨rfl, hb⟩
  · have x2 : (k == 2) = false := beq_eq_false_iff_ne.2 h2
    by_cases h1 : k = 1
    · subst h1
      clear h2 x2
      go_enter Try.func13, Try.ntmps13
      go_wp2
      go_ret
      exact ⟨by simp, hb⟩
    · have x1 : (k == 1) = false := beq_eq_false_iff_ne.2 h1
      have D : Hid (decide (k = 2) = false ∧ decide (k = 1) = false) := Lib.hid ⟨by simpa using h2, by simpa using h1⟩
      clear h1 h2
      go_enter Try.func13, Try.ntmps13
      go_wp2
      go_ret
      exact ⟨by rw [D.out.1, D.out.2]; rfl, hb⟩
def fl1 (k f : Int) : Int := if k = 2 then 0 else f
def b53 (k s : Int) : Bool := decide (k = 5) && decide (s = 3)
def b52 (k s : Int) : Bool := decide (k = 5) && decide (s = 2)
def gA1 (b a : Bool) : Bool := if b = true then false else a
def gA2 (b a s : Bool) : Bool := gA1 b a || s
def fl2 (k s f : Int) : Int := if b52 k s = true then f + 1 else fl1 k f
def fl3 (k s s' f : Int) : Int := if s' = 3 then 0 else fl2 k s f
def rn3 (s' : Int) (r : Bool) : Bool := if s' = 3 then true else r
theorem gA2_eq (k s : Int) (m a : Bool) : ((if k = 5 ∧ s = 3 then false else a) || asksB k m) = gA2 (b53 k s) a (asksB k m) := by
  unfold gA2 gA1 b53
  by_cases h : k = 5 <;> by_cases h2 : s = 3 <;> simp [h, h2]
theorem fl3_eq (k s s' f : Int) : (if s' = 3 then 0 else if k = 5 ∧ s = 2 then f + 1 else if k = 2 then 0 else f) = fl3 k s s' f := by
  unfold fl3 fl2 fl1 b52
  by_cases h : k = 5 <;> by_cases h2 : s = 2 <;> simp [h, h2]
/-- one round, in the walk's own words -/
structure GiW (p : Pol) (k : Int) (m : Bool) (f : Int) (ask ran : Bool) (q : Pol) (L : List Int) (sf : Gs) : Prop where
  len : L.length ≤ 2
  scan : gscan p.de p.pe k m ⟨p.st, gA2 (b53 k p.st) ask (asksB k m), ran⟩ L = some sf
  gi : Gi q (fl3 k p.st q.st f) sf.ask (rn3 q.st sf.ran)
  fail : b52 k p.st = true → 0 < p.mf → ¬ (p.mf < f + 1) ∧ (f + 1 = p.mf → q.st = 5)
  same : q.mf = p.mf ∧ q.de = p.de ∧ q.pe = p.pe
theorem gi_walk {p : Pol} {k f : Int} {m ask ran : Bool} {q : Pol} {L : List Int} {er : Int} (h : GiOut p k m f ask ran (q, L, er)) : er = 0 ∧ ∃ sf, GiW p k m f ask ran q L sf := by
  obtain ⟨h1, h2, ⟨s, h3, h4⟩, h5, h6⟩ := h
  simp only at h1 h2 h3 h4 h5 h6
  rw [gA2_eq] at h3
  rw [fl3_eq] at h4
  refine ⟨h1, s, h2, h3, h4, fun hb => ?_, h6⟩
  unfold b52 at hb
  simp only [Bool.and_eq_true, decide_eq_true_eq] at hb
  exact h5 hb.1 hb.2
theorem gmv_cases {de pe : Bool} {k : Int} {m : Bool} {s s2 : Gs} {x : Int} (h : gmv de pe k m s x = some s2) : (x = 2 ∧ (s.at_ = 2 ∨ s.at_ = 3) ∧ s2 = ⟨4, asksB k m, s.ran⟩) ∨ (x = 1 ∧ (k ≠ 5 → s.at_ = 0 ∨ s.at_ = 1 ∨ s.at_ = 5) ∧ (k = 5 → s.at_ ≠ 0 ∧ s.at_ ≠ 5) ∧ ¬ (de = true ∧ pe = false ∧ s.ran = true ∧ s.ask = false) ∧ s2 = ⟨2, s.ask, false⟩) := by
  unfold gmv at h
  split at h
  · rename_i hx
    split at h
    · rename_i ha
      cases h
      exact .inl ⟨hx, ha, rfl⟩
    · cases h
  · split at h
    · rename_i hx
      split at h
      · cases h
      · rename_i hn
        cases h
        exact .inr ⟨hx.1, hx.2.1, hx.2.2, hn, rfl⟩
    · cases h
theorem gi_to {q : Pol} {a a' : Int} {b c c' : Bool} (h : Gi q a b c) (h1 : a = a') (h2 : c = c') : Hid (Gi q a' b c') := by
  subst h1 h2
  exact Lib.hid h
theorem fl2_rng (k s : Int) {f : Int} (h : 0 ≤ f) : 0 ≤ fl2 k s f ∧ fl2 k s f ≤ f + 1 := by
  unfold fl2 fl1
  split
  · omega
  · split <;> omega
theorem fl1_52 {k s : Int} (f : Int) (h : b52 k s = true) : fl1 k f = f ∧ fl2 k s f = f + 1 := by
  unfold fl2
  rw [if_pos h]
  unfold b52 at h
  simp only [Bool.and_eq_true, decide_eq_true_eq] at h
  exact ⟨if_neg (by omega), rfl⟩
theorem fl2_f {k s : Int} (f : Int) (h : b52 k s = false) : fl2 k s f = fl1 k f := by
  unfold fl2
  rw [h]
  rfl
/-- the configuration's part -/
def CfG (p : Pol) (c : Cf) : Prop := p.mf = c.mf ∧ p.de = c.de ∧ p.pe = c.pe
set_option maxHeartbeats 8000000 in
set_option maxRecDepth 100000 in
theorem law_gives (c : Cf) (l : List O) (v : Value) (w : World) (h : RecsAt w v 3 O.cells l) : Calls Try.prog 4 #[c.v, v] w fun e w' => e = .returned (.bool true) ∧ Below w.heap.size w w' := by
  have H := Lib.hid h
  obtain ⟨A, cap, rfl, k1, k2, k3, k4⟩ := h
  unfold maxLen at k2
  have K3 := Lib.hid k3
  clear k3 k4
  have hb0 : Below w.heap.size w (w.alloc (.cells c.cells 25)) := (Below.refl _ _).alloc (Nat.le_refl _) _
  have hx0 : Bx (w.alloc (.cells c.cells 25)) w.heap.size c := ⟨heap_alloc_new _ _⟩
  have hs0 : (w.alloc (.cells c.cells 25)).heap.size = w.heap.size + 1 := by simp
  cases hok : c.ok
  · have NB := Lib.hid (new8_bad c (w.alloc (.cells c.cells 25)) hok)
    clear hok hx0 hs0
    simp only [Cf.v] at NB ⊢
    simp only [Cf.cells] at NB hb0 ⊢
    go_enter Try.func4, Try.ntmps4
    go_wp2_with (refine wpList_cf w c rfl 2 rfl rfl ?_)
    refine NB.out.mono ?_
    rintro e w1 ⟨rfl, b1⟩
    have B1 := below_then hb0 b1
    clear NB hb0 b1
    go_wp2_with fail
    refine (awake _).mono ?_
    rintro e w2 ⟨rfl, bb⟩
    go_wp2
    go_ret
    exact ⟨rfl, below_then B1 bb⟩
  · have NG := Lib.hid (new8 c (w.alloc (.cells c.cells 25)) hok)
    have T0 := Lib.hid (gi_start c hok)
    have X0 := Lib.hid hx0
    clear hok hx0
    simp only [Cf.v] at NG ⊢
    simp only [Cf.cells] at NG hb0 hs0 X0 ⊢
    go_enter Try.func4, Try.ntmps4
    go_wp2_with (refine wpList_cf w c rfl 2 rfl rfl ?_)
    refine NG.out.mono ?_
    rintro e w1 ⟨rfl, p1, b1⟩
    have B1 := below_then hb0 b1
    have X1 := Lib.hid (X0.out.below b1)
    have P1 := Lib.hid p1
    rw [hs0] at P1
    have hs1 := p1.lt
    rw [hs0] at hs1 ⊢
    clear NG hb0 b1 p1 X0 hs0
    go_wp2_with fail
    go_loopw [7, 8, 9, 10, 11, 12, 13, 14, 15, 16, 18, 31] (fun nw fl ak rn _ _ _ _ _ _ _ i wr => ∃ (k : Nat) (p : Pol) (now f : Int) (ask ran : Bool), k ≤ l.length ∧ k ≤ 300 ∧ i = .int .i64 k ∧ nw = .int .i64 now ∧ fl = .int .i64 f ∧ ak = .bool ask ∧ rn = .bool ran ∧ 0 ≤ now ∧ now ≤ 5000 * k ∧ p.now ≤ now ∧ 0 ≤ f ∧ f ≤ k ∧ p.fok ∧ Hid (CfG p c) ∧ Hid (Gi p f ask ran) ∧ Hid (PolAt wr (w.heap.size + 1 + 1) p) ∧ Hid (Bx wr w.heap.size c) ∧ Below w.heap.size w wr) (fun _ _ _ _ _ _ _ _ _ _ _ i _ => l.length - (intOf i).toNat)
    case atStart => exact ⟨0, c.pol, 0, 0, false, false, by omega, by omega, rfl, rfl, rfl, rfl, rfl, by omega, by omega, by simp [Cf.pol], by omega, by omega, by simp [Pol.fok, Cf.pol], Lib.hid ⟨rfl, rfl, rfl⟩, T0, P1, X1, B1⟩
    case round =>
      clear T0 P1 X1 B1 hs1
      obtain ⟨k, p, now, f, ask, ran, hk, hk3, rfl, rfl, rfl, rfl, rfl, hn0, hnow, hpn, hf0, hfk, hf, hcf, HT, HP, HX, hB⟩ := hrel
      by_cases hkl : k < l.length
      · obtain ⟨A', cap', e0, -, -, -, hc⟩ := (H.out.below hB).at_
        cases e0
        obtain ⟨ad, rfl⟩ : ∃ ad, A = some ad := by
          cases A with
          | none => rw [K3.out rfl] at hkl; cases hkl
          | some ad => exact ⟨ad, rfl⟩
        obtain ⟨bk, o, rfl, hlt, hc⟩ := hc ad rfl k hkl
        have c0 := hc 0 (.int .i64 l[k].k) rfl
        have c1 := hc 1 (.int .i64 l[k].by_) rfl
        have c2 := hc 2 (.bool l[k].m) rfl
        clear hc
        simp only [Nat.add_zero] at c0
        generalize l[k] = op at c0 c1 c2
        obtain ⟨kd, by_, m⟩ := op
        try simp only at c0 c1 c2
        have hi0 : (0 : Int) ≤ (k : Int) := by omega
        have hia : (k : Int) < (l.length : Int) := by omega
        have hbx : Below wr.heap.size wr (wr.alloc (.cells #[.int .i64 kd, .int .i64 by_, .bool m] 33)) := (Below.refl _ wr).alloc (Nat.le_refl _) _
        have B := below_then hB hbx
        have P1 := Lib.hid (HP.out.below hbx)
        have X1 := Lib.hid (HX.out.below hbx)
        clear hbx
        by_cases hk300 : k < 300
        · have hd : ¬ (300 : Int) ≤ (k : Int) := by omega
          have hsm := smo_rng by_ 5000 (by decide)
          have hwt : wrap64 (now + smo by_ 5000) = now + smo by_ 5000 := by unfold wrap64; omega
          have TR := Lib.hid (gi_round kd m HT.out (t := now + smo by_ 5000) (by omega) (by omega) (by omega) (by omega))
          go_wp2_with fail
          refine (some10 by_ 5000 _ (by decide)).mono ?_
          rintro e1 w2 ⟨rfl, rfl⟩
          generalize htt : now + smo by_ 5000 = t at *
          go_wp2_with fail
          refine (state11 _ p _ P1.out).mono ?_
          rintro e1 w2 ⟨rfl, rfl⟩
          go_wp2_with fail
          refine (call12 _ p _ kd by_ m t P1.out hf).mono ?_
          rintro e1 w2 ⟨⟨u, rfl, o2⟩, p2, g2⟩
          have hf2 := atC_fok (csOf kd m) t hf
          have her := TR.out.ok
          have hqn := atC_now her
          have B2 := below_grown B g2 B.size (by omega)
          have P2 := Lib.hid p2
          have O2 := Lib.hid o2
          have ltx := X1.out.blk
          have X2 := Lib.hid (X1.out.keep g2 (by simp; omega))
          have hpl := HP.out.lt
          have hopx : w2.heap[wr.heap.size]? = some (.cells #[.int .i64 kd, .int .i64 by_, .bool m] 33 (0, 0)) := (g2.block wr.heap.size (by simp) (by simp; omega)).trans (heap_alloc_new _ _)
          have f0 : w2.cell? ⟨wr.heap.size, 0, none⟩ = some (.int .i64 kd) := (cell_of_row _ _ _ _ _ _ hopx).trans rfl
          have f2 : w2.cell? ⟨wr.heap.size, 2, none⟩ = some (.bool m) := (cell_of_row _ _ _ _ _ _ hopx).trans rfl
          have f1 : w2.cell? ⟨wr.heap.size, 1, none⟩ = some (.int .i64 by_) := (cell_of_row _ _ _ _ _ _ hopx).trans rfl
          have OX := Lib.hid hopx
          have wrl : wr.heap.size < w2.heap.size := (Array.getElem?_eq_some_iff.1 hopx).1
          clear hopx
          clear p2 o2 ltx
          generalize atC (csOf kd m) t p = rr at *
          obtain ⟨q, la2, er⟩ := rr
          simp only at her hf2 hqn
          subst her
          obtain ⟨-, sf, tr⟩ := gi_walk TR.out
          have SF := Lib.hid tr
          have hln := tr.len
          clear TR tr
          have O2 : Hid (Own _ w2 u la2) := O2
          obtain ⟨A2, cap2, rfl, q1, q2, q3, q4⟩ := O2.out.ints.at_
          have Q4 := Lib.hid q4
          clear q4 q3
          unfold maxLen at q2
          have Q3 : Hid (0 < la2.length → A2 ≠ none) := Lib.hid (by
            intro h0 hA
            subst hA
            obtain ⟨_, _, e2, -, -, h3, -⟩ := O2.out.ints.at_
            cases e2
            rw [h3 rfl] at h0
            cases h0)
          clear Q3 Q4 hwt
          have O2 : Hid (Own (wr.heap.size + 1) w2 (.slice A2 la2.length cap2) la2) := Lib.hid (O2.out.weak (by simp))
          have HCQ : Hid (CfG q c) := Lib.hid ⟨SF.out.same.1.trans hcf.out.1, SF.out.same.2.1.trans hcf.out.2.1, SF.out.same.2.2.trans hcf.out.2.2⟩
          have SC : Hid (gscan c.de c.pe kd m ⟨p.st, gA2 (b53 kd p.st) ask (asksB kd m), ran⟩ la2 = some sf) := Lib.hid (by rw [← hcf.out.2.1, ← hcf.out.2.2]; exact SF.out.scan)
          have SG := Lib.hid SF.out.gi
          have SL : Hid (b52 kd p.st = true → 0 < c.mf → ¬ (c.mf < f + 1) ∧ (f + 1 = c.mf → q.st = 5)) := Lib.hid (by rw [← hcf.out.1]; exact SF.out.fail)
          clear SF hcf
          have hl3 : ¬ (2 : Int) < (la2.length : Int) := by omega
          generalize p.st = ps at *
          generalize hdg : c.de = de at *
          generalize hpg : c.pe = pe at *
          generalize hmg : c.mf = mf at *
          have G3 := Lib.hid (And.intro hdg (And.intro hpg hmg))
          clear hdg hpg hmg
          have dd := X2.out.cde
          have dp := X2.out.cpe
          have dm := X2.out.cmf
          rw [G3.out.1] at dd
          rw [G3.out.2.1] at dp
          rw [G3.out.2.2] at dm
          go_upto_if 61 with fail
          go_cut [8] (fun vf wx => w2 = wx ∧ vf = .int .i64 (fl1 kd f))
          case first => as_aux_lemma =>
            by_cases k2 : kd = 2
            · subst k2
              go_wp2_with fail
              go_meet
              exact ⟨rfl, rfl⟩
            · have D : Hid (fl1 kd f = f) := Lib.hid (if_neg k2)
              have x2 : (kd == 2) = false := beq_eq_false_iff_ne.2 k2
              clear k2
              go_wp2_with fail
              go_meet
              exact ⟨rfl, by rw [D.out]⟩
          case rest =>
            obtain ⟨rfl, rfl⟩ := hcut
            go_upto_region 20 with fail
            go_cut [68] (fun v wx => w2 = wx ∧ v = .bool (b53 kd ps))
            case first => as_aux_lemma =>
              by_cases k5 : kd = 5
              · subst k5
                by_cases s3 : ps = 3
                · subst s3
                  go_wp2_with fail
                  go_meet
                  exact ⟨rfl, rfl⟩
                · have D : Hid (b53 5 ps = false) := Lib.hid (by simp [b53, s3])
                  have x3 : (ps == 3) = false := beq_eq_false_iff_ne.2 s3
                  clear s3
                  go_wp2_with fail
                  go_meet
                  exact ⟨rfl, by rw [D.out]⟩
              · have D : Hid (b53 kd ps = false) := Lib.hid (by simp [b53, k5])
                have x3 : (kd == 5) = false := beq_eq_false_iff_ne.2 k5
                clear k5
                go_wp2_with fail
                go_meet
                exact ⟨rfl, by rw [D.out]⟩
            case rest =>
              obtain ⟨rfl, rfl⟩ := hcut
              generalize b53 kd ps = B53 at *
              go_upto_if 68 with fail
              go_cut [9] (fun v wx => w2 = wx ∧ v = .bool (gA1 B53 ask))
              case first => as_aux_lemma =>
                cases B53
                · go_wp2_with fail
                  go_meet
                  exact ⟨rfl, rfl⟩
                · go_wp2_with fail
                  go_meet
                  exact ⟨rfl, rfl⟩
              case rest =>
                obtain ⟨rfl, rfl⟩ := hcut
                unfold gA2 at SC
                generalize gA1 B53 ask = A1 at *
                go_upto_region 22 with fail
                go_cut [9] (fun v wx => v = .bool (A1 || asksB kd m) ∧ Below w2.heap.size w2 wx)
                case first => as_aux_lemma =>
                  cases A1
                  · go_wp2_with fail
                    refine (asks13 kd by_ m _).mono ?_
                    rintro e9 w9 ⟨rfl, b9⟩
                    go_wp2_with fail
                    go_meet
                    exact ⟨rfl, b9⟩
                  · go_wp2_with fail
                    go_meet
                    exact ⟨rfl, Below.refl _ _⟩
                case rest =>
                  obtain ⟨rfl, b9⟩ := hcut
                  have P3 := Lib.hid (P2.out.below b9)
                  have X3 := Lib.hid (X2.out.below b9)
                  have O3 := Lib.hid (O2.out.below b9)
                  have B3 := below_then B2 b9
                  have OY := Lib.hid ((b9.block _ wrl).trans OX.out)
                  clear f0 f1 f2 OX dd dp dm P2 X2 O2 B2 b9
                  obtain ⟨wo, rfl⟩ : ∃ wo : World, wo = wc := ⟨_, rfl⟩
                  obtain ⟨wk, rfl⟩ : ∃ wk : World, wk = wr := ⟨_, rfl⟩
                  go_wp2_with fail
                  go_loopw [9, 10, 16, 18, 77] (fun ak rn av _ i2 wx => ∃ (n : Nat) (s : Gs), n ≤ la2.length ∧ i2 = .int .i64 n ∧ ak = .bool s.ask ∧ rn = .bool s.ran ∧ av = .int .i64 s.at_ ∧ Hid (gscan de pe kd m s (la2.drop n) = some sf) ∧ Hid (PolAt wx (w.heap.size + 1 + 1) q) ∧ Hid (Bx wx w.heap.size c) ∧ Hid (Own (wk.heap.size + 1) wx (.slice A2 la2.length cap2) la2) ∧ Hid (wx.heap[wk.heap.size]? = some (.cells #[.int .i64 kd, .int .i64 by_, .bool m] 33 (0, 0))) ∧ Below w.heap.size w wx) (fun _ _ _ _ i2 _ => la2.length - (intOf i2).toNat)
                  case atStart => exact ⟨0, _, by omega, rfl, rfl, rfl, rfl, SC, P3, X3, O3, OY, B3⟩
                  case round =>
                    clear SC P3 X3 O3 OY B3
                    obtain ⟨n, ⟨av, as_, rs⟩, hn, rfl, rfl, rfl, rfl, SC, P3, X3, O3, OY, B3⟩ := hrel
                    by_cases hnl : n < la2.length
                    · obtain ⟨A9, cap9, e9, -, -, q3, q4⟩ := O3.out.ints.at_
                      cases e9
                      obtain ⟨ad2, rfl⟩ : ∃ ad, A2 = some ad := by
                        cases A2 with
                        | none => rw [q3 rfl] at hnl; cases hnl
                        | some ad => exact ⟨ad, rfl⟩
                      obtain ⟨b2, o2', rfl, hc0⟩ := q4 ad2 rfl n hnl
                      clear q3 q4
                      have hsc := SC.out
                      rw [List.drop_eq_getElem_cons hnl] at hsc
                      generalize la2[n] = x0 at *
                      obtain ⟨s2, hg, hr⟩ := gscan_cons hsc
                      have HR := Lib.hid hr
                      clear hsc hr SC
                      have hl1 : (n : Int) < (la2.length : Int) := by omega
                      have f0 : wr.cell? ⟨wk.heap.size, 0, none⟩ = some (.int .i64 kd) := (cell_of_row _ _ _ _ _ _ OY.out).trans rfl
                      have f1 : wr.cell? ⟨wk.heap.size, 1, none⟩ = some (.int .i64 by_) := (cell_of_row _ _ _ _ _ _ OY.out).trans rfl
                      have f2 : wr.cell? ⟨wk.heap.size, 2, none⟩ = some (.bool m) := (cell_of_row _ _ _ _ _ _ OY.out).trans rfl
                      rcases gmv_cases hg with ⟨rfl, ha, rfl⟩ | ⟨rfl, ha, hb, hc, rfl⟩
                      · clear hg
                        simp only at ha
                        rcases ha with rfl | rfl
                        · go_wp2_with fail
                          refine (asks13 kd by_ m _).mono ?_
                          rintro e9 w9 ⟨rfl, b9⟩
                          have P4 := Lib.hid (P3.out.below b9)
                          have X4 := Lib.hid (X3.out.below b9)
                          have O4 := Lib.hid (O3.out.below b9)
                          have B4 := below_then B3 b9
                          have OZ := Lib.hid ((b9.block _ (Array.getElem?_eq_some_iff.1 OY.out).1).trans OY.out)
                          clear P3 X3 O3 B3 OY f0 f1 f2 hc0
                          go_wp2_with fail
                          go_roundw
                          case rel => exact ⟨n + 1, _, by omega, by go_num, rfl, rfl, rfl, HR, P4, X4, O4, OZ, B4⟩
                          case measure => simp [intOf]; omega
                        · go_wp2_with fail
                          refine (asks13 kd by_ m _).mono ?_
                          rintro e9 w9 ⟨rfl, b9⟩
                          have P4 := Lib.hid (P3.out.below b9)
                          have X4 := Lib.hid (X3.out.below b9)
                          have O4 := Lib.hid (O3.out.below b9)
                          have B4 := below_then B3 b9
                          have OZ := Lib.hid ((b9.block _ (Array.getElem?_eq_some_iff.1 OY.out).1).trans OY.out)
                          clear P3 X3 O3 B3 OY f0 f1 f2 hc0
                          go_wp2_with fail
                          go_roundw
                          case rel => exact ⟨n + 1, _, by omega, by go_num, rfl, rfl, rfl, HR, P4, X4, O4, OZ, B4⟩
                          case measure => simp [intOf]; omega
                      · clear hg
                        simp only at ha hb hc
                        have HA := Lib.hid ha
                        have HB := Lib.hid hb
                        have HC := Lib.hid hc
                        clear ha hb hc
                        go_upto_region 32 with fail
                        go_cut [122] (fun v wx => wr = wx ∧ v = .bool false)
                        case first => as_aux_lemma =>
                          by_cases k5 : kd = 5
                          · have h5 := HB.out k5
                            subst k5
                            have y0 : (av == 0) = false := beq_eq_false_iff_ne.2 h5.1
                            have y5 : (av == 5) = false := beq_eq_false_iff_ne.2 h5.2
                            clear h5
                            go_wp2_with fail
                            go_meet
                            exact ⟨rfl, rfl⟩
                          · have h5 := HA.out k5
                            have y1 : (kd == 5) = false := beq_eq_false_iff_ne.2 k5
                            have y2 : (kd != 5) = true := bne_iff_ne.2 k5
                            clear k5
                            rcases h5 with rfl | rfl | rfl
                            · go_wp2_with fail
                              go_meet
                              exact ⟨rfl, rfl⟩
                            · go_wp2_with fail
                              go_meet
                              exact ⟨rfl, rfl⟩
                            · go_wp2_with fail
                              go_meet
                              exact ⟨rfl, rfl⟩
                        case rest =>
                          obtain ⟨rfl, rfl⟩ := hcut
                          have dd := X3.out.cde
                          have dp := X3.out.cpe
                          rw [G3.out.1] at dd
                          rw [G3.out.2.1] at dp
                          go_upto_region 34 with fail
                          go_cut [136] (fun v wx => wr = wx ∧ v = .bool false)
                          case first => as_aux_lemma =>
                            cases de
                            · go_wp2_with fail
                              go_meet
                              exact ⟨rfl, rfl⟩
                            · cases pe
                              · cases rs
                                · go_wp2_with fail
                                  go_meet
                                  exact ⟨rfl, rfl⟩
                                · cases as_
                                  · exact absurd ⟨rfl, rfl, rfl, rfl⟩ HC.out
                                  · go_wp2_with fail
                                    go_meet
                                    exact ⟨rfl, rfl⟩
                              · go_wp2_with fail
                                go_meet
                                exact ⟨rfl, rfl⟩
                          case rest =>
                            obtain ⟨rfl, rfl⟩ := hcut
                            clear f0 f1 f2 hc0 dd dp
                            go_wp2_with fail
                            go_roundw
                            case rel => exact ⟨n + 1, _, by omega, by go_num, rfl, rfl, rfl, HR, P3, X3, O3, OY, B3⟩
                            case measure => simp [intOf]; omega
                    · obtain rfl : n = la2.length := by omega
                      have hs := SC.out
                      rw [List.drop_length] at hs
                      unfold gscan at hs
                      cases hs
                      clear hn hnl SC
                      have f0 : wr.cell? ⟨wk.heap.size, 0, none⟩ = some (.int .i64 kd) := (cell_of_row _ _ _ _ _ _ OY.out).trans rfl
                      have dm := X3.out.cmf
                      rw [G3.out.2.2] at dm
                      clear OY O3
                      have F2 := Lib.hid (fl2_rng kd ps hf0)
                      go_upto_region 39 with fail
                      go_cut [144] (fun v wx => wr = wx ∧ v = .bool (b52 kd ps))
                      case first => as_aux_lemma =>
                        by_cases k5 : kd = 5
                        · subst k5
                          by_cases s3 : ps = 2
                          · subst s3
                            go_wp2_with fail
                            go_meet
                            exact ⟨rfl, rfl⟩
                          · have D : Hid (b52 5 ps = false) := Lib.hid (by simp [b52, s3])
                            have x3 : (ps == 2) = false := beq_eq_false_iff_ne.2 s3
                            clear s3
                            go_wp2_with fail
                            go_meet
                            exact ⟨rfl, by rw [D.out]⟩
                        · have D : Hid (b52 kd ps = false) := Lib.hid (by simp [b52, k5])
                          have x3 : (kd == 5) = false := beq_eq_false_iff_ne.2 k5
                          clear k5
                          go_wp2_with fail
                          go_meet
                          exact ⟨rfl, by rw [D.out]⟩
                      case rest =>
                        obtain ⟨rfl, rfl⟩ := hcut
                        have E1 : Hid (b52 kd ps = true → fl1 kd f = f ∧ fl2 kd ps f = f + 1) := Lib.hid (fl1_52 f)
                        have E2 : Hid (b52 kd ps = false → fl2 kd ps f = fl1 kd f) := Lib.hid (fl2_f f)
                        have SG2 : Hid (Gi q (if q.st = 3 then 0 else fl2 kd ps f) as_ (rn3 q.st rs)) := SG
                        clear SG
                        generalize b52 kd ps = b5 at *
                        generalize fl1 kd f = g1 at *
                        generalize fl2 kd ps f = g2 at *
                        go_upto_if 144 with fail
                        go_cut [8] (fun v wx => wr = wx ∧ v = .int .i64 g2)
                        case first => as_aux_lemma =>
                          cases b5
                          · obtain rfl := E2.out rfl
                            go_wp2_with fail
                            go_meet
                            exact ⟨rfl, rfl⟩
                          · obtain ⟨h1, h2⟩ := E1.out rfl
                            have H2 := Lib.hid h2
                            subst h1
                            clear h2
                            by_cases m0 : 0 < mf
                            · have h3 := SL.out rfl m0
                              have h4 := h3.1
                              by_cases m1 : g1 + 1 = mf
                              · have h5 := h3.2 m1
                                have y1 : (q.st != 5) = false := by simp [h5]
                                have y2 : (g1 + 1 == mf) = true := beq_iff_eq.2 m1
                                clear h3 h5 m1
                                go_wp2_with (go_at_call 11; refine (state11 _ q _ P3.out).mono ?_; rintro e9 w9 ⟨rfl, rfl⟩)
                                go_meet
                                exact ⟨rfl, by rw [H2.out]⟩
                              · have y2 : (g1 + 1 == mf) = false := beq_eq_false_iff_ne.2 m1
                                clear h3 m1
                                go_wp2_with (go_at_call 11; refine (state11 _ q _ P3.out).mono ?_; rintro e9 w9 ⟨rfl, rfl⟩)
                                go_meet
                                exact ⟨rfl, by rw [H2.out]⟩
                            · skip
                              go_wp2_with (go_at_call 11; refine (state11 _ q _ P3.out).mono ?_; rintro e9 w9 ⟨rfl, rfl⟩)
                              go_meet
                              exact ⟨rfl, by rw [H2.out]⟩
                        case rest =>
                          obtain ⟨rfl, rfl⟩ := hcut
                          clear dm
                          have g3 := G3.out
                          clear G3
                          obtain ⟨rfl, rfl, rfl⟩ := g3
                          by_cases s3 : q.st = 3
                          · have S3 := Lib.hid s3
                            have y1 : (q.st == 3) = true := beq_iff_eq.2 s3
                            clear s3
                            have g9 : (if q.st = 3 then 0 else g2) = 0 := if_pos S3.out
                            have g8 : rn3 q.st rs = true := if_pos S3.out
                            have G9 := gi_to SG2.out g9 g8
                            have F3 := F2.out
                            clear g9 g8
                            go_wp2_with (go_at_call 11; refine (state11 _ q _ P3.out).mono ?_; rintro e9 w9 ⟨rfl, rfl⟩)
                            go_roundw
                            case rel => exact ⟨k + 1, q, t, 0, as_, true, by omega, by omega, by go_num, rfl, rfl, rfl, rfl, by omega, by omega, by omega, by omega, by omega, hf2, HCQ, G9, P3, X3, B3⟩
                            case measure => simp [intOf]; omega
                          · have S3 := Lib.hid s3
                            have y1 : (q.st == 3) = false := beq_eq_false_iff_ne.2 s3
                            clear s3
                            have g9 : (if q.st = 3 then 0 else g2) = g2 := if_neg S3.out
                            have g8 : rn3 q.st rs = rs := if_neg S3.out
                            have G9 := gi_to SG2.out g9 g8
                            have F3 := F2.out
                            clear g9 g8
                            go_wp2_with (go_at_call 11; refine (state11 _ q _ P3.out).mono ?_; rintro e9 w9 ⟨rfl, rfl⟩)
                            go_roundw
                            case rel => exact ⟨k + 1, q, t, g2, as_, rs, by omega, by omega, by go_num, rfl, rfl, rfl, rfl, by omega, by omega, by omega, by omega, by omega, hf2, HCQ, G9, P3, X3, B3⟩
                            case measure => simp [intOf]; omega
        · have hd : (300 : Int) ≤ (k : Int) := by omega
          go_wp2_with fail
          refine (awake _).mono ?_
          rintro e1 w2 ⟨rfl, bb⟩
          go_wp2
          go_ret
          exact ⟨rfl, below_then B bb⟩
      · obtain rfl : k = l.length := by omega
        go_wp2_with fail
        refine (awake _).mono ?_
        rintro e1 w2 ⟨rfl, bb⟩
        go_wp2
        go_ret
        exact ⟨rfl, below_then hB bb⟩

end Go.Proofs.Ytibdaonhldlmbaa.F
