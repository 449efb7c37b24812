import Derived.Test.YtibdaonhldlmbaaE3b
import Derived.Test.YtibdaonhldlmbaaE2
import Derived.Deep.CutBlock
import Derived.Deep.CutRange
set_option linter.unusedVariables false
set_option linter.unusedSimpArgs false
namespace Go.Proofs.Ytibdaonhldlmbaa.F
open Go.RowKit Go.Proofs.Ytibdaonhldlmbaa.K
theorem atC_fok (cs : List (List Int × Nat)) (now : Int) {p : Pol} (h : p.fok) : (atC cs now p).1.fok := by
  unfold atC
  split
  · exact h
  · exact does_fok cs (fok_of (p := p) h (.inl (due_fa _)))
theorem ti_start (c : Cf) (h : c.ok = true) : Ti c.pol 0 0 0 (-1) := by
  unfold Cf.ok spanOk at h
  simp only [Bool.and_eq_true, decide_eq_true_eq] at h
  unfold Cf.pol
  refine ⟨by simp, by omega, by omega, by simp, by simp, by simp, by simp, by simp only; omega, by simp only; omega, by simp only; omega, fun hs => by simp at hs, by omega, by omega, by omega, fun hh => by omega, fun _ hh => by omega⟩
structure Bx (w : World) (g : Nat) (c : Cf) : Prop where
  blk : w.heap[g]? = some (.cells c.cells 25 (0, 0))
theorem Bx.keep {w w' : World} {g : Nat} {c : Cf} {r : Option Nat} (h : Bx w g c) (hg : w.grownBy w' r) (hne : some g ≠ r) : Bx w' g c := ⟨(hg.block g (Array.getElem?_eq_some_iff.1 h.blk).1 hne).trans h.blk⟩
theorem Bx.below {w w' : World} {g : Nat} {c : Cf} (h : Bx w g c) (hb : Below w.heap.size w w') : Bx w' g c := ⟨(hb.block g (Array.getElem?_eq_some_iff.1 h.blk).1).trans h.blk⟩
theorem Bx.cid {w : World} {g : Nat} {c : Cf} (h : Bx w g c) : w.cell? ⟨g, 25, none⟩ = some (.int .i64 c.id) := (cell_of_row _ _ _ _ _ _ h.blk).trans rfl
theorem Bx.cse {w : World} {g : Nat} {c : Cf} (h : Bx w g c) : w.cell? ⟨g, 26, none⟩ = some (.int .i64 c.se) := (cell_of_row _ _ _ _ _ _ h.blk).trans rfl
theorem Bx.cho {w : World} {g : Nat} {c : Cf} (h : Bx w g c) : w.cell? ⟨g, 27, none⟩ = some (.int .i64 c.ho) := (cell_of_row _ _ _ _ _ _ h.blk).trans rfl
theorem Bx.cde {w : World} {g : Nat} {c : Cf} (h : Bx w g c) : w.cell? ⟨g, 29, none⟩ = some (.bool c.de) := (cell_of_row _ _ _ _ _ _ h.blk).trans rfl
theorem Bx.cpe {w : World} {g : Nat} {c : Cf} (h : Bx w g c) : w.cell? ⟨g, 28, none⟩ = some (.bool c.pe) := (cell_of_row _ _ _ _ _ _ h.blk).trans rfl
theorem Bx.cmf {w : World} {g : Nat} {c : Cf} (h : Bx w g c) : w.cell? ⟨g, 30, none⟩ = some (.int .i64 c.mf) := (cell_of_row _ _ _ _ _ _ h.blk).trans rfl
def CfS (a p : Pol) : Prop := a.ho = p.ho ∧ a.id = p.id ∧ a.se = p.se
theorem CfS.rfl' (p : Pol) : CfS p p := ⟨rfl, rfl, rfl⟩
theorem held_conf (p : Pol) : CfS p.held.1 p := by unfold Pol.held; split <;> exact ⟨rfl, rfl, rfl⟩
theorem fin_conf (p : Pol) : CfS p.fin.1 p := by
  unfold Pol.fin
  split
  · exact held_conf { p with st := 1 }
  · exact ⟨rfl, rfl, rfl⟩
theorem clo_conf (n : Nat) (p : Pol) : CfS (clo n p).1 p := by
  unfold clo
  split
  · unfold Pol.due1; split <;> exact ⟨rfl, rfl, rfl⟩
  · split
    · unfold Pol.due2; split
      · exact held_conf p
      · exact ⟨rfl, rfl, rfl⟩
    · split
      · unfold Pol.start1; split <;> exact ⟨rfl, rfl, rfl⟩
      · split
        · exact ⟨rfl, rfl, rfl⟩
        · split
          · unfold Pol.packet2; split
            · split <;> exact ⟨rfl, rfl, rfl⟩
            · exact ⟨rfl, rfl, rfl⟩
          · split
            · unfold Pol.up1; split
              · exact ⟨rfl, rfl, rfl⟩
              · split
                · split
                  · exact held_conf { p with fa := 0, wa := true, st := 1 }
                  · exact ⟨rfl, rfl, rfl⟩
                · exact ⟨rfl, rfl, rfl⟩
            · split
              · exact ⟨rfl, rfl, rfl⟩
              · split
                · exact ⟨rfl, rfl, rfl⟩
                · split
                  · exact ⟨rfl, rfl, rfl⟩
                  · unfold Pol.ldown1; split
                    · split
                      · exact ⟨rfl, rfl, rfl⟩
                      · exact fin_conf p.failed
                    · split
                      · exact fin_conf { p with en := p.now, wy := 5, wa := p.pe }
                      · split
                        · exact fin_conf { p with en := p.now, wa := p.wa || (p.pe && (p.wy != 3)) }
                        · exact fin_conf { p with en := p.now }
theorem does_conf (cs : List (List Int × Nat)) (p : Pol) : CfS (does cs p).1 p := by
  unfold does
  split
  · exact ⟨rfl, rfl, rfl⟩
  · exact clo_conf _ _
theorem due_conf (p : Pol) : CfS p.due.1 p := by
  unfold Pol.due Pol.due1 Pol.due2
  split
  · split <;> exact ⟨rfl, rfl, rfl⟩
  · split
    · split
      · exact held_conf p
      · exact ⟨rfl, rfl, rfl⟩
    · exact ⟨rfl, rfl, rfl⟩
theorem atC_conf (cs : List (List Int × Nat)) (now : Int) (p : Pol) : (atC cs now p).1.ho = p.ho ∧ (atC cs now p).1.id = p.id ∧ (atC cs now p).1.se = p.se := by
  unfold atC
  split
  · exact ⟨rfl, rfl, rfl⟩
  · have a := does_conf cs ({ p with now := now } : Pol).due.1
    have b := due_conf ({ p with now := now } : Pol)
    exact ⟨a.1.trans b.1, a.2.1.trans b.2.1, a.2.2.trans b.2.2⟩
/-- what the loop's three times become -/
def tiB (k st st' t b : Int) : Int := if k = 4 ∧ st ≠ 3 ∧ st' = 3 then t else b
def tiL (k : Int) (m : Bool) (st st' t l : Int) : Int := if k = 4 ∧ st ≠ 3 ∧ st' = 3 then t else if k = 1 ∧ m = true ∧ st = 3 then t else l
def tiE (k : Int) (m : Bool) (st st' t e : Int) : Int := if k = 4 ∧ st ≠ 3 ∧ st' = 3 then e else if k = 1 ∧ m = true ∧ st = 3 then e else if k = 5 ∧ 2 ≤ st ∧ st ≤ 4 then t else e
def hungB (l : List Int) : Bool := match l with | [] => false | x :: _ => x == 2
theorem hungB_t {l : List Int} (h : hungB l = true) : ∃ x, l = 2 :: x := by
  cases l with
  | nil => cases h
  | cons a r => simp [hungB] at h; exact ⟨r, by rw [h]⟩
theorem hungB_f {l : List Int} (h : hungB l = false) (x : List Int) : l ≠ 2 :: x := by
  rintro rfl
  simp [hungB] at h
theorem hungB_0 {l : List Int} (h : 0 < l.length) : hungB l = (l[0] == 2) := by
  cases l with
  | nil => cases h
  | cons a r => rfl
theorem hungB_nil {l : List Int} (h : ¬ 0 < l.length) : hungB l = false := by
  cases l with
  | nil => rfl
  | cons a r => simp at h
theorem ti_to {q : Pol} {t a b c a' b' c' : Int} (h : Ti q t a b c) (h1 : a = a') (h2 : b = b') (h3 : c = c') : Hid (Ti q t a' b' c') := by
  subst h1 h2 h3
  exact Lib.hid h
/-- the laws' middle test is false -/
theorem hung_ok {p : Pol} {k : Int} {m : Bool} {t now b l e : Int} {q : Pol} {L : List Int} (h : TiOut p k m t now b l e (q, L, 0)) : p.st ≠ 3 ∨ (p.st = 3 ∧ overT p t b l = true ∧ hungB L = true ∧ q.st ≠ 3) ∨ (p.st = 3 ∧ overT p t b l = false ∧ hungB L = false) ∨ (p.st = 3 ∧ overT p t b l = false ∧ hungB L = true ∧ k = 3) := by
  by_cases s : p.st = 3
  · have h2 := h.run s
    cases ho : overT p t b l
    · cases hh : hungB L
      · exact .inr (.inr (.inl ⟨s, rfl, rfl⟩))
      · obtain ⟨x, hx⟩ := hungB_t hh
        by_cases hk : k = 3
        · exact .inr (.inr (.inr ⟨s, rfl, rfl, hk⟩))
        · exact absurd hx (h2.2 ho hk x)
    · obtain ⟨⟨x, hx⟩, h3⟩ := h2.1 ho
      cases hh : hungB L
      · exact absurd hx (hungB_f hh x)
      · exact .inr (.inl ⟨s, rfl, rfl, h3⟩)
  · exact .inl s
set_option maxHeartbeats 8000000 in
set_option maxRecDepth 100000 in
theorem law_times (c : Cf) (l : List O) (v : Value) (w : World) (h : RecsAt w v 3 O.cells l) : Calls Try.prog 3 #[c.v, v] w fun e w' => e = .returned (.bool true) ∧ Below w.heap.size w w' := by
  have H := Lib.hid h
  obtain ⟨A, cap, rfl, k1, k2, k3, k4⟩ := h
  unfold maxLen at k2
  have K3 := Lib.hid k3
  clear k3 k4
  have hb0 : Below w.heap.size w (w.alloc (.cells c.cells 25)) := (Below.refl _ _).alloc (Nat.le_refl _) _
  have hx0 : Bx (w.alloc (.cells c.cells 25)) w.heap.size c := ⟨heap_alloc_new _ _⟩
  have hs0 : (w.alloc (.cells c.cells 25)).heap.size = w.heap.size + 1 := by simp
  cases hok : c.ok
  · have NB := Lib.hid (new8_bad c (w.alloc (.cells c.cells 25)) hok)
    clear hok hx0 hs0
    simp only [Cf.v] at NB ⊢
    simp only [Cf.cells] at NB hb0 ⊢
    go_enter Try.func3, Try.ntmps3
    go_wp2_with (refine wpList_cf w c rfl 2 rfl rfl ?_)
    refine NB.out.mono ?_
    rintro e w1 ⟨rfl, b1⟩
    have B1 := below_then hb0 b1
    clear NB hb0 b1
    go_wp2_with fail
    refine (awake _).mono ?_
    rintro e w2 ⟨rfl, bb⟩
    go_wp2
    go_ret
    exact ⟨rfl, below_then B1 bb⟩
  · have NG := Lib.hid (new8 c (w.alloc (.cells c.cells 25)) hok)
    have T0 := Lib.hid (ti_start c hok)
    have X0 := Lib.hid hx0
    clear hok hx0
    simp only [Cf.v] at NG ⊢
    simp only [Cf.cells] at NG hb0 hs0 X0 ⊢
    go_enter Try.func3, Try.ntmps3
    go_wp2_with (refine wpList_cf w c rfl 2 rfl rfl ?_)
    refine NG.out.mono ?_
    rintro e w1 ⟨rfl, p1, b1⟩
    have B1 := below_then hb0 b1
    have X1 := Lib.hid (X0.out.below b1)
    have P1 := Lib.hid p1
    rw [hs0] at P1
    have hs1 := p1.lt
    rw [hs0] at hs1 ⊢
    clear NG hb0 b1 p1 X0 hs0
    go_wp2_with fail
    go_loopw [7, 8, 9, 10, 11, 12, 13, 14, 15, 16, 17, 19, 36] (fun nw bg ls en _ _ _ _ _ _ _ _ i wr => ∃ (k : Nat) (p : Pol) (now b la e : Int), k ≤ l.length ∧ k ≤ 300 ∧ i = .int .i64 k ∧ nw = .int .i64 now ∧ bg = .int .i64 b ∧ ls = .int .i64 la ∧ en = .int .i64 e ∧ now ≤ 5000 * k ∧ p.fok ∧ Hid (p.ho = c.ho ∧ p.id = c.id ∧ p.se = c.se) ∧ Hid (Ti p now b la e) ∧ Hid (PolAt wr (w.heap.size + 1 + 1) p) ∧ Hid (Bx wr w.heap.size c) ∧ Below w.heap.size w wr) (fun _ _ _ _ _ _ _ _ _ _ _ _ i _ => l.length - (intOf i).toNat)
    case atStart => exact ⟨0, c.pol, 0, 0, 0, -1, by omega, by omega, rfl, rfl, rfl, rfl, rfl, by omega, by simp [Pol.fok, Cf.pol], Lib.hid ⟨rfl, rfl, rfl⟩, T0, P1, X1, B1⟩
    case round =>
      clear T0 P1 X1 B1 hs1
      obtain ⟨k, p, now, b, la, e, hk, hk3, rfl, rfl, rfl, rfl, rfl, hnow, hf, hcf, HT, HP, HX, hB⟩ := hrel
      by_cases hkl : k < l.length
      · obtain ⟨A', cap', e0, -, -, -, hc⟩ := (H.out.below hB).at_
        cases e0
        obtain ⟨ad, rfl⟩ : ∃ ad, A = some ad := by
          cases A with
          | none => rw [K3.out rfl] at hkl; cases hkl
          | some ad => exact ⟨ad, rfl⟩
        obtain ⟨bk, o, rfl, hlt, hc⟩ := hc ad rfl k hkl
        have c0 := hc 0 (.int .i64 l[k].k) rfl
        have c1 := hc 1 (.int .i64 l[k].by_) rfl
        have c2 := hc 2 (.bool l[k].m) rfl
        clear hc
        simp only [Nat.add_zero] at c0
        generalize l[k] = op at c0 c1 c2
        obtain ⟨kd, by_, m⟩ := op
        try simp only at c0 c1 c2
        have hi0 : (0 : Int) ≤ (k : Int) := by omega
        have hia : (k : Int) < (l.length : Int) := by omega
        have hbx : Below wr.heap.size wr (wr.alloc (.cells #[.int .i64 kd, .int .i64 by_, .bool m] 33)) := (Below.refl _ wr).alloc (Nat.le_refl _) _
        have B := below_then hB hbx
        have P1 := Lib.hid (HP.out.below hbx)
        have X1 := Lib.hid (HX.out.below hbx)
        clear hbx
        by_cases hk300 : k < 300
        · have hd : ¬ (300 : Int) ≤ (k : Int) := by omega
          have hsm := smo_rng by_ 5000 (by decide)
          have hlo := HT.out.lo
          have hhi := HT.out.hi
          have hwt : wrap64 (now + smo by_ 5000) = now + smo by_ 5000 := by unfold wrap64; omega
          have TR := Lib.hid (ti_round kd m HT.out (t := now + smo by_ 5000) (by omega) (by omega))
          go_wp2_with fail
          refine (some10 by_ 5000 _ (by decide)).mono ?_
          rintro e1 w2 ⟨rfl, rfl⟩
          generalize htt : now + smo by_ 5000 = t at *
          go_wp2_with fail
          refine (state11 _ p _ P1.out).mono ?_
          rintro e1 w2 ⟨rfl, rfl⟩
          go_wp2_with fail
          refine (call12 _ p _ kd by_ m t P1.out hf).mono ?_
          rintro e1 w2 ⟨⟨u, rfl, o2⟩, p2, g2⟩
          have hf2 := atC_fok (csOf kd m) t hf
          have her := TR.out.ok
          have B2 := below_grown B g2 B.size (by omega)
          have P2 := Lib.hid p2
          have O2 := Lib.hid o2
          have ltx := X1.out.blk
          have X2 := Lib.hid (X1.out.keep g2 (by simp; omega))
          have hpl := HP.out.lt
          have hopx : w2.heap[wr.heap.size]? = some (.cells #[.int .i64 kd, .int .i64 by_, .bool m] 33 (0, 0)) := (g2.block wr.heap.size (by simp) (by simp; omega)).trans (heap_alloc_new _ _)
          have f0 : w2.cell? ⟨wr.heap.size, 0, none⟩ = some (.int .i64 kd) := (cell_of_row _ _ _ _ _ _ hopx).trans rfl
          have f2 : w2.cell? ⟨wr.heap.size, 2, none⟩ = some (.bool m) := (cell_of_row _ _ _ _ _ _ hopx).trans rfl
          clear hopx
          clear p2 o2 ltx
          have hcq := atC_conf (csOf kd m) t p
          rw [hcf.out.1, hcf.out.2.1, hcf.out.2.2] at hcq
          have HCQ := Lib.hid hcq
          clear hcq
          generalize atC (csOf kd m) t p = rr at *
          obtain ⟨q, la2, er⟩ := rr
          simp only at her hf2
          subst her
          have O2 : Hid (Own _ w2 u la2) := O2
          obtain ⟨A2, cap2, rfl, q1, q2, q3, q4⟩ := O2.out.ints.at_
          have Q4 := Lib.hid q4
          clear q4 q3
          unfold maxLen at q2
          have Q3 : Hid (0 < la2.length → A2 ≠ none) := Lib.hid (by
            intro h0 hA
            subst hA
            obtain ⟨_, _, e2, -, -, h3, -⟩ := O2.out.ints.at_
            cases e2
            rw [h3 rfl] at h0
            cases h0)
          go_upto_region 16 with fail
          have hbt := HT.out.b
          have hlt2 := HT.out.la
          have hen2 := HT.out.en
          have hse := HT.out.se
          have hid := HT.out.id
          have w1e : wrap64 (t - b) = t - b := by unfold wrap64; omega
          have w2e : wrap64 (t - la) = t - la := by unfold wrap64; omega
          go_cut [16] from 59 to 82 (fun ov wx => w2 = wx ∧ ov = .bool (overT p t b la))
          case first =>
            have d0 := X2.out.cse
            have d1 := X2.out.cid
            rw [← hcf.out.2.2] at d0
            rw [← hcf.out.2.1] at d1
            by_cases a1 : 0 < p.se
            · by_cases a2 : p.se ≤ t - b
              · skip
                go_wp2_with fail
                go_meet
                exact ⟨rfl, congrArg Value.bool (by (simp [overT, a1, a2]) <;> omega)⟩
              · by_cases a3 : 0 < p.id
                · by_cases a4 : p.id ≤ t - la
                  · skip
                    go_wp2_with fail
                    go_meet
                    exact ⟨rfl, congrArg Value.bool (by (simp [overT, a1, a2, a3, a4]) <;> omega)⟩
                  · skip
                    go_wp2_with fail
                    go_meet
                    exact ⟨rfl, congrArg Value.bool (by (simp [overT, a1, a2, a3, a4]) <;> omega)⟩
                · skip
                  go_wp2_with fail
                  go_meet
                  exact ⟨rfl, congrArg Value.bool (by (simp [overT, a1, a2, a3]) <;> omega)⟩
            · by_cases a3 : 0 < p.id
              · by_cases a4 : p.id ≤ t - la
                · skip
                  go_wp2_with fail
                  go_meet
                  exact ⟨rfl, congrArg Value.bool (by (simp [overT, a1, a3, a4]) <;> omega)⟩
                · skip
                  go_wp2_with fail
                  go_meet
                  exact ⟨rfl, congrArg Value.bool (by (simp [overT, a1, a3, a4]) <;> omega)⟩
              · skip
                go_wp2_with fail
                go_meet
                exact ⟨rfl, congrArg Value.bool (by (simp [overT, a1, a3]) <;> omega)⟩
          case rest =>
            obtain ⟨rfl, rfl⟩ := hcut
            clear w1e w2e
            generalize hov : overT p t b la = ov at *
            have HOV := Lib.hid hov
            clear hov
            go_upto_region 17 with fail
            go_cut [17] from 83 to 91 (fun hg wx => w2 = wx ∧ hg = .bool (hungB la2))
            case first =>
              by_cases hl0 : 0 < la2.length
              · obtain ⟨ad2, rfl⟩ := Option.ne_none_iff_exists'.1 (Q3.out hl0)
                obtain ⟨b2, o2', rfl, hc0⟩ := Q4.out ad2 rfl 0 hl0
                have HQ := Lib.hid (hungB_0 hl0)
                generalize la2[0] = x0 at *
                simp only [Nat.add_zero] at hc0
                have hl1 : (0 : Int) < (la2.length : Int) := by omega
                go_wp2_with fail
                go_meet
                exact ⟨rfl, by rw [HQ.out]⟩
              · have HQ := Lib.hid (hungB_nil hl0)
                have hl1 : ¬ (0 : Int) < (la2.length : Int) := by omega
                go_wp2_with fail
                go_meet
                exact ⟨rfl, by rw [HQ.out]⟩
            case rest =>
              obtain ⟨rfl, rfl⟩ := hcut
              have HH := Lib.hid (hung_ok TR.out)
              generalize hhg : hungB la2 = hg at *
              clear hhg
              go_upto_region 18 with fail
              go_cut [117] from 92 to 117 (fun z wx => w2 = wx ∧ z = .bool false)
              case first =>
                obtain ⟨hov2⟩ : Nonempty (overT p t b la = ov) := ⟨HOV.out⟩
                have h4 := HH.out
                rw [hov2] at h4
                clear hov2
                rcases h4 with h4 | ⟨h4, rfl, rfl, h5⟩ | ⟨h4, rfl, rfl⟩ | ⟨h4, rfl, rfl, rfl⟩
                · have x1 : (p.st == 3) = false := beq_eq_false_iff_ne.2 h4
                  clear h4
                  go_wp2_with (go_at_call 11; refine (state11 _ q _ P2.out).mono ?_; rintro e9 w9 ⟨rfl, rfl⟩)
                  go_meet
                  exact ⟨rfl, rfl⟩
                · have x1 : (p.st == 3) = true := beq_iff_eq.2 h4
                  have x2 : (q.st == 3) = false := beq_eq_false_iff_ne.2 h5
                  clear h4 h5
                  go_wp2_with (go_at_call 11; refine (state11 _ q _ P2.out).mono ?_; rintro e9 w9 ⟨rfl, rfl⟩)
                  go_meet
                  exact ⟨rfl, rfl⟩
                · have x1 : (p.st == 3) = true := beq_iff_eq.2 h4
                  clear h4
                  go_wp2_with (go_at_call 11; refine (state11 _ q _ P2.out).mono ?_; rintro e9 w9 ⟨rfl, rfl⟩)
                  go_meet
                  exact ⟨rfl, rfl⟩
                · have x1 : (p.st == 3) = true := beq_iff_eq.2 h4
                  clear h4
                  go_wp2_with (go_at_call 11; refine (state11 _ q _ P2.out).mono ?_; rintro e9 w9 ⟨rfl, rfl⟩)
                  go_meet
                  exact ⟨rfl, rfl⟩
              case rest =>
                obtain ⟨rfl, rfl⟩ := hcut
                clear HH HOV
                obtain ⟨wo, rfl⟩ : ∃ wo : World, wo = w2 := ⟨_, rfl⟩
                go_wp2_with fail
                go_loop [19, 120] (fun _ i2 => ∃ n : Nat, n ≤ la2.length ∧ i2 = .int .i64 n) (fun _ i2 => la2.length - (intOf i2).toNat)
                case atStart => exact ⟨0, by omega, rfl⟩
                case round =>
                  obtain ⟨n, hn, rfl⟩ := hrel
                  by_cases hnl : n < la2.length
                  · obtain ⟨ad2, rfl⟩ := Option.ne_none_iff_exists'.1 (Q3.out (by omega))
                    obtain ⟨b2, o2', rfl, hc0⟩ := Q4.out ad2 rfl n hnl
                    have HD : Hid (la2[n] = 1 → ¬ (0 ≤ e ∧ t - e < c.ho)) := Lib.hid (fun hx => by have := TR.out.dial (by rw [← hx]; exact List.getElem_mem hnl); rw [hcf.out.1] at this; exact this)
                    generalize la2[n] = x0 at *
                    have hl1 : (n : Int) < (la2.length : Int) := by omega
                    have d0 := X2.out.cho
                    have w1e : wrap64 (t - e) = t - e := by unfold wrap64; omega
                    by_cases x1 : x0 = 1
                    · subst x1
                      have h6 := HD.out rfl
                      by_cases x2 : 0 ≤ e
                      · have x3 : ¬ (t - e < c.ho) := fun hh => h6 ⟨x2, hh⟩
                        clear h6
                        go_wp2_with fail
                        go_round
                        case rel => exact ⟨n + 1, by omega, by go_num⟩
                        case measure => simp [intOf]; omega
                      · clear h6
                        go_wp2_with fail
                        go_round
                        case rel => exact ⟨n + 1, by omega, by go_num⟩
                        case measure => simp [intOf]; omega
                    · have x2 : (x0 == 1) = false := beq_eq_false_iff_ne.2 x1
                      clear x1
                      go_wp2_with fail
                      go_round
                      case rel => exact ⟨n + 1, by omega, by go_num⟩
                      case measure => simp [intOf]; omega
                  · obtain rfl : n = la2.length := by omega
                    clear hn hnl Q3 Q4 q1 q2 O2
                    have TN : Hid (Ti q t (tiB kd p.st q.st t b) (tiL kd m p.st q.st t la) (tiE kd m p.st q.st t e)) := Lib.hid TR.out.next
                    clear TR
                    generalize p.st = ps at *
                    have hcf2 : Hid (q.ho = c.ho ∧ q.id = c.id ∧ q.se = c.se) := HCQ
                    by_cases k4 : kd = 4
                    · subst k4
                      by_cases s3 : ps = 3
                      · subst s3
                        have PF := Lib.hid trivial
                        go_wp2_with (go_at_call 11; refine (state11 _ q _ P2.out).mono ?_; rintro e9 w9 ⟨rfl, rfl⟩)
                        go_roundw
                        case rel => exact ⟨k + 1, q, t, b, la, e, by omega, by omega, by go_num, rfl, rfl, rfl, rfl, by omega, hf2, hcf2, ti_to TN.out (by unfold tiB; rw [if_neg (by omega)]) (by unfold tiL; rw [if_neg (by omega), if_neg (by omega)]) (by unfold tiE; rw [if_neg (by omega), if_neg (by omega), if_neg (by omega)]), P2, X2, B2⟩
                        case measure => simp [intOf]; omega
                      · by_cases s4 : q.st = 3
                        · have PF := Lib.hid (And.intro s3 s4)
                          clear s3
                          have y4 : (ps == 3) = false := beq_eq_false_iff_ne.2 (by have := PF.out; omega)
                          have y4n : (ps != 3) = true := bne_iff_ne.2 PF.out.1
                          have y5 : (q.st == 3) = true := beq_iff_eq.2 s4
                          clear s4
                          go_wp2_with (go_at_call 11; refine (state11 _ q _ P2.out).mono ?_; rintro e9 w9 ⟨rfl, rfl⟩)
                          go_roundw
                          case rel => exact ⟨k + 1, q, t, t, t, e, by omega, by omega, by go_num, rfl, rfl, rfl, rfl, by omega, hf2, hcf2, ti_to TN.out (by unfold tiB; rw [if_pos ⟨rfl, PF.out.1, PF.out.2⟩]) (by unfold tiL; rw [if_pos ⟨rfl, PF.out.1, PF.out.2⟩]) (by unfold tiE; rw [if_pos ⟨rfl, PF.out.1, PF.out.2⟩]), P2, X2, B2⟩
                          case measure => simp [intOf]; omega
                        · have PF := Lib.hid (And.intro s3 s4)
                          clear s3 s4
                          have y4 : (ps == 3) = false := beq_eq_false_iff_ne.2 (by have := PF.out; omega)
                          have y4n : (ps != 3) = true := bne_iff_ne.2 PF.out.1
                          have y5 : (q.st == 3) = false := beq_eq_false_iff_ne.2 (by have := PF.out; omega)
                          go_wp2_with (go_at_call 11; refine (state11 _ q _ P2.out).mono ?_; rintro e9 w9 ⟨rfl, rfl⟩)
                          go_roundw
                          case rel => exact ⟨k + 1, q, t, b, la, e, by omega, by omega, by go_num, rfl, rfl, rfl, rfl, by omega, hf2, hcf2, ti_to TN.out (by unfold tiB; rw [if_neg (by have := PF.out; omega)]) (by unfold tiL; rw [if_neg (by have := PF.out; omega), if_neg (by have := PF.out; omega)]) (by unfold tiE; rw [if_neg (by have := PF.out; omega), if_neg (by have := PF.out; omega), if_neg (by have := PF.out; omega)]), P2, X2, B2⟩
                          case measure => simp [intOf]; omega
                    · by_cases k1 : kd = 1
                      · subst k1
                        clear k4
                        cases m
                        · skip
                          go_wp2_with (go_at_call 11; refine (state11 _ q _ P2.out).mono ?_; rintro e9 w9 ⟨rfl, rfl⟩)
                          go_roundw
                          case rel => exact ⟨k + 1, q, t, b, la, e, by omega, by omega, by go_num, rfl, rfl, rfl, rfl, by omega, hf2, hcf2, ti_to TN.out (by unfold tiB; rw [if_neg (by omega)]) (by unfold tiL; rw [if_neg (by omega), if_neg (fun hh => absurd hh.2.1 (by decide))]) (by unfold tiE; rw [if_neg (by omega), if_neg (fun hh => absurd hh.2.1 (by decide)), if_neg (by omega)]), P2, X2, B2⟩
                          case measure => simp [intOf]; omega
                        · by_cases s3 : ps = 3
                          · subst s3
                            go_wp2_with (go_at_call 11; refine (state11 _ q _ P2.out).mono ?_; rintro e9 w9 ⟨rfl, rfl⟩)
                            go_roundw
                            case rel => exact ⟨k + 1, q, t, b, t, e, by omega, by omega, by go_num, rfl, rfl, rfl, rfl, by omega, hf2, hcf2, ti_to TN.out (by unfold tiB; rw [if_neg (by omega)]) (by unfold tiL; rw [if_neg (by omega), if_pos ⟨rfl, rfl, rfl⟩]) (by unfold tiE; rw [if_neg (by omega), if_pos ⟨rfl, rfl, rfl⟩]), P2, X2, B2⟩
                            case measure => simp [intOf]; omega
                          · have PF := Lib.hid s3
                            clear s3
                            have y4 : (ps == 3) = false := beq_eq_false_iff_ne.2 (by have := PF.out; omega)
                            go_wp2_with (go_at_call 11; refine (state11 _ q _ P2.out).mono ?_; rintro e9 w9 ⟨rfl, rfl⟩)
                            go_roundw
                            case rel => exact ⟨k + 1, q, t, b, la, e, by omega, by omega, by go_num, rfl, rfl, rfl, rfl, by omega, hf2, hcf2, ti_to TN.out (by unfold tiB; rw [if_neg (by have := PF.out; omega)]) (by unfold tiL; rw [if_neg (by have := PF.out; omega), if_neg (by have := PF.out; omega)]) (by unfold tiE; rw [if_neg (by have := PF.out; omega), if_neg (by have := PF.out; omega), if_neg (by have := PF.out; omega)]), P2, X2, B2⟩
                            case measure => simp [intOf]; omega
                      · by_cases k5 : kd = 5
                        · subst k5
                          clear k4 k1
                          by_cases s2 : 2 ≤ ps
                          · by_cases s4 : ps ≤ 4
                            · skip
                              go_wp2_with (go_at_call 11; refine (state11 _ q _ P2.out).mono ?_; rintro e9 w9 ⟨rfl, rfl⟩)
                              go_roundw
                              case rel => exact ⟨k + 1, q, t, b, la, t, by omega, by omega, by go_num, rfl, rfl, rfl, rfl, by omega, hf2, hcf2, ti_to TN.out (by unfold tiB; rw [if_neg (by omega)]) (by unfold tiL; rw [if_neg (by omega), if_neg (by omega)]) (by unfold tiE; rw [if_neg (by omega), if_neg (by omega), if_pos ⟨rfl, s2, s4⟩]), P2, X2, B2⟩
                              case measure => simp [intOf]; omega
                            · have PF := Lib.hid s4
                              go_wp2_with (go_at_call 11; refine (state11 _ q _ P2.out).mono ?_; rintro e9 w9 ⟨rfl, rfl⟩)
                              go_roundw
                              case rel => exact ⟨k + 1, q, t, b, la, e, by omega, by omega, by go_num, rfl, rfl, rfl, rfl, by omega, hf2, hcf2, ti_to TN.out (by unfold tiB; rw [if_neg (by omega)]) (by unfold tiL; rw [if_neg (by omega), if_neg (by omega)]) (by unfold tiE; rw [if_neg (by omega), if_neg (by omega), if_neg (by omega)]), P2, X2, B2⟩
                              case measure => simp [intOf]; omega
                          · have PF := Lib.hid s2
                            go_wp2_with (go_at_call 11; refine (state11 _ q _ P2.out).mono ?_; rintro e9 w9 ⟨rfl, rfl⟩)
                            go_roundw
                            case rel => exact ⟨k + 1, q, t, b, la, e, by omega, by omega, by go_num, rfl, rfl, rfl, rfl, by omega, hf2, hcf2, ti_to TN.out (by unfold tiB; rw [if_neg (by omega)]) (by unfold tiL; rw [if_neg (by omega), if_neg (by omega)]) (by unfold tiE; rw [if_neg (by omega), if_neg (by omega), if_neg (by omega)]), P2, X2, B2⟩
                            case measure => simp [intOf]; omega
                        · have PF := Lib.hid (And.intro k4 (And.intro k1 k5))
                          clear k4 k1 k5
                          have y1 : (kd == 4) = false := beq_eq_false_iff_ne.2 (by have := PF.out; omega)
                          have y2 : (kd == 1) = false := beq_eq_false_iff_ne.2 (by have := PF.out; omega)
                          have y3 : (kd == 5) = false := beq_eq_false_iff_ne.2 (by have := PF.out; omega)
                          go_wp2_with (go_at_call 11; refine (state11 _ q _ P2.out).mono ?_; rintro e9 w9 ⟨rfl, rfl⟩)
                          go_roundw
                          case rel => exact ⟨k + 1, q, t, b, la, e, by omega, by omega, by go_num, rfl, rfl, rfl, rfl, by omega, hf2, hcf2, ti_to TN.out (by unfold tiB; rw [if_neg (by have := PF.out; omega)]) (by unfold tiL; rw [if_neg (by have := PF.out; omega), if_neg (by have := PF.out; omega)]) (by unfold tiE; rw [if_neg (by have := PF.out; omega), if_neg (by have := PF.out; omega), if_neg (by have := PF.out; omega)]), P2, X2, B2⟩
                          case measure => simp [intOf]; omega
        · have hd : (300 : Int) ≤ (k : Int) := by omega
          go_wp2_with fail
          refine (awake _).mono ?_
          rintro e1 w2 ⟨rfl, bb⟩
          go_wp2
          go_ret
          exact ⟨rfl, below_then B bb⟩
      · obtain rfl : k = l.length := by omega
        go_wp2_with fail
        refine (awake _).mono ?_
        rintro e1 w2 ⟨rfl, bb⟩
        go_wp2
        go_ret
        exact ⟨rfl, below_then hB bb⟩
end Go.Proofs.Ytibdaonhldlmbaa.F
