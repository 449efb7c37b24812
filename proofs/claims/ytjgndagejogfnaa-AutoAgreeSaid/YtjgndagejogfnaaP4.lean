import Derived.Test.YtjgndagejogfnaaP3
set_option linter.unusedVariables false
set_option linter.unusedSimpArgs false
namespace Go.Proofs.Ytjgndagejogfnaa.F
open Go.RowKit Go.Proofs.Ytjgndagejogfnaa.K
/-! ### timeouts -/
theorem runs_cases {s : Int} (h : runs s = true) : s = 4 ∨ s = 5 ∨ s = 6 ∨ s = 7 ∨ s = 8 := by
  unfold runs at h
  simp at h
  omega
theorem cnt_dec {cf tm c : Int} (x : Int) (hx : x = 7 ∨ x = 10) (hc : 0 < c) : cntTo cf tm [x] [x] c = c - 1 := by
  unfold cntTo cnt1
  rcases hx with rfl | rfl
  · simp only [List.foldl_cons, List.foldl_nil]
    rw [if_neg (by decide), if_neg (by decide), if_pos (by decide), if_neg (by omega)]
  · simp only [List.foldl_cons, List.foldl_nil]
    rw [if_neg (by decide), if_neg (by decide), if_pos (by decide), if_neg (by omega)]
theorem timeout_more {a : St} (hok : a.ok) (hr : runs a.st = true) (hc : 0 < a.cnt) : a.timeout.2.2 = 0 ∧ runs a.timeout.1.st = true ∧ a.timeout.1.cnt = a.cnt - 1 := by
  obtain ⟨st, cnt, cf, tm⟩ := a
  have e : St.timeout ⟨st, cnt, cf, tm⟩ = St.do_ ⟨st, cnt, cf, tm⟩ 4 := by unfold St.timeout; rw [if_pos hr, if_pos hc]
  rw [e]
  simp only at hr hc
  have hn : ¬ (((4 : Int) = 4 ∧ cnt = 0) ∨ ((4 : Int) = 5 ∧ 0 < cnt)) := by omega
  rcases runs_cases hr with rfl | rfl | rfl | rfl | rfl
  · rw [do_goes (t := 4) (L := [10]) (show nx 4 4 = (4, [10], 0) by decide +kernel) hn]; exact ⟨rfl, (show runs 4 = true by decide), cnt_dec (cf := cf) (tm := tm) 10 (.inr rfl) hc⟩
  · rw [do_goes (t := 5) (L := [10]) (show nx 5 4 = (5, [10], 0) by decide +kernel) hn]; exact ⟨rfl, (show runs 5 = true by decide), cnt_dec (cf := cf) (tm := tm) 10 (.inr rfl) hc⟩
  · rw [do_goes (t := 6) (L := [7]) (show nx 6 4 = (6, [7], 0) by decide +kernel) hn]; exact ⟨rfl, (show runs 6 = true by decide), cnt_dec (cf := cf) (tm := tm) 7 (.inl rfl) hc⟩
  · rw [do_goes (t := 6) (L := [7]) (show nx 7 4 = (6, [7], 0) by decide +kernel) hn]; exact ⟨rfl, (show runs 6 = true by decide), cnt_dec (cf := cf) (tm := tm) 7 (.inl rfl) hc⟩
  · rw [do_goes (t := 8) (L := [7]) (show nx 8 4 = (8, [7], 0) by decide +kernel) hn]; exact ⟨rfl, (show runs 8 = true by decide), cnt_dec (cf := cf) (tm := tm) 7 (.inl rfl) hc⟩
theorem timeout_last {a : St} (hok : a.ok) (hr : runs a.st = true) (hc : a.cnt = 0) : a.timeout.2.2 = 0 ∧ runs a.timeout.1.st = false ∧ (a.timeout.1.st = 2 ∨ a.timeout.1.st = 3) := by
  obtain ⟨st, cnt, cf, tm⟩ := a
  simp only at hr hc
  subst hc
  have e : St.timeout ⟨st, 0, cf, tm⟩ = St.do_ ⟨st, 0, cf, tm⟩ 5 := by unfold St.timeout; rw [if_pos hr]; exact if_neg (show ¬ ((0 : Int) < 0) by decide)
  rw [e]
  have hn : ¬ (((5 : Int) = 4 ∧ (0 : Int) = 0) ∨ ((5 : Int) = 5 ∧ (0 : Int) < 0)) := by omega
  rcases runs_cases hr with rfl | rfl | rfl | rfl | rfl
  · rw [do_goes (t := 2) (L := [4]) (show nx 4 5 = (2, [4], 0) by decide +kernel) hn]; exact ⟨rfl, (show runs 2 = false by decide), .inl rfl⟩
  · rw [do_goes (t := 3) (L := [4]) (show nx 5 5 = (3, [4], 0) by decide +kernel) hn]; exact ⟨rfl, (show runs 3 = false by decide), .inr rfl⟩
  · rw [do_goes (t := 3) (L := [4]) (show nx 6 5 = (3, [4], 0) by decide +kernel) hn]; exact ⟨rfl, (show runs 3 = false by decide), .inr rfl⟩
  · rw [do_goes (t := 3) (L := [4]) (show nx 7 5 = (3, [4], 0) by decide +kernel) hn]; exact ⟨rfl, (show runs 3 = false by decide), .inr rfl⟩
  · rw [do_goes (t := 3) (L := [4]) (show nx 8 5 = (3, [4], 0) by decide +kernel) hn]; exact ⟨rfl, (show runs 3 = false by decide), .inr rfl⟩
theorem timeout_idle {a : St} (hr : runs a.st = false) : a.timeout = (a, [], 290) := by unfold St.timeout; rw [if_neg (by rw [hr]; simp)]
/-- behind j timeouts -/
def Left (n j : Int) (a : St) : Prop := (j ≤ n ∧ runs a.st = true ∧ a.cnt = n - j) ∨ (j = n + 1 ∧ runs a.st = false ∧ (a.st = 2 ∨ a.st = 3))
theorem left_step {n j : Int} {a : St} (hok : a.ok) (h : Left n j a) (hj : j ≤ n) : runs a.st = true ∧ a.timeout.2.2 = 0 ∧ Left n (j + 1) a.timeout.1 := by
  rcases h with ⟨h1, h2, h3⟩ | ⟨h1, -⟩
  · by_cases hc : 0 < a.cnt
    · obtain ⟨e1, e2, e3⟩ := timeout_more hok h2 hc
      exact ⟨h2, e1, .inl ⟨by omega, e2, by omega⟩⟩
    · have h0 := hok.2.2.1
      obtain ⟨e1, e2, e3⟩ := timeout_last hok h2 (by omega)
      exact ⟨h2, e1, .inr ⟨by omega, e2, e3⟩⟩
  · omega
/-- what comes, and stays in its bounds -/
def St.after (a : St) (o : O) : St := if o.k = 1 then a.timeout.1 else (a.do_ o.ev).1
theorem DoR.open {at_ : World → Nat → St → Prop} {g : Nat} {r : St × List Int × Int} {w : World} {e : Ending} {w' : World} (h : DoR at_ g r w e w') : ∃ A c, e = .returned (.tuple #[.slice A r.2.1.length c, .int .i64 r.2.2]) ∧ Own w.heap.size w' (.slice A r.2.1.length c) r.2.1 ∧ at_ w' g r.1 ∧ w.grownBy w' (some g) := by
  obtain ⟨⟨v, rfl, hv⟩, h2, h3⟩ := h
  obtain ⟨A, c, rfl, -⟩ := (Own.ints hv).at_
  exact ⟨A, c, rfl, hv, h2, h3⟩
theorem below_grown {B g : Nat} {w0 w w' : World} (hb : Below B w0 w) (hg : w.grownBy w' (some g)) (hl : B ≤ w.heap.size) (hB : B ≤ g) : Below B w0 w' := hb.grown hg hl (fun k hk => by cases hk; exact hB)
set_option maxHeartbeats 4000000 in
theorem law_ends (c t : Int) (l : List O) (v : Value) (w : World) (h : RecsAt w v 2 O.cells l) : Calls Try.prog 7 #[.int .i64 c, .int .i64 t, v] w fun e w' => e = .returned (.bool true) ∧ Below w.heap.size w w' := by
  have H := Lib.hid h
  obtain ⟨A, cap, rfl, k1, k2, k3, k4⟩ := h
  unfold maxLen at k2
  have K3 := Lib.hid k3
  clear k3 k4
  by_cases hc : can c t
  · have Hc := Lib.hid hc
    clear hc
    go_enter Try.func7, Try.ntmps7
    go_upto_block 0 with (go_at_call 28; refine (new28 c t _ Hc.out).mono ?_; rintro e w1 ⟨rfl, hA, hB⟩)
    have HA := Lib.hid hA
    clear hA
    go_cut [8, 9] from 24 to 41 (fun _ _ wx => ∃ a : St, a.ok ∧ Hid (AtP wx w.heap.size a) ∧ Below w.heap.size w wx)
    case first =>
      go_wp2_with fail
      go_loopw [8, 9, 24] (fun _ _ i wr => ∃ (k : Nat) (a : St), k ≤ l.length ∧ i = .int .i64 k ∧ a.ok ∧ Hid (AtP wr w.heap.size a) ∧ Below w.heap.size w wr) (fun _ _ i _ => l.length - (intOf i).toNat)
      case atStart => exact ⟨0, ⟨0, 0, c, t⟩, by omega, rfl, new_ok Hc.out, HA, hB⟩
      case round =>
        clear HA hB w1
        obtain ⟨k, a, hk, rfl, hok, HA, hB⟩ := hrel
        by_cases hkl : k < l.length
        · obtain ⟨A', cap', e, -, -, -, hc⟩ := (H.out.below hB).at_
          cases e
          obtain ⟨ad, rfl⟩ : ∃ ad, A = some ad := by
            cases A with
            | none => rw [K3.out rfl] at hkl; cases hkl
            | some ad => exact ⟨ad, rfl⟩
          obtain ⟨b, o, rfl, hlt, hc⟩ := hc ad rfl k hkl
          have c0 := hc 0 (.int .i64 l[k].k) rfl
          have c1 := hc 1 (.int .i64 l[k].ev) rfl
          clear hc
          simp only [Nat.add_zero] at c0
          generalize l[k] = op at c0 c1
          obtain ⟨ok, ev⟩ := op
          try simp only at c0 c1
          have hi0 : (0 : Int) ≤ (k : Int) := by omega
          have hia : (k : Int) < (l.length : Int) := by omega
          have hbx : Below wr.heap.size wr (wr.alloc (.cells #[.int .i64 ok, .int .i64 ev] 43)) := (Below.refl _ wr).alloc (Nat.le_refl _) _
          have B := below_then hB hbx
          have HA1 := Lib.hid (HA.out.below hbx)
          have HT := Lib.hid (fun W h => timeout29 w.heap.size a W h hok)
          have HD := Lib.hid (fun ev W h => do30 w.heap.size a ev W h hok)
          have hto := timeout_ok hok
          have hdo := do_ok hok ev
          clear hbx
          by_cases hk1000 : k < 1000
          · have hd : decide ((1000 : Int) ≤ (k : Int)) = false := by simp; omega
            by_cases ho : ok = 1
            · have q1 : (ok == 1) = true := by simpa using ho
              clear ho
              go_wp2_with fail
              refine (HT.out _ HA1.out).mono ?_
              intro e w2 hr
              obtain ⟨A2, c2, rfl, -, h2, h3⟩ := hr.open
              have B2 := below_grown B h3 B.size (Nat.le_refl _)
              have H2 := Lib.hid h2
              clear hr h2 h3
              generalize a.timeout = r at *
              go_wp2
              go_roundw
              case rel => exact ⟨k + 1, r.1, by omega, by go_num, hto, H2, B2⟩
              case measure => simp [intOf]; omega
            · have q1 : (ok == 1) = false := by simpa using ho
              clear ho
              go_wp2_with fail
              refine (HD.out ev _ HA1.out).mono ?_
              intro e w2 hr
              obtain ⟨A2, c2, rfl, -, h2, h3⟩ := hr.open
              have B2 := below_grown B h3 B.size (Nat.le_refl _)
              have H2 := Lib.hid h2
              clear hr h2 h3
              generalize a.do_ ev = r at *
              go_wp2
              go_roundw
              case rel => exact ⟨k + 1, r.1, by omega, by go_num, hdo, H2, B2⟩
              case measure => simp [intOf]; omega
          · have hd : decide ((1000 : Int) ≤ (k : Int)) = true := by simp; omega
            go_wp2_with fail
            go_meet
            exact ⟨a, hok, HA1, B⟩
        · obtain rfl : k = l.length := by omega
          go_wp2_with fail
          go_meet
          exact ⟨a, hok, HA, hB⟩
    case rest =>
      clear HA hB w1
      obtain ⟨a, hok, HA, hB⟩ := hcut
      go_wp2_with fail
      refine (running31 w.heap.size a _ HA.out).mono ?_
      rintro e w2 ⟨rfl, rfl⟩
      cases hr : runs a.st
      · have ht := timeout_idle hr
        have HT := Lib.hid (fun W h => timeout29 w.heap.size a W h hok)
        rw [ht] at HT
        clear ht hr
        go_wp2_with fail
        refine (HT.out _ HA.out).mono ?_
        intro e w2 hr
        obtain ⟨A2, c2, rfl, -, h2, h3⟩ := hr.open
        have B2 := below_grown hB h3 hB.size (Nat.le_refl _)
        clear hr h2 h3
        go_wp2_with fail
        refine (awake _).mono ?_
        rintro e w3 ⟨rfl, bb⟩
        go_wp2
        go_ret
        exact ⟨rfl, below_then B2 bb⟩
      · have hL : Left a.cnt 0 a := .inl ⟨hok.2.2.1, hr, by omega⟩
        have hn0 := hok.2.2.1
        have hn1 := hok.2.2.2.1
        have Hr := Lib.hid hr
        clear hr
        go_wp2_with fail
        refine (count32 w.heap.size a _ HA.out).mono ?_
        rintro e w2 ⟨rfl, rfl⟩
        generalize hnn : a.cnt = n at *
        clear hnn Hr
        have HL := Lib.hid hL
        clear hL
        go_wp2
        go_loopw [13, 14, 15] (fun i _ _ wr => ∃ (j : Nat) (a : St), (j : Int) ≤ n + 1 ∧ i = .int .i64 j ∧ a.ok ∧ Hid (Left n j a) ∧ Hid (AtP wr w.heap.size a) ∧ Below w.heap.size w wr) (fun i _ _ _ => (n + 1).toNat - (intOf i).toNat)
        case atStart => exact ⟨0, a, by omega, rfl, hok, HL, HA, hB⟩
        case round =>
          clear HL HA hB hok
          obtain ⟨j, a, hj, rfl, hok, HL, HA, hB⟩ := hrel
          by_cases hjn : (j : Int) ≤ n
          · obtain ⟨h1, h2, h3⟩ := left_step hok HL.out hjn
            have h3' : Left n ((j + 1 : Nat) : Int) a.timeout.1 := by simpa using h3
            have H3 := Lib.hid h3'
            have HT := Lib.hid (fun W h => timeout29 w.heap.size a W h hok)
            have hto := timeout_ok hok
            have HR := Lib.hid (running31 w.heap.size a wr HA.out)
            rw [h1] at HR
            generalize a.timeout = r at *
            obtain ⟨a1, L, er⟩ := r
            simp only at h2
            subst h2
            clear h1 h3 h3'
            go_wp2_with fail
            refine HR.out.mono ?_
            rintro e w2 ⟨rfl, rfl⟩
            go_wp2_with fail
            refine (HT.out _ HA.out).mono ?_
            intro e w2 hr
            obtain ⟨A2, c2, rfl, -, h2, h3⟩ := hr.open
            have B2 := below_grown hB h3 hB.size (Nat.le_refl _)
            have H2 := Lib.hid h2
            clear hr h2 h3 HR HT
            go_wp2
            go_roundw
            case rel => exact ⟨j + 1, a1, by omega, by go_num, hto, H3, H2, B2⟩
            case measure => simp [intOf]; omega
          · have hL2 : runs a.st = false ∧ (a.st = 2 ∨ a.st = 3) := by
              rcases HL.out with ⟨h1, -⟩ | ⟨-, h2, h3⟩
              · omega
              · exact ⟨h2, h3⟩
            obtain ⟨h1, h2⟩ := hL2
            have HR := Lib.hid (running31 w.heap.size a wr HA.out)
            rw [h1] at HR
            have HS := Lib.hid (state33 w.heap.size a wr HA.out)
            clear h1
            go_wp2_with fail
            refine HR.out.mono ?_
            rintro e w2 ⟨rfl, rfl⟩
            go_wp2_with fail
            refine HS.out.mono ?_
            rintro e w2 ⟨rfl, rfl⟩
            rcases h2 with h2 | h2
            · rw [h2]
              go_wp2_with fail
              refine (awake _).mono ?_
              rintro e w3 ⟨rfl, bb⟩
              go_wp2
              go_ret
              exact ⟨rfl, below_then hB bb⟩
            · rw [h2] at HS
              rw [h2]
              go_wp2_with fail
              refine HS.out.mono ?_
              rintro e w2 ⟨rfl, rfl⟩
              go_wp2_with fail
              refine (awake _).mono ?_
              rintro e w3 ⟨rfl, bb⟩
              go_wp2
              go_ret
              exact ⟨rfl, below_then hB bb⟩
  · have Hc := Lib.hid hc
    clear hc
    go_enter Try.func7, Try.ntmps7
    go_wp2_with fail
    refine (new28_no c t _ Hc.out).mono ?_
    rintro e w1 ⟨rfl, rfl⟩
    go_wp2_with fail
    refine (awake _).mono ?_
    rintro e w3 ⟨rfl, bb⟩
    go_wp2
    go_ret
    exact ⟨rfl, bb⟩
end Go.Proofs.Ytjgndagejogfnaa.F
