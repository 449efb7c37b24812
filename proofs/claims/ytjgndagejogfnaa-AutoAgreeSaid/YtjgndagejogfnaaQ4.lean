import Derived.Test.YtjgndagejogfnaaQ3
set_option linter.unusedVariables false
set_option linter.unusedSimpArgs false
namespace Go.Proofs.Ytjgndagejogfnaa.F
open Go.RowKit Go.Proofs.Ytjgndagejogfnaa.K
theorem w64 {n : Int} (h : -9223372036854775808 ≤ n ∧ n ≤ 9223372036854775807) : wrap64 n = n := by unfold wrap64; omega
theorem clamp (m : Int) : can (wrap64 (1 + (wrap64 (m.tmod 255 + 255)).tmod 255)) 1 := by
  have a1 := Int.tmod_lt_of_pos m (b := 255) (by decide)
  have a2 := Int.lt_tmod_of_pos m (b := 255) (by decide)
  generalize m.tmod 255 = x at *
  have e1 : wrap64 (x + 255) = x + 255 := w64 (by omega)
  rw [e1]
  have b1 := Int.tmod_lt_of_pos (x + 255) (b := 255) (by decide)
  have b2 := Int.tmod_nonneg (a := x + 255) 255 (by omega)
  generalize (x + 255).tmod 255 = y at *
  rw [w64 (by omega)]
  unfold can
  omega
set_option maxRecDepth 100000 in
set_option maxHeartbeats 8000000 in
theorem law_agree (m o : Int) (l : List Bool) (v : Value) (w : World) (h1 : (Lit.int .i64 m).wf = true) (h2 : (Lit.int .i64 o).wf = true) (h : RecsAt w v 1 cellsB l) : Calls Try.prog 8 #[.int .i64 m, .int .i64 o, v] w fun e w' => e = .returned (.bool true) ∧ Below w.heap.size w w' := by
  have H := Lib.hid h
  obtain ⟨A, cap, rfl, k1, k2, k3, k4⟩ := h
  unfold maxLen at k2
  have K3 := Lib.hid k3
  clear k3 k4
  have C1 := Lib.hid (clamp m)
  have C2 := Lib.hid (clamp o)
  go_enter Try.func8, Try.ntmps8
  go_wp2_with fail
  refine (new28 _ 1 _ ?_).mono ?_
  · exact clamp m
  rintro e w1 ⟨rfl, hA, hB⟩
  have HA := Lib.hid hA
  clear hA
  go_wp2_with fail
  refine (new28 _ 1 _ ?_).mono ?_
  · exact clamp o
  rintro e w2 ⟨rfl, hA2, hB2⟩
  have HA2 := Lib.hid (HA.out.below hB2)
  have HB2 := Lib.hid hA2
  have hgr : w.heap.size < w1.heap.size := HA.out.lt
  have B2 := below_then hB hB2
  obtain ⟨gb, hgb⟩ : ∃ gb, gb = w1.heap.size := ⟨_, rfl⟩
  rw [← hgb] at HB2 hgr ⊢
  clear HA hB hB2 hA2 hgb w1
  generalize wrap64 (1 + (wrap64 (m.tmod 255 + 255)).tmod 255) = cm at *
  generalize wrap64 (1 + (wrap64 (o.tmod 255 + 255)).tmod 255) = co at *
  have a0 : AgR w2 w2 w.heap.size gb ⟨0, 0, cm, 1⟩ ⟨0, 0, co, 1⟩ (.slice none 0 0) (.slice none 0 0) [] [] := AgR.start (new_ok C1.out) (new_ok C2.out) HA2.out HB2.out (by omega)
  obtain ⟨wl, hwl⟩ : ∃ wl, wl = w2.alloc (.cells #[.int .i64 2, .int .i64 0] 3) := ⟨_, rfl⟩
  have hbl : Below w2.heap.size w2 wl := by rw [hwl]; exact (Below.refl _ w2).alloc (Nat.le_refl _) _
  have hsz : w2.heap.size + 1 = wl.heap.size := by rw [hwl]; simp
  have a1 : AgR wl wl w.heap.size gb ⟨0, 0, cm, 1⟩ ⟨0, 0, co, 1⟩ (.slice none 0 0) (.slice none 0 0) [] [] := AgR.start (new_ok C1.out) (new_ok C2.out) (HA2.out.below hbl) (HB2.out.below hbl) (by omega)
  have hlit : wl.heap[w2.heap.size]? = some (.cells #[.int .i64 2, .int .i64 0] 3 (0, 0)) := by rw [hwl]; exact heap_alloc_new w2 _
  have B3 := below_then B2 hbl
  have A1 := Lib.hid a1
  have L1 := Lib.hid hlit
  have hg2 := HA2.out.lt
  have hgb2 := HB2.out.lt
  clear a0 a1 hbl HA2 HB2 hlit C1 C2
  go_upto_block 0 with fail
  go_cut [9, 10] from 43 to 75 (fun tb ta wx => ∃ (a b : St), a.st = 6 ∧ b.st = 6 ∧ Hid (AgR wl wx w.heap.size gb a b tb ta [1] [1]))
  case first =>
    go_wp2_with fail
    rw [← hwl]
    go_loopw [9, 10, 12, 13, 14, 15, 16, 45] (fun tb ta _ _ _ _ _ i wr => ∃ (k : Nat) (a b : St), k ≤ 2 ∧ i = .int .i64 k ∧ a.st = sK k ∧ b.st = sK k ∧ Hid (AgR wl wr w.heap.size gb a b tb ta (tK k) (tK k))) (fun _ _ _ _ _ _ _ i _ => 2 - (intOf i).toNat)
    case atStart => exact ⟨0, _, _, by omega, rfl, rfl, rfl, A1⟩
    case round =>
      clear A1 hwl
      obtain ⟨k, a, b, hk, rfl, ha, hb, HR⟩ := hrel
      by_cases hk2 : k < 2
      · have hg2' := HR.out.two
        have c0 : wr.cell? ⟨w2.heap.size, k, none⟩ = some (.int .i64 (eK k)) := by
          have hb2 := (HR.out.two.block w2.heap.size (by omega) (by omega) (by omega)).trans L1.out
          rw [cell_of_row _ _ k _ _ _ hb2]
          have hkk : k = 0 ∨ k = 1 := by omega
          rcases hkk with rfl | rfl <;> rfl
        clear hg2'
        have hi0 : (0 : Int) ≤ (k : Int) := by omega
        have hia : (k : Int) < 2 := by omega
        obtain ⟨a', La, ea, sa, ta'⟩ := start_do hk2 ha
        obtain ⟨b', Lb, eb, sb, tb'⟩ := start_do hk2 hb
        have oka : a'.ok := by have := do_ok HR.out.oka (eK k); rw [ea] at this; exact this
        have okb : b'.ok := by have := do_ok HR.out.okb (eK k); rw [eb] at this; exact this
        have hla : La.length ≤ 3 := by have := do_len a (eK k); rw [ea] at this; exact this
        have hlb : Lb.length ≤ 3 := by have := do_len b (eK k); rw [eb] at this; exact this
        have DA := Lib.hid (fun W h => do30 w.heap.size a (eK k) W h HR.out.oka)
        have DB := Lib.hid (fun W h => do30 gb b (eK k) W h HR.out.okb)
        rw [ea] at DA
        rw [eb] at DB
        clear ea eb
        generalize eK k = ev at *
        have hta := Lib.hid ta'
        have htb := Lib.hid tb'
        have hl1 : (tK k).length ≤ 1 := by unfold tK; split <;> simp
        generalize tK k = lk at *
        generalize hlk1 : tK (k + 1) = lk1 at *
        clear ta' tb'
        go_wp2_with fail
        refine (DA.out _ HR.out.A).mono ?_
        intro e w3 hr
        obtain ⟨A3, c3, rfl, o3, h2, h3⟩ := hr.open
        have R3 := Lib.hid (HR.out.doA h2 h3 oka)
        have O3 := Lib.hid o3
        clear hr o3 h2 h3
        go_wp2_with fail
        refine (DB.out _ R3.out.Bb).mono ?_
        intro e w4 hr
        obtain ⟨A4, c4, rfl, o4, h2, h3⟩ := hr.open
        have R4 := Lib.hid (R3.out.doB h2 h3 okb)
        have lt3 := HR.out.Bb.lt
        have O34 := Lib.hid (O3.out.kept h3 (fun g e => by cases e; exact lt3))
        have O4 := Lib.hid o4
        clear hr o4 h2 h3
        go_wp2_with fail
        refine (sends24 La _ _ O34.out.ints (by omega)).mono ?_
        intro e w5 hr
        obtain ⟨A5, m5, c5, rfl, o5, b5⟩ := hr.open
        have R5 := Lib.hid (R4.out.below b5)
        have O45 := Lib.hid (O4.out.below b5)
        have O5 := Lib.hid o5
        have ls := sends_le La
        clear hr o5 b5
        go_wp2_with (at_builtin; refine wpList_que rfl _ _ rfl wl.heap.size _ _ rfl R5.out.qb _ _ rfl O5.out.ints.src (by omega) R5.out.two.size ?_)
        intro v6 w6 q6 g6 n6
        have R6 := Lib.hid (R5.out.appB q6 g6 n6)
        have O46 := Lib.hid (O45.out.kept g6 (fun g e => (R3.out.qb.lt e).2))
        rw [hta.out] at R6
        clear q6 g6 n6
        go_wp2_with fail
        refine (sends24 Lb _ _ O46.out.ints (by omega)).mono ?_
        intro e w7 hr
        obtain ⟨A7, m7, c7, rfl, o7, b7⟩ := hr.open
        have R7 := Lib.hid (R6.out.below b7)
        have O7 := Lib.hid o7
        have ls7 := sends_le Lb
        clear hr o7 b7
        go_wp2_with (at_builtin; refine wpList_que rfl _ _ rfl wl.heap.size _ _ rfl R7.out.qa _ _ rfl O7.out.ints.src (by omega) R7.out.two.size ?_)
        intro v8 w8 q8 g8 n8
        have R8 := Lib.hid (R7.out.appA q8 g8 n8)
        rw [htb.out] at R8
        clear q8 g8 n8
        go_wp2
        go_roundw
        case rel => exact ⟨k + 1, a', b', by omega, by go_num, sa, sb, hlk1 ▸ R8⟩
        case measure => simp [intOf]; omega
      · obtain rfl : k = 2 := by omega
        go_wp2_with fail
        go_meet
        exact ⟨a, b, ha, hb, HR⟩
  case rest =>
    clear A1 hwl
    obtain ⟨a, b, ha, hb, HR⟩ := hcut
    have hst : agAll (20 - 0) ⟨a.st, b.st, [1], [1]⟩ = true := by rw [ha, hb]; exact ag_start
    clear ha hb L1
    go_wp2_with fail
    go_loopw [9, 10, 17, 18, 19, 20, 21, 22] (fun tb ta i _ _ _ _ _ wr => ∃ (k : Nat) (a b : St) (lb la : List Int), k ≤ 20 ∧ i = .int .i64 k ∧ agAll (20 - k) ⟨a.st, b.st, lb, la⟩ = true ∧ lb.length ≤ 3 * k + 1 ∧ la.length ≤ 3 * k + 1 ∧ Hid (AgR wl wr w.heap.size gb a b tb ta lb la)) (fun _ _ i _ _ _ _ _ _ => 20 - (intOf i).toNat)
    case atStart => exact ⟨0, a, b, _, _, by omega, rfl, hst, by simp, by simp, HR⟩
    case round =>
      clear HR hst a b
      obtain ⟨k, a, b, lb, la, hk, rfl, hall, hlb, hla, HR⟩ := hrel
      obtain ⟨A1, p1, rfl, -⟩ := HR.out.qb.at_
      obtain ⟨A2, p2, rfl, -⟩ := HR.out.qa.at_
      have BW := below_two B3 HR.out.two B3.size (Nat.le_refl _) (by omega)
      by_cases hend : k = 20 ∨ (lb = [] ∧ la = [])
      · obtain ⟨e1, e2, e3, e4⟩ := ag_end hall (by rcases hend with h | h; exact .inl (by omega); exact .inr h)
        simp only at e1 e2 e3 e4
        subst e1 e2
        have S1 := Lib.hid (state33 w.heap.size a wr HR.out.A)
        have S2 := Lib.hid (state33 gb b wr HR.out.Bb)
        rw [e3] at S1
        rw [e4] at S2
        clear hall e3 e4 hend
        have fin : ∀ x : Prop, x → x := fun _ h => h
        by_cases hk20 : k < 20
        · have hq : (k : Int) < 20 := by omega
          go_wp2_with fail
          refine S1.out.mono ?_
          rintro e w2 ⟨rfl, rfl⟩
          go_wp2_with fail
          refine S2.out.mono ?_
          rintro e w2 ⟨rfl, rfl⟩
          go_wp2_with fail
          refine (awake _).mono ?_
          rintro e w3 ⟨rfl, bb⟩
          go_wp2
          go_ret
          exact ⟨rfl, below_then BW bb⟩
        · have hq : ¬ (k : Int) < 20 := by omega
          go_wp2_with fail
          refine S1.out.mono ?_
          rintro e w2 ⟨rfl, rfl⟩
          go_wp2_with fail
          refine S2.out.mono ?_
          rintro e w2 ⟨rfl, rfl⟩
          go_wp2_with fail
          refine (awake _).mono ?_
          rintro e w3 ⟨rfl, bb⟩
          go_wp2
          go_ret
          exact ⟨rfl, below_then BW bb⟩
      · have hk20 : k < 20 := by omega
        have hne : ¬ (lb = [] ∧ la = []) := fun h => hend (.inr h)
        have hall' : agAll (19 - k + 1) ⟨a.st, b.st, lb, la⟩ = true := by rw [show 19 - k + 1 = 20 - k by omega]; exact hall
        have ST := Lib.hid (ag_step hall' hne)
        clear hend hall hall'
        have hq : (k : Int) < 20 := by omega
        have hi0 : (0 : Int) ≤ (k : Int) := by omega
        have hpos : 0 < (la.length : Int) + (lb.length : Int) := by
          cases lb with
          | nil => cases la with
            | nil => exact absurd ⟨rfl, rfl⟩ hne
            | cons _ _ => simp
          | cons _ _ => simp; omega
        clear hne
        go_upto_region 20 with fail
        go_cut [18] from 88 to 97 (fun f wx => wr = wx ∧ ∃ ff : Bool, f = .bool ff)
        case first =>
          by_cases hkl : k < l.length
          · obtain ⟨A', cap', e, -, -, -, hc⟩ := (H.out.below BW).at_
            cases e
            obtain ⟨ad, rfl⟩ : ∃ ad, A = some ad := by
              cases A with
              | none => rw [K3.out rfl] at hkl; cases hkl
              | some ad => exact ⟨ad, rfl⟩
            obtain ⟨bk, ok, rfl, hlt, hc⟩ := hc ad rfl k hkl
            have c0 := hc 0 (.bool l[k]) rfl
            clear hc
            simp only [Nat.add_zero, Nat.mul_one] at c0
            generalize l[k] = ff at c0
            have hia : (k : Int) < (l.length : Int) := by omega
            go_wp2_with fail
            go_meet
            exact ⟨rfl, ff, rfl⟩
          · have hia : ¬ (k : Int) < (l.length : Int) := by omega
            go_wp2_with fail
            go_meet
            exact ⟨rfl, false, rfl⟩
        case rest =>
          obtain ⟨rfl, ff, rfl⟩ := hcut
          go_upto_region 21 with fail
          go_cut [108] from 98 to 108 (fun d wx => wr = wx ∧ d = .bool (dec ⟨a.st, b.st, lb, la⟩ ff))
          case first =>
            by_cases hlb0 : 0 < lb.length
            · have e1 : 0 < (lb.length : Int) := by omega
              cases ff
              · by_cases hla0 : la.length = 0
                · have e2 : (la.length : Int) = 0 := by omega
                  go_wp2_with fail
                  go_meet
                  exact ⟨rfl, by rw [show dec ⟨a.st, b.st, lb, la⟩ false = true by simp [dec, hla0, hlb0]]⟩
                · have e2 : ¬ (la.length : Int) = 0 := by omega
                  go_wp2_with fail
                  go_meet
                  exact ⟨rfl, by rw [show dec ⟨a.st, b.st, lb, la⟩ false = false by simp [dec, hla0, hlb0]]; first | rfl | (rw [show ((la.length : Int) == 0) = false by simpa using hla0])⟩
              · go_wp2_with fail
                go_meet
                exact ⟨rfl, by rw [show dec ⟨a.st, b.st, lb, la⟩ true = true by simp [dec, hlb0]]⟩
            · have e1 : ¬ 0 < (lb.length : Int) := by omega
              go_wp2_with fail
              go_meet
              exact ⟨rfl, by rw [show dec ⟨a.st, b.st, lb, la⟩ ff = false by simp [dec, hlb0]]⟩
          case rest =>
            obtain ⟨rfl, rfl⟩ := hcut
            obtain ⟨p, hp, hall⟩ := ST.out ff
            cases hd : dec ⟨a.st, b.st, lb, la⟩ ff
            · obtain ⟨c, la', e1, hg, rfl⟩ := ag_A hp hd
              simp only at e1 hg hall
              subst e1
              clear ST hp hd
              obtain ⟨a', hdo, hst⟩ := goes_do hg
              have okb : a'.ok := by have := do_ok HR.out.oka (eventOf c); rw [hdo] at this; exact this
              have hlx : (nx a.st (eventOf c)).2.1.length ≤ 3 := acts_len
              have DB := Lib.hid (fun W h => do30 w.heap.size a (eventOf c) W h HR.out.oka)
              rw [hdo] at DB
              rw [← hst] at hall
              generalize (nx a.st (eventOf c)).2.1 = L at *
              obtain ⟨bk, ob, rfl, -, hlc, c0, hcut⟩ := HR.out.cutA
              have HC := Lib.hid hcut
              have hl1 : la'.length + 1 ≤ 3 * k + 1 := hla
              have hi1 : (0 : Int) < ((c :: la').length : Int) := by simp
              clear hcut hg hdo hst HR
              go_wp2_with fail
              refine (event34 c _).mono ?_
              rintro e w2 ⟨rfl, rfl⟩
              go_wp2_with fail
              refine (DB.out _ HC.out.A).mono ?_
              intro e w4 hr
              obtain ⟨A4, c4, rfl, o4, h2, h3⟩ := hr.open
              have R4 := Lib.hid (HC.out.doA h2 h3 okb)
              have O4 := Lib.hid o4
              clear hr o4 h2 h3 HC DB
              by_cases hp1 : p2 = 1
              · rw [if_pos hp1] at R4
                subst hp1
                simp only [Nat.sub_self] at R4
                go_wp2_with fail
                refine (sends24 L _ _ O4.out.ints (by omega)).mono ?_
                intro e w5 hr
                obtain ⟨A5, m5, c5, rfl, o5, b5⟩ := hr.open
                have R5 := Lib.hid (R4.out.below b5)
                have O5 := Lib.hid o5
                have ls := sends_le L
                clear hr o5 b5
                go_wp2_with (at_builtin; refine wpList_que rfl _ _ rfl wl.heap.size _ _ rfl R5.out.qb _ _ rfl O5.out.ints.src (by omega) R5.out.two.size ?_)
                intro v6 w6 q6 g6 n6
                have R6 := Lib.hid (R5.out.appB q6 g6 n6)
                clear q6 g6 n6
                go_wp2
                go_roundw
                case rel => exact ⟨k + 1, a', b, _, la', by omega, by go_num, (by rw [show 20 - (k + 1) = 19 - k by omega]; exact hall), by simp; omega, by omega, R6⟩
                case measure => simp [intOf]; omega
              · rw [if_neg hp1] at R4
                go_wp2_with fail
                refine (sends24 L _ _ O4.out.ints (by omega)).mono ?_
                intro e w5 hr
                obtain ⟨A5, m5, c5, rfl, o5, b5⟩ := hr.open
                have R5 := Lib.hid (R4.out.below b5)
                have O5 := Lib.hid o5
                have ls := sends_le L
                clear hr o5 b5
                go_wp2_with (at_builtin; refine wpList_que rfl _ _ rfl wl.heap.size _ _ rfl R5.out.qb _ _ rfl O5.out.ints.src (by omega) R5.out.two.size ?_)
                intro v6 w6 q6 g6 n6
                have R6 := Lib.hid (R5.out.appB q6 g6 n6)
                clear q6 g6 n6
                go_wp2
                go_roundw
                case rel => exact ⟨k + 1, a', b, _, la', by omega, by go_num, (by rw [show 20 - (k + 1) = 19 - k by omega]; exact hall), by simp; omega, by omega, R6⟩
                case measure => simp [intOf]; omega
            · obtain ⟨c, lb', e1, hg, rfl⟩ := ag_B hp hd
              simp only at e1 hg hall
              subst e1
              clear ST hp hd
              obtain ⟨b', hdo, hst⟩ := goes_do hg
              have okb : b'.ok := by have := do_ok HR.out.okb (eventOf c); rw [hdo] at this; exact this
              have hlx : (nx b.st (eventOf c)).2.1.length ≤ 3 := acts_len
              have DB := Lib.hid (fun W h => do30 gb b (eventOf c) W h HR.out.okb)
              rw [hdo] at DB
              rw [← hst] at hall
              generalize (nx b.st (eventOf c)).2.1 = L at *
              obtain ⟨bk, ob, rfl, -, hlc, c0, hcut⟩ := HR.out.cutB
              have HC := Lib.hid hcut
              have hl1 : lb'.length + 1 ≤ 3 * k + 1 := hlb
              have hi1 : (0 : Int) < ((c :: lb').length : Int) := by simp
              clear hcut hg hdo hst HR
              go_wp2_with fail
              refine (event34 c _).mono ?_
              rintro e w2 ⟨rfl, rfl⟩
              go_wp2_with fail
              refine (DB.out _ HC.out.Bb).mono ?_
              intro e w4 hr
              obtain ⟨A4, c4, rfl, o4, h2, h3⟩ := hr.open
              have R4 := Lib.hid (HC.out.doB h2 h3 okb)
              have O4 := Lib.hid o4
              clear hr o4 h2 h3 HC DB
              by_cases hp1 : p1 = 1
              · rw [if_pos hp1] at R4
                subst hp1
                simp only [Nat.sub_self] at R4
                go_wp2_with fail
                refine (sends24 L _ _ O4.out.ints (by omega)).mono ?_
                intro e w5 hr
                obtain ⟨A5, m5, c5, rfl, o5, b5⟩ := hr.open
                have R5 := Lib.hid (R4.out.below b5)
                have O5 := Lib.hid o5
                have ls := sends_le L
                clear hr o5 b5
                go_wp2_with (at_builtin; refine wpList_que rfl _ _ rfl wl.heap.size _ _ rfl R5.out.qa _ _ rfl O5.out.ints.src (by omega) R5.out.two.size ?_)
                intro v6 w6 q6 g6 n6
                have R6 := Lib.hid (R5.out.appA q6 g6 n6)
                clear q6 g6 n6
                go_wp2
                go_roundw
                case rel => exact ⟨k + 1, a, b', lb', _, by omega, by go_num, (by rw [show 20 - (k + 1) = 19 - k by omega]; exact hall), by omega, by simp; omega, R6⟩
                case measure => simp [intOf]; omega
              · rw [if_neg hp1] at R4
                go_wp2_with fail
                refine (sends24 L _ _ O4.out.ints (by omega)).mono ?_
                intro e w5 hr
                obtain ⟨A5, m5, c5, rfl, o5, b5⟩ := hr.open
                have R5 := Lib.hid (R4.out.below b5)
                have O5 := Lib.hid o5
                have ls := sends_le L
                clear hr o5 b5
                go_wp2_with (at_builtin; refine wpList_que rfl _ _ rfl wl.heap.size _ _ rfl R5.out.qa _ _ rfl O5.out.ints.src (by omega) R5.out.two.size ?_)
                intro v6 w6 q6 g6 n6
                have R6 := Lib.hid (R5.out.appA q6 g6 n6)
                clear q6 g6 n6
                go_wp2
                go_roundw
                case rel => exact ⟨k + 1, a, b', lb', _, by omega, by go_num, (by rw [show 20 - (k + 1) = 19 - k by omega]; exact hall), by omega, by simp; omega, R6⟩
                case measure => simp [intOf]; omega
end Go.Proofs.Ytjgndagejogfnaa.F
