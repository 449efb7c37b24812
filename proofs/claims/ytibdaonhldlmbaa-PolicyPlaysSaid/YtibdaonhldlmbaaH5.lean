import Derived.Test.YtibdaonhldlmbaaH4
import Derived.Test.YtibdaonhldlmbaaG1
import Derived.StillTailTactics
import Derived.Deep.DeepCutAuto
import Derived.Deep.RegionHeld3
import Derived.Deep.DrawnRows
set_option linter.unusedVariables false
set_option linter.unusedSimpArgs false
namespace Go.Proofs.Ytibdaonhldlmbaa.F
open Go.RowKit Go.Proofs.Ytibdaonhldlmbaa.K
theorem elL : ElemT Try.prog 46 2 1 8 (.int .i64 0) := elemT_of Try.underlying46 (by kernel_rfl) rfl (by decide)
def OwnL (B : Nat) (w : World) (v : Value) (l : List Int) : Prop := w.ownsRow B 2 1 v l.length (l.map (Value.int .i64))
theorem OwnL.ints {w : World} {B : Nat} {v : Value} {l : List Int} (h : OwnL B w v l) : IntsAt w v l := by
  unfold OwnL at h
  rcases h.2 with ⟨rfl, h0⟩ | ⟨g, cap, cur, rfl, hb, hg, hnc, hcm, hcs, htake⟩
  · obtain rfl := List.eq_nil_of_length_eq_zero h0
    exact .nil w
  · refine ⟨_, cap, rfl, hnc, hcm, fun e => by (cases e), fun ad e j hj => ?_⟩
    cases e
    refine ⟨g, 0, rfl, ?_⟩
    have := h.cells (g := g) rfl j (.int .i64 l[j]) (by simp [List.getElem?_eq_getElem hj])
    rwa [show (⟨g, 0, none⟩ : Addr).add j = ⟨g, 0 + j, none⟩ from add_mid g 0 j] at this
/-- the least of some times; below 0: there is none -/
def lstI (a t : Int) : Int := if a < 0 ∨ t < a then t else a
def lst (l : List Int) : Int := l.foldl lstI (-1)
theorem lst_succ {l : List Int} {n : Nat} (h : n < l.length) : lst (l.take (n + 1)) = lstI (lst (l.take n)) l[n] := by
  unfold lst
  rw [List.take_succ_eq_append_getElem h, List.foldl_append]
  rfl
def b1 (p : Pol) : Bool := decide (p.st = 3) && decide (0 < p.se)
def b2 (p : Pol) : Bool := decide (p.st = 3) && decide (0 < p.id)
def b3 (p : Pol) : Bool := decide (p.st = 1)
def one (b : Bool) (x : Int) : List Int := if b = true then [x] else []
def at1 (p : Pol) : List Int := one (b1 p) (wrap64 (p.up + p.se))
def at2 (p : Pol) : List Int := at1 p ++ one (b2 p) (wrap64 (p.la + p.id))
def ats (p : Pol) : List Int := at2 p ++ one (b3 p) (wrap64 (p.en + p.ho))
theorem one_t {b : Bool} (x : Int) (h : b = true) (l : List Int) : l ++ one b x = l ++ [x] := by unfold one; rw [if_pos h]
theorem one_f {b : Bool} (x : Int) (h : b = false) (l : List Int) : l ++ one b x = l := by unfold one; rw [h]; simp
theorem one_len (b : Bool) (x : Int) : (one b x).length ≤ 1 := by unfold one; split <;> simp
theorem lst_step {a t : Int} (h : a < 0 ∨ t < a) : lstI a t = t := if_pos h
theorem lst_keep {a t : Int} (h : ¬ (a < 0 ∨ t < a)) : lstI a t = a := if_neg h
theorem min_big {a : Int} (h : 1099511627776 < a) : min 1099511627776 a = 1099511627776 := by omega
theorem min_small {a : Int} (h : ¬ 1099511627776 < a) : min 1099511627776 a = a := by omega
def rnx (p : Pol) : Int × Int := if lst (ats p) < 0 then (0, 5) else (min 1099511627776 (lst (ats p)), 0)
attribute [local go_sem ↓] Go.wp_at_zero Go.wp_at_succ
variable (g : Nat) (c : Cf) (p : Pol) (w : World)
theorem wrap_64 (n : Int) : IntKind.i64.wrap n = wrap64 n := IntWalk.i64_left n
def RNxR (p : Pol) (w : World) (e : Ending) (w' : World) : Prop := e = .returned (.tuple #[.int .i64 (rnx p).1, .int .i64 (rnx p).2]) ∧ Below w.heap.size w w'
structure NxS (w0 w : World) (g : Nat) (c : Cf) (p : Pol) (v : Value) (l : List Int) : Prop where
  own : OwnL w0.heap.size w v l
  ref : RefAt w g c p
  bel : Below w0.heap.size w0 w
theorem NxS.drewN {w0 w : World} {g : Nat} {c : Cf} {p : Pol} {v : Value} {l : List Int} (h : NxS w0 w g c p v l) (n : Nat) : NxS w0 (w.drewN n) g c p v l := ⟨h.own, h.ref.drewN n, below_drewN h.bel n⟩
theorem NxS.grow {w0 w w' : World} {g : Nat} {c : Cf} {p : Pol} {v v' : Value} {l l' : List Int} (h : NxS w0 w g c p v l) (hlt : g < w0.heap.size) (x : Obj) (hg : (w.alloc x).grownBy w' v.ownBlock) (ho : OwnL w0.heap.size w' v' l') : NxS w0 w' g c p v' l' := by
  refine ⟨ho, (h.ref.alloc x).keep hg (fun e => ?_), (h.bel.alloc h.bel.size x).grown hg (by have := h.bel.size; simp; omega) (fun k hk => (World.ownsRow.lt h.own k hk).1)⟩
  have := (World.ownsRow.lt h.own g e.symm).1
  omega
set_option maxHeartbeats 8000000 in
set_option maxRecDepth 100000 in
theorem rnext37 (h : RefAt w g c p) : Calls Try.prog 37 #[.pointer (some ⟨g, 0, none⟩)] w (RNxR p w) := by
  have hlt := h.lt
  have S0 : Hid (NxS w (w.alloc (.cells #[] 2)) g c p (.slice (some ⟨w.heap.size, 0, none⟩) 0 0) []) := Lib.hid ⟨by have := World.ownsRow_lit (base := w.heap.size) (e := 2) (size := 1) w #[] 0 (Nat.le_refl _) (by decide) (by simp); simpa [OwnL] using this, h.alloc _, (Below.refl _ _).alloc (Nat.le_refl _) _⟩
  have d0 := h.cst
  clear h
  go_enter Try.func37, Try.ntmps37
  go_upto_region 3 with fail
  generalize w.alloc (.cells #[] 2) = w0 at *
  clear d0
  generalize Value.slice (some ⟨w.heap.size, 0, none⟩) 0 0 = v0 at *
  have c_st := S0.out.ref.cst
  have c_en := S0.out.ref.cen
  have c_ho := S0.out.ref.cho
  have c_se := S0.out.ref.cse
  have c_id := S0.out.ref.cid
  have c_up := S0.out.ref.cup
  have c_la := S0.out.ref.cla
  go_cut [21] (fun v wx => w0 = wx ∧ v = .bool (b1 p))
  case first =>
    by_cases s3 : p.st = 3
    · have x3 : (p.st == 3) = true := beq_iff_eq.2 s3
      by_cases a1 : 0 < p.se
      · have D : Hid (b1 p = true) := Lib.hid (by simp [b1, s3, a1])
        clear s3
        go_wp2_with fail
        go_meet
        exact ⟨rfl, by rw [D.out]⟩
      · have D : Hid (b1 p = false) := Lib.hid (by simp [b1, s3, a1])
        clear s3
        go_wp2_with fail
        go_meet
        exact ⟨rfl, by rw [D.out]⟩
    · have x3 : (p.st == 3) = false := beq_eq_false_iff_ne.2 s3
      have D : Hid (b1 p = false) := Lib.hid (by simp [b1, s3])
      clear s3
      go_wp2_with fail
      go_meet
      exact ⟨rfl, by rw [D.out]⟩
  case rest =>
    obtain ⟨rfl, rfl⟩ := hcut
    have BL := Lib.hid (show (([] : List Int)).length ≤ 2 by simp)
    have E1 : Hid (b1 p = true → at1 p = ([] : List Int) ++ [wrap64 (p.up + p.se)]) := Lib.hid (fun hh => one_t _ hh [])
    have E2 : Hid (b1 p = false → at1 p = ([] : List Int)) := Lib.hid (fun hh => one_f _ hh [])
    generalize b1 p = bb at *
    go_upto_if 21 with fail
    go_cut [5] (fun v wx => Hid (NxS w wx g c p v (at1 p)))
    case first =>
      cases bb
      · have F2 := Lib.hid (E2.out rfl)
        clear E1 E2
        go_wp2_with fail
        go_meet
        rw [F2.out]
        exact S0
      · have F1 := Lib.hid (E1.out rfl)
        clear E1 E2
        have hbl := BL.out
        go_wp2_with fail
        have ho := S0.out.own
        have hs := S0.out.bel.size
        have SX := S0.out.ref.alloc (.cells #[.int .i64 (wrap64 (p.up + p.se))] 2)
        have e1 := SX.cup
        have e2 := SX.cse
        have HO := Lib.hid ho
        have HSX := Lib.hid SX
        have NX : Hid (∀ (v9 : Value) (w9 : World), OwnL w.heap.size w9 v9 (([] : List Int) ++ [wrap64 (p.up + p.se)]) → (w0.alloc (.cells #[.int .i64 (wrap64 (p.up + p.se))] 2)).grownBy w9 v0.ownBlock → NxS w w9 g c p v9 (([] : List Int) ++ [wrap64 (p.up + p.se)])) := Lib.hid (fun v9 w9 q1 q2 => S0.out.grow hlt _ q2 q1)
        clear SX
        unfold OwnL at ho
        have hwr : IntKind.i64.wrap (p.up + p.se) = wrap64 (p.up + p.se) := wrap_64 _
        go_region_held3 (fun w' => w'.cell? ⟨g, 38, none⟩ = some (.int .i64 p.up) ∧ w'.cell? ⟨g, 26, none⟩ = some (.int .i64 p.se)) (first | go_keep | exact ⟨e1, e2⟩ | exact ⟨SN.out.ref.cup, SN.out.ref.cse⟩) ((refine step_app elL rfl _ _ rfl w.heap.size _ _ _ rfl (own_drew (own_below ho ((Below.refl _ _).alloc (Nat.le_refl _) (.cells #[.int .i64 (wrap64 (p.up + p.se))] 2)))) _ _ _ rfl (src_drew (src_one _ (.int .i64 (wrap64 (p.up + p.se))) 2 rfl)) (by unfold maxLen; first | omega | (simp only [List.length_nil]; omega)) (by first | omega | (simp only [List.length_nil]; omega)) (by simp; omega) ?_; intro v9 w9 ho9 hg hn; have SN := Lib.hid (NX.out v9 w9 (by simpa [OwnL] using ho9) ⟨hg.os, hg.tape, hg.output, hg.size, hg.block⟩)))
        clear hwr ho9 hg hn ho hs HO HSX NX e1 e2
        clear c_st c_en c_ho c_se c_id c_up c_la
        go_wp2_with fail
        go_meet
        rw [F1.out]
        exact SN
    case rest =>
      have S1 := hcut
      clear hcut E1 E2 BL
      clear c_st c_en c_ho c_se c_id c_up c_la
      clear S0
      obtain ⟨w1, rfl⟩ : ∃ x : World, x = wc := ⟨_, rfl⟩
      have c_st := S1.out.ref.cst
      have c_en := S1.out.ref.cen
      have c_ho := S1.out.ref.cho
      have c_se := S1.out.ref.cse
      have c_id := S1.out.ref.cid
      have c_up := S1.out.ref.cup
      have c_la := S1.out.ref.cla
      go_upto_region 5 with fail
      go_cut [47] (fun v wx => w1 = wx ∧ v = .bool (b2 p))
      case first =>
        by_cases s3 : p.st = 3
        · have x3 : (p.st == 3) = true := beq_iff_eq.2 s3
          by_cases a1 : 0 < p.id
          · have D : Hid (b2 p = true) := Lib.hid (by simp [b2, s3, a1])
            clear s3
            go_wp2_with fail
            go_meet
            exact ⟨rfl, by rw [D.out]⟩
          · have D : Hid (b2 p = false) := Lib.hid (by simp [b2, s3, a1])
            clear s3
            go_wp2_with fail
            go_meet
            exact ⟨rfl, by rw [D.out]⟩
        · have x3 : (p.st == 3) = false := beq_eq_false_iff_ne.2 s3
          have D : Hid (b2 p = false) := Lib.hid (by simp [b2, s3])
          clear s3
          go_wp2_with fail
          go_meet
          exact ⟨rfl, by rw [D.out]⟩
      case rest =>
        obtain ⟨rfl, rfl⟩ := hcut
        have BL := Lib.hid (show (at1 p).length ≤ 2 by unfold at1; have := one_len (b1 p) (wrap64 (p.up + p.se)); omega)
        have E1 : Hid (b2 p = true → at2 p = at1 p ++ [wrap64 (p.la + p.id)]) := Lib.hid (fun hh => one_t _ hh _)
        have E2 : Hid (b2 p = false → at2 p = at1 p) := Lib.hid (fun hh => one_f _ hh _)
        generalize b2 p = bb at *
        go_upto_if 47 with fail
        go_cut [5] (fun v wx => Hid (NxS w wx g c p v (at2 p)))
        case first =>
          cases bb
          · have F2 := Lib.hid (E2.out rfl)
            clear E1 E2
            go_wp2_with fail
            go_meet
            rw [F2.out]
            exact S1
          · have F1 := Lib.hid (E1.out rfl)
            clear E1 E2
            have hbl := BL.out
            generalize (at1 p : List Int) = lp at *
            go_wp2_with fail
            have ho := S1.out.own
            have hs := S1.out.bel.size
            have SX := S1.out.ref.alloc (.cells #[.int .i64 (wrap64 (p.la + p.id))] 2)
            have e1 := SX.cla
            have e2 := SX.cid
            have HO := Lib.hid ho
            have HSX := Lib.hid SX
            have NX : Hid (∀ (v9 : Value) (w9 : World), OwnL w.heap.size w9 v9 (lp ++ [wrap64 (p.la + p.id)]) → (w1.alloc (.cells #[.int .i64 (wrap64 (p.la + p.id))] 2)).grownBy w9 u5.ownBlock → NxS w w9 g c p v9 (lp ++ [wrap64 (p.la + p.id)])) := Lib.hid (fun v9 w9 q1 q2 => S1.out.grow hlt _ q2 q1)
            clear SX
            unfold OwnL at ho
            have hwr : IntKind.i64.wrap (p.la + p.id) = wrap64 (p.la + p.id) := wrap_64 _
            go_region_held3 (fun w' => w'.cell? ⟨g, 39, none⟩ = some (.int .i64 p.la) ∧ w'.cell? ⟨g, 25, none⟩ = some (.int .i64 p.id)) (first | go_keep | exact ⟨e1, e2⟩ | exact ⟨SN.out.ref.cla, SN.out.ref.cid⟩) ((refine step_app elL rfl _ _ rfl w.heap.size _ _ _ rfl (own_drew (own_below ho ((Below.refl _ _).alloc (Nat.le_refl _) (.cells #[.int .i64 (wrap64 (p.la + p.id))] 2)))) _ _ _ rfl (src_drew (src_one _ (.int .i64 (wrap64 (p.la + p.id))) 2 rfl)) (by unfold maxLen; first | omega | (simp only [List.length_nil]; omega)) (by first | omega | (simp only [List.length_nil]; omega)) (by simp; omega) ?_; intro v9 w9 ho9 hg hn; have SN := Lib.hid (NX.out v9 w9 (by simpa [OwnL] using ho9) ⟨hg.os, hg.tape, hg.output, hg.size, hg.block⟩)))
            clear hwr ho9 hg hn ho hs HO HSX NX e1 e2
            clear c_st c_en c_ho c_se c_id c_up c_la
            go_wp2_with fail
            go_meet
            rw [F1.out]
            exact SN
        case rest =>
          have S2 := hcut
          clear hcut E1 E2 BL
          clear c_st c_en c_ho c_se c_id c_up c_la
          clear S1
          obtain ⟨w2, rfl⟩ : ∃ x : World, x = wc := ⟨_, rfl⟩
          have c_st := S2.out.ref.cst
          have c_en := S2.out.ref.cen
          have c_ho := S2.out.ref.cho
          have c_se := S2.out.ref.cse
          have c_id := S2.out.ref.cid
          have c_up := S2.out.ref.cup
          have c_la := S2.out.ref.cla
          go_upto_region 7 with fail
          go_cut [65] (fun v wx => w2 = wx ∧ v = .bool (b3 p))
          case first =>
            by_cases s3 : p.st = 1
            · have x3 : (p.st == 1) = true := beq_iff_eq.2 s3
              have D : Hid (b3 p = true) := Lib.hid (by simp [b3, s3])
              clear s3
              go_wp2_with fail
              go_meet
              exact ⟨rfl, by rw [D.out]⟩
            · have x3 : (p.st == 1) = false := beq_eq_false_iff_ne.2 s3
              have D : Hid (b3 p = false) := Lib.hid (by simp [b3, s3])
              clear s3
              go_wp2_with fail
              go_meet
              exact ⟨rfl, by rw [D.out]⟩
          case rest =>
            obtain ⟨rfl, rfl⟩ := hcut
            have BL := Lib.hid (show (at2 p).length ≤ 2 by unfold at2 at1; simp only [List.length_append]; have := one_len (b1 p) (wrap64 (p.up + p.se)); have := one_len (b2 p) (wrap64 (p.la + p.id)); omega)
            have E1 : Hid (b3 p = true → ats p = at2 p ++ [wrap64 (p.en + p.ho)]) := Lib.hid (fun hh => one_t _ hh _)
            have E2 : Hid (b3 p = false → ats p = at2 p) := Lib.hid (fun hh => one_f _ hh _)
            generalize b3 p = bb at *
            go_upto_if 65 with fail
            go_cut [5] (fun v wx => Hid (NxS w wx g c p v (ats p)))
            case first =>
              cases bb
              · have F2 := Lib.hid (E2.out rfl)
                clear E1 E2
                go_wp2_with fail
                go_meet
                rw [F2.out]
                exact S2
              · have F1 := Lib.hid (E1.out rfl)
                clear E1 E2
                have hbl := BL.out
                generalize (at2 p : List Int) = lp at *
                go_wp2_with fail
                have ho := S2.out.own
                have hs := S2.out.bel.size
                have SX := S2.out.ref.alloc (.cells #[.int .i64 (wrap64 (p.en + p.ho))] 2)
                have e1 := SX.cen
                have e2 := SX.cho
                have HO := Lib.hid ho
                have HSX := Lib.hid SX
                have NX : Hid (∀ (v9 : Value) (w9 : World), OwnL w.heap.size w9 v9 (lp ++ [wrap64 (p.en + p.ho)]) → (w2.alloc (.cells #[.int .i64 (wrap64 (p.en + p.ho))] 2)).grownBy w9 u5.ownBlock → NxS w w9 g c p v9 (lp ++ [wrap64 (p.en + p.ho)])) := Lib.hid (fun v9 w9 q1 q2 => S2.out.grow hlt _ q2 q1)
                clear SX
                unfold OwnL at ho
                have hwr : IntKind.i64.wrap (p.en + p.ho) = wrap64 (p.en + p.ho) := wrap_64 _
                go_region_held3 (fun w' => w'.cell? ⟨g, 40, none⟩ = some (.int .i64 p.en) ∧ w'.cell? ⟨g, 27, none⟩ = some (.int .i64 p.ho)) (first | go_keep | exact ⟨e1, e2⟩ | exact ⟨SN.out.ref.cen, SN.out.ref.cho⟩) ((refine step_app elL rfl _ _ rfl w.heap.size _ _ _ rfl (own_drew (own_below ho ((Below.refl _ _).alloc (Nat.le_refl _) (.cells #[.int .i64 (wrap64 (p.en + p.ho))] 2)))) _ _ _ rfl (src_drew (src_one _ (.int .i64 (wrap64 (p.en + p.ho))) 2 rfl)) (by unfold maxLen; first | omega | (simp only [List.length_nil]; omega)) (by first | omega | (simp only [List.length_nil]; omega)) (by simp; omega) ?_; intro v9 w9 ho9 hg hn; have SN := Lib.hid (NX.out v9 w9 (by simpa [OwnL] using ho9) ⟨hg.os, hg.tape, hg.output, hg.size, hg.block⟩)))
                clear hwr ho9 hg hn ho hs HO HSX NX e1 e2
                clear c_st c_en c_ho c_se c_id c_up c_la
                go_wp2_with fail
                go_meet
                rw [F1.out]
                exact SN
            case rest =>
              have S3 := hcut
              clear hcut E1 E2 BL
              clear c_st c_en c_ho c_se c_id c_up c_la
              clear S2
              obtain ⟨w3, rfl⟩ : ∃ x : World, x = wc := ⟨_, rfl⟩
              have B3 := Lib.hid S3.out.bel
              obtain ⟨A, cap, e9, k1, k2, k3, k4⟩ := S3.out.own.ints.at_
              subst e9
              have R1 : Hid (lst (ats p) < 0 → rnx p = (0, 5)) := Lib.hid (fun hh => if_pos hh)
              have R2 : Hid (¬ lst (ats p) < 0 → 1099511627776 < lst (ats p) → rnx p = (1099511627776, 0)) := Lib.hid (fun hh h2 => (if_neg hh).trans (by rw [min_big h2]))
              have R3 : Hid (¬ lst (ats p) < 0 → ¬ 1099511627776 < lst (ats p) → rnx p = (lst (ats p), 0)) := Lib.hid (fun hh h2 => (if_neg hh).trans (by rw [min_small h2]))
              unfold maxLen at k2
              clear S3
              generalize ats p = l at *
              go_wp2_with fail
              go_loop [4, 7, 81] (fun le _ i => ∃ n : Nat, n ≤ l.length ∧ i = .int .i64 n ∧ le = .int .i64 (lst (l.take n))) (fun _ _ i => l.length - (intOf i).toNat)
              case atStart => exact ⟨0, by omega, rfl, rfl⟩
              case round =>
                obtain ⟨n, hn, rfl, rfl⟩ := hrel
                by_cases hnl : n < l.length
                · obtain ⟨ad, rfl⟩ := some_of k3 hnl
                  obtain ⟨b, o, rfl, hc⟩ := k4 ad rfl n hnl
                  have hls := Lib.hid (lst_succ hnl)
                  clear k3 k4 R1 R2 R3
                  generalize l[n] = t at *
                  generalize lst (l.take n) = a at *
                  have hl1 : (n : Int) < (l.length : Int) := by omega
                  by_cases h1 : a < 0
                  · have D : Hid (lstI a t = t) := Lib.hid (lst_step (.inl h1))
                    go_wp2_with fail
                    go_round
                    case rel => exact ⟨n + 1, by omega, by go_num, by rw [hls.out, D.out]⟩
                    case measure => simp [intOf]; omega
                  · by_cases h2 : t < a
                    · have D : Hid (lstI a t = t) := Lib.hid (lst_step (.inr h2))
                      go_wp2_with fail
                      go_round
                      case rel => exact ⟨n + 1, by omega, by go_num, by rw [hls.out, D.out]⟩
                      case measure => simp [intOf]; omega
                    · have D : Hid (lstI a t = a) := Lib.hid (lst_keep (by omega))
                      go_wp2_with fail
                      go_round
                      case rel => exact ⟨n + 1, by omega, by go_num, by rw [hls.out, D.out]⟩
                      case measure => simp [intOf]; omega
                · obtain rfl : n = l.length := by omega
                  rw [List.take_length]
                  clear k3 k4 hn hnl
                  generalize lst l = a at *
                  by_cases h1 : a < 0
                  · have D := Lib.hid (R1.out (by omega))
                    clear R1 R2 R3
                    go_wp2_with fail
                    go_ret2
                    exact ⟨by simp only [D.out]; rfl, B3.out⟩
                  · by_cases h2 : 1099511627776 < a
                    · have D := Lib.hid (R2.out (by omega) (by omega))
                      clear R1 R2 R3
                      go_wp2_with fail
                      go_ret2
                      exact ⟨by simp only [D.out]; rfl, B3.out⟩
                    · have D := Lib.hid (R3.out (by omega) (by omega))
                      clear R1 R2 R3
                      go_wp2_with fail
                      go_ret2
                      exact ⟨by simp only [D.out]; rfl, B3.out⟩
end Go.Proofs.Ytibdaonhldlmbaa.F
