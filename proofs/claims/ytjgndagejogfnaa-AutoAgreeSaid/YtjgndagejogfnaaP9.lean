import Derived.Test.YtjgndagejogfnaaP8
import Derived.StillTailTactics
set_option linter.unusedVariables false
set_option linter.unusedSimpArgs false
namespace Go.Proofs.Ytjgndagejogfnaa.F
open Go.RowKit Go.Proofs.Ytjgndagejogfnaa.K
theorem Two.at1 {w w' : World} {g r x : Nat} {a : St} (h : Two w w' g r) (hx : AtP w x a) (h1 : x ≠ g) (h2 : x ≠ r) : AtP w' x a := ⟨(h.block x hx.lt h1 h2).trans hx.blk⟩
theorem Two.at2 {w w' : World} {g r x : Nat} {a : St} (h : Two w w' g r) (hx : AtR w x a) (h1 : x ≠ g) (h2 : x ≠ r) : AtR w' x a := ⟨(h.block x hx.lt h1 h2).trans hx.blk⟩
theorem below_two {B : Nat} {w0 w w' : World} {g r : Nat} (h : Below B w0 w) (ht : Two w w' g r) (hl : B ≤ w.heap.size) (hg : B ≤ g) (hr : B ≤ r) : Below B w0 w' :=
  ⟨ht.os.trans h.os, ht.tape.trans h.tape, ht.output.trans h.output, Nat.le_trans h.size ht.size, fun k hk => (ht.block k (by omega) (by omega) (by omega)).trans (h.block k hk)⟩
/-- the copies, if they are there yet -/
def Copies (wr : World) (B : Nat) (g r : Nat) (b s : Value) : Prop :=
  b = .pointer none ∨ ∃ (gb gs : Nat) (a : St), b = .pointer (some ⟨gb, 0, none⟩) ∧ s = .pointer (some ⟨gs, 0, none⟩) ∧ a.ok ∧ AtP wr gb a ∧ AtR wr gs a ∧ gb ≠ gs ∧ gb ≠ g ∧ gb ≠ r ∧ gs ≠ g ∧ gs ≠ r ∧ B ≤ gb ∧ B ≤ gs
theorem Copies.two {wr w' : World} {B g r : Nat} {b s : Value} (h : Copies wr B g r b s) (ht : Two wr w' g r) : Copies w' B g r b s := by
  rcases h with h | ⟨gb, gs, a, e1, e2, ok, h1, h2, n1, n2, n3, n4, n5, l1, l2⟩
  · exact .inl h
  · exact .inr ⟨gb, gs, a, e1, e2, ok, ht.at1 h1 n2 n3, ht.at2 h2 n4 n5, n1, n2, n3, n4, n5, l1, l2⟩
theorem Copies.below {wr w' : World} {B g r : Nat} {b s : Value} (h : Copies wr B g r b s) (hb : Below wr.heap.size wr w') : Copies w' B g r b s := by
  rcases h with h | ⟨gb, gs, a, e1, e2, ok, h1, h2, n⟩
  · exact .inl h
  · exact .inr ⟨gb, gs, a, e1, e2, ok, h1.below hb, h2.below hb, n⟩
set_option maxRecDepth 100000 in
set_option maxHeartbeats 8000000 in
theorem law_plays (c t : Int) (l : List O) (v : Value) (cut : Int) (w : World) (h : RecsAt w v 2 O.cells l) : Calls Try.prog 9 #[.int .i64 c, .int .i64 t, v, .int .i64 cut] w fun e w' => e = .returned (.bool true) ∧ Below w.heap.size w w' := by
  have H := Lib.hid h
  obtain ⟨A, cap, rfl, k1, k2, k3, k4⟩ := h
  unfold maxLen at k2
  have K3 := Lib.hid k3
  clear k3 k4
  by_cases hc : can c t
  · have Hc := Lib.hid hc
    clear hc
    go_enter Try.func9, Try.ntmps9
    go_wp2_with fail
    refine (new28 c t _ Hc.out).mono ?_
    rintro e w1 ⟨rfl, hA, hB⟩
    have HA := Lib.hid hA
    clear hA
    go_wp2_with fail
    refine (new35 c t _ Hc.out).mono ?_
    rintro e w2 ⟨rfl, hR, hB2⟩
    have HA2 := Lib.hid (HA.out.below hB2)
    have HR2 := Lib.hid hR
    have hgr : w.heap.size < w1.heap.size := HA.out.lt
    have B2 := below_then hB hB2
    obtain ⟨r, hr⟩ : ∃ r, r = w1.heap.size := ⟨_, rfl⟩
    rw [← hr] at HR2 hgr ⊢
    clear HA hB hB2 hR hr w1
    have hb3 : Below w2.heap.size w2 (w2.alloc (.cells #[.int .i64 0, .int .i64 0, .int .i64 0, .int .i64 0] 55)) := (Below.refl _ _).alloc (Nat.le_refl _) _
    have HA3 := Lib.hid (HA2.out.below hb3)
    have HR3 := Lib.hid (HR2.out.below hb3)
    have B3 := below_then B2 hb3
    clear HA2 HR2 B2 hb3
    go_wp2_with fail
    go_loopw [11, 12, 13, 14, 15, 16, 17, 18, 44] (fun b s _ _ _ _ _ _ i wr => ∃ (k : Nat) (a : St), k ≤ l.length ∧ i = .int .i64 k ∧ a.ok ∧ Hid (AtP wr w.heap.size a) ∧ Hid (AtR wr r a) ∧ Hid (Copies wr w.heap.size w.heap.size r b s) ∧ Below w.heap.size w wr) (fun _ _ _ _ _ _ _ _ i _ => l.length - (intOf i).toNat)
    case atStart => exact ⟨0, ⟨0, 0, c, t⟩, by omega, rfl, new_ok Hc.out, HA3, HR3, Lib.hid (.inl rfl), B3⟩
    case round =>
      clear HA3 HR3 B3
      obtain ⟨k, a, hk, rfl, hok, HA, HR, HC, hB⟩ := hrel
      by_cases hkl : k < l.length
      · obtain ⟨A', cap', e, -, -, -, hc⟩ := (H.out.below hB).at_
        cases e
        obtain ⟨ad, rfl⟩ : ∃ ad, A = some ad := by
          cases A with
          | none => rw [K3.out rfl] at hkl; cases hkl
          | some ad => exact ⟨ad, rfl⟩
        obtain ⟨b, o, rfl, hlt, hc⟩ := hc ad rfl k hkl
        have c0 := hc 0 (.int .i64 l[k].k) rfl
        have c1 := hc 1 (.int .i64 l[k].ev) rfl
        clear hc
        simp only [Nat.add_zero] at c0
        generalize l[k] = op at c0 c1
        obtain ⟨ok, ev⟩ := op
        try simp only at c0 c1
        have hi0 : (0 : Int) ≤ (k : Int) := by omega
        have hia : (k : Int) < (l.length : Int) := by omega
        have hbx : Below wr.heap.size wr (wr.alloc (.cells #[.int .i64 ok, .int .i64 ev] 43)) := (Below.refl _ wr).alloc (Nat.le_refl _) _
        have B := below_then hB hbx
        have HA1 := Lib.hid (HA.out.below hbx)
        have HR1 := Lib.hid (HR.out.below hbx)
        have HC1 := Lib.hid (HC.out.below hbx)
        have HX := Lib.hid (show (wr.alloc (.cells #[.int .i64 ok, .int .i64 ev] 43)).heap[wr.heap.size]? = some (.cells #[.int .i64 ok, .int .i64 ev] 43 (0, 0)) from heap_alloc_new wr _)
        have hl1 := HA.out.lt
        have hl2 := HR.out.lt
        clear hbx
        by_cases hk1000 : k < 1000
        · have hd : decide ((1000 : Int) ≤ (k : Int)) = false := by simp; omega
          go_upto_if 53 with fail
          go_cut [11, 12] from 53 to 75 (fun b s wx => Hid (AtP wx w.heap.size a) ∧ Hid (AtR wx r a) ∧ Hid (Copies wx w.heap.size w.heap.size r b s) ∧ Hid (wx.heap[wr.heap.size]? = some (.cells #[.int .i64 ok, .int .i64 ev] 43 (0, 0))) ∧ Below w.heap.size w wx ∧ wr.heap.size < wx.heap.size)
          case first =>
            by_cases hcut : (k : Int) = cut
            · have q1 : ((k : Int) == cut) = true := by simpa using hcut
              clear hcut
              go_wp2_with fail
              refine (copy36 w.heap.size a _ HA1.out).mono ?_
              rintro e w3 ⟨rfl, h3, bb⟩
              have hr3 := HR1.out.below bb
              have d2 := hr3.cst
              have d3 := hr3.ccnt
              have d0 := hr3.ccf
              have d1 := hr3.ctm
              have hs3 := bb.size
              simp only [size_alloc'] at hs3 h3
              have h3lt := h3.lt
              have HX3 := Lib.hid ((bb.block wr.heap.size (by simp)).trans HX.out)
              have HA3 := Lib.hid (HA1.out.below bb)
              have HR3 := Lib.hid hr3
              have H3 := Lib.hid h3
              have B3 := below_then B bb
              clear h3 hr3 bb
              go_wp2
              go_still_tail 17, (by kernel_rfl)
              go_wp2
              go_meet
              have hb4 : Below w3.heap.size w3 ((w3.drew).alloc (.cells #[.int .i64 a.cf, .int .i64 a.tm, .int .i64 a.st, .int .i64 a.cnt] 55)) := ((Below.refl _ w3).drew).alloc (Nat.le_refl _) _
              refine ⟨Lib.hid (HA3.out.below hb4), Lib.hid (HR3.out.below hb4), Lib.hid (.inr ⟨wr.heap.size + 1, w3.heap.size, a, rfl, rfl, hok, H3.out.below hb4, ⟨heap_alloc_new _ _⟩, by omega, by omega, by omega, by omega, by omega, by omega, by omega⟩), Lib.hid ((hb4.block wr.heap.size (by omega)).trans HX3.out), below_then B3 hb4, by simp; omega⟩
            · have q1 : ((k : Int) == cut) = false := by simpa using hcut
              clear hcut
              go_wp2_with fail
              go_meet
              exact ⟨HA1, HR1, HC1, HX, B, by simp⟩
          case rest =>
            clear HA1 HR1 HC1 HX B HA HR HC
            obtain ⟨HA, HR, HC, HX, hB2, hws⟩ := hcut
            have d0 := (cell_of_row _ _ 0 _ _ _ HX.out).trans rfl
            have d1 := (cell_of_row _ _ 1 _ _ _ HX.out).trans rfl
            have hbo := both_ok hok ⟨ok, ev⟩
            have HS := Lib.hid (fun W h h' => step37 w.heap.size r a ⟨ok, ev⟩ W h h' (by omega) hok)
            go_wp2_with fail
            refine (HS.out _ HA.out HR.out).mono ?_
            rintro e w4 ⟨⟨A4, m4, c4, rfl⟩, p1, p2, p3⟩
            have HA4 := Lib.hid p1
            have HR4 := Lib.hid p2
            have HX4 := Lib.hid ((p3.block wr.heap.size hws (by omega) (by omega)).trans HX.out)
            have HC4 := Lib.hid (HC.out.two p3)
            have B4 := below_two hB2 p3 hB2.size (Nat.le_refl _) (by omega)
            have hws4 := p3.size
            generalize (a.both ⟨ok, ev⟩).1 = a4 at *
            clear p1 p2 p3 HA HR HX HC HS d0 d1
            rcases HC4.out with rfl | ⟨gb, gs, a2, rfl, rfl, ok2, q1, q2, n1, n2, n3, n4, n5, l1, l2⟩
            · go_wp2_with fail
              go_roundw
              case rel => exact ⟨k + 1, a4, by omega, by go_num, hbo, HA4, HR4, HC4, B4⟩
              case measure => simp [intOf]; omega
            · by_cases hm : (0 : Int) < (k : Int) % 3
              · have d0 := (cell_of_row _ _ 0 _ _ _ HX4.out).trans rfl
                have d1 := (cell_of_row _ _ 1 _ _ _ HX4.out).trans rfl
                have HS2 := Lib.hid (fun W h h' => step37 gb gs a2 ⟨ok, ev⟩ W h h' n1 ok2)
                have hbo2 := both_ok ok2 ⟨ok, ev⟩
                have Q1 := Lib.hid q1
                have Q2 := Lib.hid q2
                clear q1 q2 HC4
                go_wp2_with fail
                refine (HS2.out _ Q1.out Q2.out).mono ?_
                rintro e w5 ⟨⟨A5, m5, c5, rfl⟩, p1, p2, p3⟩
                have HA5 := Lib.hid (p3.at1 HA4.out (Ne.symm n2) (Ne.symm n4))
                have HR5 := Lib.hid (p3.at2 HR4.out (Ne.symm n3) (Ne.symm n5))
                have P1 := Lib.hid p1
                have P2 := Lib.hid p2
                have B5 := below_two B4 p3 B4.size l1 l2
                generalize (a2.both ⟨ok, ev⟩).1 = a5 at *
                clear p1 p2 p3 Q1 Q2 HS2 HA4 HR4 HX4 d0 d1
                go_wp2_with fail
                go_roundw
                case rel => exact ⟨k + 1, a4, by omega, by go_num, hbo, HA5, HR5, Lib.hid (.inr ⟨gb, gs, a5, rfl, rfl, hbo2, P1.out, P2.out, n1, n2, n3, n4, n5, l1, l2⟩), B5⟩
                case measure => simp [intOf]; omega
              · have HQ := HC4
                clear q1 q2 HC4
                go_wp2_with fail
                go_roundw
                case rel => exact ⟨k + 1, a4, by omega, by go_num, hbo, HA4, HR4, HQ, B4⟩
                case measure => simp [intOf]; omega
        · have hd : decide ((1000 : Int) ≤ (k : Int)) = true := by simp; omega
          go_wp2_with fail
          refine (awake _).mono ?_
          rintro e w3 ⟨rfl, bb⟩
          go_wp2
          go_ret
          exact ⟨rfl, below_then B bb⟩
      · obtain rfl : k = l.length := by omega
        go_wp2_with fail
        refine (awake _).mono ?_
        rintro e w3 ⟨rfl, bb⟩
        go_wp2
        go_ret
        exact ⟨rfl, below_then hB bb⟩
  · have Hc := Lib.hid hc
    clear hc
    go_enter Try.func9, Try.ntmps9
    go_wp2_with fail
    refine (new28_no c t _ Hc.out).mono ?_
    rintro e w1 ⟨rfl, rfl⟩
    go_wp2_with fail
    refine (new35_no c t _ Hc.out).mono ?_
    rintro e w1 ⟨rfl, rfl⟩
    go_wp2_with fail
    refine (awake _).mono ?_
    rintro e w3 ⟨rfl, bb⟩
    go_wp2
    go_ret
    exact ⟨rfl, bb⟩
end Go.Proofs.Ytjgndagejogfnaa.F
