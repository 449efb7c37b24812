import Derived.Test.YtjgndagejogfnaaL3
import Derived.Deep.CutBlock
import Derived.Deep.Cut
import Derived.Deep.CutRange
set_option linter.unusedVariables false
set_option linter.unusedSimpArgs false
namespace Go.Proofs.Ytjgndagejogfnaa.F
open Go.RowKit Go.Proofs.Ytjgndagejogfnaa.K
theorem grown_setCell {w w' : World} {g : Nat} (h : w.grownBy w' (some g)) (o : Nat) (v : Value) : w.grownBy (w'.setCell ⟨g, o, none⟩ v) (some g) :=
  ⟨h.os, h.tape, h.output, by simpa using h.size, fun k hk hne => by rw [heap_setCell_other _ _ _ _ (fun e => hne (by rw [e]))]; exact h.block k hk hne⟩
theorem grown_below {w w1 w2 : World} {r : Option Nat} (h : w.grownBy w1 r) (hb : Below w1.heap.size w1 w2) : w.grownBy w2 r :=
  ⟨hb.os.trans h.os, hb.tape.trans h.tape, hb.output.trans h.output, Nat.le_trans h.size hb.size, fun k hk hne => (hb.block k (Nat.lt_of_lt_of_le hk h.size)).trans (h.block k hk hne)⟩
theorem grown_trans {w w1 w2 : World} {g : Nat} (h : w.grownBy w1 (some g)) (h2 : w1.grownBy w2 (some g)) : w.grownBy w2 (some g) :=
  ⟨h2.os.trans h.os, h2.tape.trans h.tape, h2.output.trans h.output, Nat.le_trans h.size h2.size, fun k hk hne => (h2.block k (Nat.lt_of_lt_of_le hk h.size) hne).trans (h.block k hk hne)⟩
theorem cntTo_succ (cf tm : Int) (l : List Int) (k : Nat) (c : Int) (hk : k < l.length) : cntTo cf tm l (l.take (k + 1)) c = cnt1 cf tm l (cntTo cf tm l (l.take k) c) l[k] := by
  unfold cntTo
  rw [List.take_succ_eq_append_getElem hk, List.foldl_append]
  rfl
structure DoR (at_ : World → Nat → St → Prop) (g : Nat) (r : St × List Int × Int) (w : World) (e : Ending) (w' : World) : Prop where
  ret : ∃ v, e = .returned (.tuple #[v, .int .i64 r.2.2]) ∧ Own w.heap.size w' v r.2.1
  obj : at_ w' g r.1
  grow : w.grownBy w' (some g)
theorem do_err {a : St} {ev t er : Int} {L : List Int} (h : nx a.st ev = (t, L, er)) (he : er ≠ 0) : a.do_ ev = (a, [], er) := by
  unfold St.do_; rw [h]; exact if_pos he
theorem do_state {a : St} {ev t : Int} {L : List Int} (h : nx a.st ev = (t, L, 0)) (hc : (ev = 4 ∧ a.cnt = 0) ∨ (ev = 5 ∧ 0 < a.cnt)) : a.do_ ev = (a, [], 9) := by
  unfold St.do_; rw [h, if_neg (by simp)]; exact if_pos hc
theorem do_goes {a : St} {ev t : Int} {L : List Int} (h : nx a.st ev = (t, L, 0)) (hc : ¬ ((ev = 4 ∧ a.cnt = 0) ∨ (ev = 5 ∧ 0 < a.cnt))) : a.do_ ev = ({ a with st := t, cnt := cntTo a.cf a.tm L L a.cnt }, L, 0) := by
  unfold St.do_; rw [h, if_neg (by simp)]; exact if_neg hc
theorem ownBlock_ne {B g : Nat} {w : World} {v : Value} {l : List Int} (h : Own B w v l) (hg : g < B) : v.ownBlock = none ∨ v.ownBlock ≠ some g := by
  cases hv : v.ownBlock with
  | none => exact .inl rfl
  | some k => exact .inr fun e => by have := (World.ownsRow.lt h k hv).1; cases e; omega
theorem own_lit1' {w : World} {n : Nat} (hn : n = w.heap.size := by simp) {x : Int} : Own w.heap.size (w.alloc (.cells #[.int .i64 x] 3)) (.slice (some ⟨n, 0, none⟩) 1 1) [x] := by subst hn; exact own_lit1 x
theorem Own.set {B g : Nat} {w : World} {v : Value} {l : List Int} (h : Own B w v l) (hg : g < B) (o : Nat) (u : Value) : Own B (w.setCell ⟨g, o, none⟩ u) v l :=
  h.kept (grown_setCell (grownBy_refl w (some g)) o u) (fun k e => by cases e; exact hg)
structure AtP (w : World) (g : Nat) (a : St) : Prop where
  blk : w.heap[g]? = some (.cells #[.int .i64 a.st, .int .i64 a.cnt, .int .i64 a.cf, .int .i64 a.tm] 68 (0, 0))
section
variable {w : World} {g : Nat} {a : St}
theorem AtP.cst (h : AtP w g a) : w.cell? ⟨g, 0, none⟩ = some (.int .i64 a.st) := (cell_of_row _ _ _ _ _ _ h.blk).trans rfl
theorem AtP.ccnt (h : AtP w g a) : w.cell? ⟨g, 1, none⟩ = some (.int .i64 a.cnt) := (cell_of_row _ _ _ _ _ _ h.blk).trans rfl
theorem AtP.ccf (h : AtP w g a) : w.cell? ⟨g, 2, none⟩ = some (.int .i64 a.cf) := (cell_of_row _ _ _ _ _ _ h.blk).trans rfl
theorem AtP.ctm (h : AtP w g a) : w.cell? ⟨g, 3, none⟩ = some (.int .i64 a.tm) := (cell_of_row _ _ _ _ _ _ h.blk).trans rfl
theorem AtP.free (h : AtP w g a) (j : Nat) : w.frozen? ⟨g, j, none⟩ = false := frozen_of_row _ _ _ _ _ h.blk
theorem AtP.lt (h : AtP w g a) : g < w.heap.size := (Array.getElem?_eq_some_iff.1 h.blk).1
theorem AtP.below {w' : World} (h : AtP w g a) (hb : Below w.heap.size w w') : AtP w' g a := ⟨(hb.block g h.lt).trans h.blk⟩
theorem AtP.grown {w' : World} {x : Nat} (h : AtP w g a) (hg : w.grownBy w' (some x)) (hne : g ≠ x) : AtP w' g a := ⟨(hg.block g h.lt (by simpa using hne)).trans h.blk⟩
theorem AtP.setCnt (h : AtP w g a) (c : Int) : AtP (w.setCell ⟨g, 1, none⟩ (.int .i64 c)) g { a with cnt := c } := ⟨heap_setCell_same _ _ _ _ _ _ h.blk⟩
theorem AtP.setSt (h : AtP w g a) (c : Int) : AtP (w.setCell ⟨g, 0, none⟩ (.int .i64 c)) g { a with st := c } := ⟨heap_setCell_same _ _ _ _ _ _ h.blk⟩
theorem AtP.drew (h : AtP w g a) : AtP w.drew g a := ⟨h.blk⟩
end
structure AtR (w : World) (g : Nat) (a : St) : Prop where
  blk : w.heap[g]? = some (.cells #[.int .i64 a.cf, .int .i64 a.tm, .int .i64 a.st, .int .i64 a.cnt] 55 (0, 0))
section
variable {w : World} {g : Nat} {a : St}
theorem AtR.cst (h : AtR w g a) : w.cell? ⟨g, 2, none⟩ = some (.int .i64 a.st) := (cell_of_row _ _ _ _ _ _ h.blk).trans rfl
theorem AtR.ccnt (h : AtR w g a) : w.cell? ⟨g, 3, none⟩ = some (.int .i64 a.cnt) := (cell_of_row _ _ _ _ _ _ h.blk).trans rfl
theorem AtR.ccf (h : AtR w g a) : w.cell? ⟨g, 0, none⟩ = some (.int .i64 a.cf) := (cell_of_row _ _ _ _ _ _ h.blk).trans rfl
theorem AtR.ctm (h : AtR w g a) : w.cell? ⟨g, 1, none⟩ = some (.int .i64 a.tm) := (cell_of_row _ _ _ _ _ _ h.blk).trans rfl
theorem AtR.free (h : AtR w g a) (j : Nat) : w.frozen? ⟨g, j, none⟩ = false := frozen_of_row _ _ _ _ _ h.blk
theorem AtR.lt (h : AtR w g a) : g < w.heap.size := (Array.getElem?_eq_some_iff.1 h.blk).1
theorem AtR.below {w' : World} (h : AtR w g a) (hb : Below w.heap.size w w') : AtR w' g a := ⟨(hb.block g h.lt).trans h.blk⟩
theorem AtR.grown {w' : World} {x : Nat} (h : AtR w g a) (hg : w.grownBy w' (some x)) (hne : g ≠ x) : AtR w' g a := ⟨(hg.block g h.lt (by simpa using hne)).trans h.blk⟩
theorem AtR.setCnt (h : AtR w g a) (c : Int) : AtR (w.setCell ⟨g, 3, none⟩ (.int .i64 c)) g { a with cnt := c } := ⟨heap_setCell_same _ _ _ _ _ _ h.blk⟩
theorem AtR.setSt (h : AtR w g a) (c : Int) : AtR (w.setCell ⟨g, 2, none⟩ (.int .i64 c)) g { a with st := c } := ⟨heap_setCell_same _ _ _ _ _ _ h.blk⟩
theorem AtR.drew (h : AtR w g a) : AtR w.drew g a := ⟨h.blk⟩
end
set_option maxHeartbeats 4000000 in
theorem do30 (g : Nat) (a : St) (ev : Int) (w : World) (h : AtP w g a) (hok : a.ok) : Calls Try.prog 30 #[.pointer (some ⟨g, 0, none⟩), .int .i64 ev] w (DoR AtP g (a.do_ ev) w) := by
  obtain ⟨⟨t, L, er⟩, hN⟩ : ∃ r, r = nx a.st ev := ⟨_, rfl⟩
  have HNx := Lib.hid (fun W => next12 a.st ev W)
  have hlt := h.lt
  have c0 := h.cst
  have c1 := h.ccnt
  have H := Lib.hid h
  obtain ⟨b1, b2, b3, b4, b5, b6, b7, b8⟩ := hok
  by_cases he : er = 0
  · subst he
    by_cases hc : (ev = 4 ∧ a.cnt = 0) ∨ (ev = 5 ∧ 0 < a.cnt)
    · have hD := do_state hN.symm hc
      rw [hD]
      have HN := Lib.hid hN.symm
      clear hN hD h
      rcases hc with ⟨rfl, h0⟩ | ⟨rfl, h0⟩
      · have q1 : (a.cnt == 0) = true := by simpa using h0
        clear h0
        go_enter Try.func30, Try.ntmps30
        go_wp2_with fail
        refine (HNx.out _).mono ?_
        rintro e w1 ⟨⟨v, rfl, hv⟩, hb⟩
        rw [HN.out] at hv ⊢
        have c1' := (H.out.below hb).ccnt
        clear c0 c1
        go_wp2
        go_ret2
        exact ⟨⟨_, rfl, own_nil _ _⟩, H.out.below hb, below_grown0 hb _⟩
      · have q0 : (a.cnt == 0) = false := by simp; omega
        go_enter Try.func30, Try.ntmps30
        go_wp2_with fail
        refine (HNx.out _).mono ?_
        rintro e w1 ⟨⟨v, rfl, hv⟩, hb⟩
        rw [HN.out] at hv ⊢
        have c1' := (H.out.below hb).ccnt
        clear c0 c1
        go_wp2
        go_ret2
        exact ⟨⟨_, rfl, own_nil _ _⟩, H.out.below hb, below_grown0 hb _⟩
    · have hD := do_goes hN.symm hc
      rw [hD]
      have HN := Lib.hid hN.symm
      have hc' : (ev ≠ 4 ∧ ev ≠ 5) ∨ (ev = 4 ∧ a.cnt ≠ 0) ∨ (ev = 5 ∧ a.cnt = 0) := by omega
      clear hN hD h hc
      have hpost : ∀ w' v, Own w.heap.size w' v L → AtP w' g { a with st := t, cnt := cntTo a.cf a.tm L L a.cnt } → w.grownBy w' (some g) → DoR AtP g ({ a with st := t, cnt := cntTo a.cf a.tm L L a.cnt }, L, 0) w (.returned (.tuple #[v, .int .i64 0])) w' := fun w' v h1 h2 h3 => ⟨⟨v, rfl, h1⟩, h2, h3⟩
      generalize DoR AtP g ({ a with st := t, cnt := cntTo a.cf a.tm L L a.cnt }, L, 0) w = Post at *
      go_enter Try.func30, Try.ntmps30
      go_wp2_with fail
      refine (HNx.out _).mono ?_
      rintro e w1 ⟨⟨v, rfl, hv⟩, hb⟩
      rw [HN.out] at hv ⊢
      have H1 := Lib.hid (H.out.below hb)
      have c1' := H1.out.ccnt
      have G1 := Lib.hid (below_grown0 hb (some g))
      have hv2 : Own w.heap.size w1 v L := hv
      obtain ⟨A, cap, rfl, k1, k2, k3, -⟩ := hv2.ints
      have HV := Lib.hid hv2
      unfold maxLen at k2
      clear c0 c1 hv hv2 H hb
      go_upto_region 6 with fail
      go_cut [27] from 27 to 48 (fun v wx => v = .bool false ∧ wx = w1)
      case first =>
        rcases hc' with ⟨n4, n5⟩ | ⟨n4, hz⟩ | ⟨n4, hz⟩
        · have q4 : (ev == 4) = false := beq_eq_false_iff_ne.2 n4
          have q5 : (ev == 5) = false := beq_eq_false_iff_ne.2 n5
          clear n4 n5
          go_wp2
          go_meet
          exact ⟨rfl, rfl⟩
        · subst n4
          have qz : (a.cnt == 0) = false := beq_eq_false_iff_ne.2 hz
          clear hz
          go_wp2
          go_meet
          exact ⟨rfl, rfl⟩
        · subst n4
          have qz : (a.cnt == 0) = true := by simpa using hz
          have qz2 : decide (0 < a.cnt) = false := by simp; omega
          clear hz
          go_wp2
          go_meet
          exact ⟨rfl, rfl⟩
      case rest =>
        obtain ⟨rfl, rfl⟩ := hcut
        clear hc' c1'
        go_wp2
        go_loopw [10, 50] (fun _ i wr => ∃ (k : Nat) (c : Int), k ≤ L.length ∧ i = .int .i64 k ∧ Hid (c = cntTo a.cf a.tm L (L.take k) a.cnt) ∧ 0 ≤ c ∧ c ≤ 255 ∧ Hid (AtP wr g { a with cnt := c }) ∧ Hid (Own w.heap.size wr (.slice A L.length cap) L) ∧ w.grownBy wr (some g)) (fun _ i _ => L.length - (intOf i).toNat)
        case atStart => exact ⟨0, a.cnt, by omega, rfl, Lib.hid rfl, b3, b4, H1, HV, G1.out⟩
        case round =>
          clear H1 HV G1
          obtain ⟨k, c, hk, rfl, hcc, d0, d1, HA, ho, hG⟩ := hrel
          have hsz := hG.size
          by_cases hlt2 : k < L.length
          · obtain ⟨A', cap', eA, -, -, kn, kc⟩ := ho.out.ints
            cases eA
            obtain ⟨ad, rfl⟩ := some_of kn hlt2
            obtain ⟨ba, oa, rfl, cx⟩ := kc ad rfl k hlt2
            have hi0 : (0 : Int) ≤ (k : Int) := by omega
            have hi1 : (k : Int) < (L.length : Int) := by omega
            have fc := HA.out.free 1
            have cA := HA.out.ccnt
            have cB := HA.out.ccf
            have cC := HA.out.ctm
            have hs := Lib.hid (cntTo_succ a.cf a.tm L k a.cnt hlt2)
            have hN2 := Lib.hid (cnt1_ok (cf := a.cf) (tm := a.tm) (c := c) L L[k] ⟨b5, b6⟩ ⟨b7, b8⟩ ⟨d0, d1⟩)
            clear kn kc
            obtain ⟨x, hx⟩ : ∃ x, x = L[k] := ⟨_, rfl⟩
            rw [← hx] at cx hs hN2
            have hs2 : Hid (cntTo a.cf a.tm L (L.take (k + 1)) a.cnt = cnt1 a.cf a.tm L c x) := Lib.hid (by rw [hs.out, hcc.out])
            clear hx hs
            have hcase : x = 5 ∨ x = 6 ∨ x = 7 ∨ x = 10 ∨ (x ≠ 5 ∧ x ≠ 6 ∧ x ≠ 7 ∧ x ≠ 10) := by omega
            rcases hcase with rfl | rfl | rfl | rfl | ⟨n5, n6, n7, n10⟩
            · have HA1 := Lib.hid (HA.out.setCnt a.cf)
              have ho1 := Lib.hid (ho.out.set hlt 1 (.int .i64 a.cf))
              have hG1 := Lib.hid (grown_setCell hG 1 (.int .i64 a.cf))
              clear hN2
              go_wp2_with fail
              refine (among42 L [10] _ _ _ (ho1.out.below ((Below.refl _ _).alloc (Nat.le_refl _) _)).ints (own_lit1' (x := 10)).ints).mono ?_
              rintro e w2 ⟨rfl, rfl⟩
              rw [show amongB L [10] = hasI L 10 from among1 L]
              have HA2 := Lib.hid (HA1.out.below ((Below.refl _ _).alloc (Nat.le_refl _) (.cells #[.int .i64 10] 3)))
              have ho2 := Lib.hid (ho1.out.below ((Below.refl _ _).alloc (Nat.le_refl _) (.cells #[.int .i64 10] 3)))
              have hG2 := Lib.hid (grown_below hG1.out ((Below.refl _ _).alloc (Nat.le_refl _) (.cells #[.int .i64 10] 3)))
              cases hz : hasI L 10
              · have hs3 : Hid (a.cf = cntTo a.cf a.tm L (L.take (k + 1)) a.cnt) := Lib.hid (by rw [hs2.out]; unfold cnt1; rw [if_pos rfl, if_neg (by show ¬ (hasI L 10 = true); rw [hz]; simp)])
                clear hs2 hz
                go_wp2
                go_roundw
                case rel => exact ⟨k + 1, a.cf, by omega, by go_num, hs3, by omega, by omega, HA2, ho2, hG2.out⟩
                case measure => simp [intOf]; omega
              · have hs3 : Hid (a.tm = cntTo a.cf a.tm L (L.take (k + 1)) a.cnt) := Lib.hid (by rw [hs2.out]; unfold cnt1; rw [if_pos rfl, if_pos (by show hasI L 10 = true; exact hz)])
                clear hs2 hz
                have cA2 := HA2.out.ccnt
                have cC2 := HA2.out.ctm
                have f2 := HA2.out.free 1
                go_wp2
                go_roundw
                case rel => exact ⟨k + 1, a.tm, by omega, by go_num, hs3, by omega, by omega, Lib.hid (HA2.out.setCnt a.tm), Lib.hid (ho2.out.set hlt _ _), grown_setCell hG2.out _ _⟩
                case measure => simp [intOf]; omega
            · have hs3 : Hid ((0 : Int) = cntTo a.cf a.tm L (L.take (k + 1)) a.cnt) := Lib.hid (by rw [hs2.out]; rfl)
              clear hs2 hN2
              go_wp2
              go_roundw
              case rel => exact ⟨k + 1, 0, by omega, by go_num, hs3, by omega, by omega, Lib.hid (HA.out.setCnt 0), Lib.hid (ho.out.set hlt _ _), grown_setCell hG _ _⟩
              case measure => simp [intOf]; omega
            iterate 2
              · by_cases hc1 : c - 1 < 0
                · have hs3 : Hid ((0 : Int) = cntTo a.cf a.tm L (L.take (k + 1)) a.cnt) := Lib.hid (by rw [hs2.out]; unfold cnt1; rw [if_neg (by decide), if_neg (by decide), if_pos (by decide), if_pos hc1])
                  clear hs2 hN2
                  go_wp2
                  go_roundw
                  case rel => exact ⟨k + 1, 0, by omega, by go_num, hs3, by omega, by omega, Lib.hid (HA.out.setCnt 0), Lib.hid (ho.out.set hlt _ _), grown_setCell hG _ _⟩
                  case measure => simp [intOf]; omega
                · have hs3 : Hid (c - 1 = cntTo a.cf a.tm L (L.take (k + 1)) a.cnt) := Lib.hid (by rw [hs2.out]; unfold cnt1; rw [if_neg (by decide), if_neg (by decide), if_pos (by decide), if_neg hc1])
                  clear hs2 hN2
                  go_wp2
                  go_roundw
                  case rel => exact ⟨k + 1, c - 1, by omega, by go_num, hs3, by omega, by omega, Lib.hid (HA.out.setCnt (c - 1)), Lib.hid (ho.out.set hlt _ _), grown_setCell hG _ _⟩
                  case measure => simp [intOf]; omega
            · have hs3 : Hid (c = cntTo a.cf a.tm L (L.take (k + 1)) a.cnt) := Lib.hid (by rw [hs2.out]; unfold cnt1; rw [if_neg n5, if_neg n6, if_neg (by omega)])
              have q5 : (x == 5) = false := beq_eq_false_iff_ne.2 n5
              have q6 : (x == 6) = false := beq_eq_false_iff_ne.2 n6
              have q7 : (x == 7) = false := beq_eq_false_iff_ne.2 n7
              have q10 : (x == 10) = false := beq_eq_false_iff_ne.2 n10
              clear hs2 hN2 n5 n6 n7 n10
              go_wp2
              go_roundw
              case rel => exact ⟨k + 1, c, by omega, by go_num, hs3, d0, d1, HA, ho, hG⟩
              case measure => simp [intOf]; omega
          · obtain rfl : k = L.length := by omega
            rw [List.take_of_length_le (Nat.le_refl _)] at hcc
            have fs := HA.out.free 0
            have cS := HA.out.cst
            have hcc2 := hcc.out
            subst hcc2
            go_wp2
            exact hpost _ _ (ho.out.set hlt _ _) (HA.out.setSt t) (grown_setCell hG _ _)
  · have hD := do_err hN.symm he
    rw [hD]
    have HN := Lib.hid hN.symm
    have qe : (er != 0) = true := by simpa using he
    clear hN hD h he
    go_enter Try.func30, Try.ntmps30
    go_wp2_with fail
    refine (HNx.out _).mono ?_
    rintro e w1 ⟨⟨v, rfl, hv⟩, hb⟩
    rw [HN.out] at hv ⊢
    clear c0 c1
    go_wp2
    go_ret2
    exact ⟨⟨_, rfl, own_nil _ _⟩, H.out.below hb, below_grown0 hb _⟩
end Go.Proofs.Ytjgndagejogfnaa.F
