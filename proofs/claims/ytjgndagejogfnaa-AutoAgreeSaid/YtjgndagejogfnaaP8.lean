import Derived.Test.YtjgndagejogfnaaP7
import Derived.Deep.RegionHeld3
set_option linter.unusedVariables false
set_option linter.unusedSimpArgs false
namespace Go.Proofs.Ytjgndagejogfnaa.F
open Go.RowKit Go.Proofs.Ytjgndagejogfnaa.K
def O.v (o : O) : Value := .agg #[.int .i64 o.k, .int .i64 o.ev]
/-- Only blocks g and r turned. -/
structure Two (w w' : World) (g r : Nat) : Prop where
  os : w'.os = w.os
  tape : w'.tape = w.tape
  output : w'.output = w.output
  size : w.heap.size ≤ w'.heap.size
  block : ∀ k, k < w.heap.size → k ≠ g → k ≠ r → w'.heap[k]? = w.heap[k]?
theorem Two.refl (w : World) (g r : Nat) : Two w w g r := ⟨rfl, rfl, rfl, Nat.le_refl _, fun _ _ _ _ => rfl⟩
theorem Two.below {w w1 w2 : World} {g r : Nat} (h : Two w w1 g r) (hb : Below w1.heap.size w1 w2) : Two w w2 g r :=
  ⟨hb.os.trans h.os, hb.tape.trans h.tape, hb.output.trans h.output, Nat.le_trans h.size hb.size, fun k hk h1 h2 => (hb.block k (Nat.lt_of_lt_of_le hk h.size)).trans (h.block k hk h1 h2)⟩
theorem Two.left {w w1 w2 : World} {g r : Nat} (h : Two w w1 g r) (hg : w1.grownBy w2 (some g)) : Two w w2 g r :=
  ⟨hg.os.trans h.os, hg.tape.trans h.tape, hg.output.trans h.output, Nat.le_trans h.size hg.size, fun k hk h1 h2 => (hg.block k (Nat.lt_of_lt_of_le hk h.size) (by simpa using h1)).trans (h.block k hk h1 h2)⟩
theorem Two.right {w w1 w2 : World} {g r : Nat} (h : Two w w1 g r) (hg : w1.grownBy w2 (some r)) : Two w w2 g r :=
  ⟨hg.os.trans h.os, hg.tape.trans h.tape, hg.output.trans h.output, Nat.le_trans h.size hg.size, fun k hk h1 h2 => (hg.block k (Nat.lt_of_lt_of_le hk h.size) (by simpa using h2)).trans (h.block k hk h1 h2)⟩
/-- a block of the call's own turned -/
theorem Two.out_own {w w1 w2 : World} {g r q : Nat} (h : Two w w1 g r) (hg : w1.grownBy w2 (some q)) (hq : w.heap.size ≤ q) : Two w w2 g r :=
  ⟨hg.os.trans h.os, hg.tape.trans h.tape, hg.output.trans h.output, Nat.le_trans h.size hg.size, fun k hk h1 h2 => (hg.block k (Nat.lt_of_lt_of_le hk h.size) (by simp; omega)).trans (h.block k hk h1 h2)⟩
/-- one call, of both -/
def St.both (a : St) (o : O) : St × List Int × Int := if o.k = 0 then a.do_ o.ev else if o.k = 1 then a.timeout else (a, [], 0)
theorem both_ok {a : St} (h : a.ok) (o : O) : (a.both o).1.ok := by
  unfold St.both
  split
  · exact do_ok h _
  · split
    · exact timeout_ok h
    · exact h
structure StepR (g r : Nat) (a' : St) (w : World) (e : Ending) (w' : World) : Prop where
  ret : ∃ A m c, e = .returned (.tuple #[.slice A m c, .bool true])
  at1 : AtP w' g a'
  at2 : AtR w' r a'
  two : Two w w' g r
theorem Own.grown {B g : Nat} {w w' : World} {v : Value} {l : List Int} (h : Own B w v l) (hg : w.grownBy w' (some g)) (hB : g < B) : Own B w' v l := h.kept hg (fun k e => by cases e; exact hB)
set_option maxRecDepth 100000 in
set_option maxHeartbeats 8000000 in
theorem step37 (g r : Nat) (a : St) (o : O) (w : World) (h : AtP w g a) (h' : AtR w r a) (hne : g ≠ r) (hok : a.ok) : Calls Try.prog 37 #[.pointer (some ⟨g, 0, none⟩), .pointer (some ⟨r, 0, none⟩), o.v] w (StepR g r (a.both o).1 w) := by
  obtain ⟨ok, ev⟩ := o
  simp only [O.v]
  have lg := h.lt
  have lr := h'.lt
  obtain ⟨b, hb⟩ : ∃ b, b = a.both ⟨ok, ev⟩ := ⟨_, rfl⟩
  rw [← hb]
  have HB := Lib.hid hb
  clear hb
  have HP := Lib.hid h
  have HR := Lib.hid h'
  have Hne := Lib.hid hne
  clear h h' hne
  go_enter Try.func37, Try.ntmps37
  go_upto_block 0 with fail
  go_cut [8, 9, 10, 11] from 14 to 43 (fun x y ex ey wx => ∃ (A1 A2 : Option Addr) (c1 c2 : Nat), x = .slice A1 b.2.1.length c1 ∧ y = .slice A2 b.2.1.length c2 ∧ ex = .int .i64 b.2.2 ∧ ey = .int .i64 b.2.2 ∧ Hid (Own w.heap.size wx (.slice A1 b.2.1.length c1) b.2.1) ∧ Hid (Own w.heap.size wx (.slice A2 b.2.1.length c2) b.2.1) ∧ Hid (AtP wx g b.1) ∧ Hid (AtR wx r b.1) ∧ Two w wx g r)
  case first =>
    have hbx : Below w.heap.size w (w.alloc (.cells #[.int .i64 ok, .int .i64 ev] 43)) := (Below.refl _ w).alloc (Nat.le_refl _) _
    have HP1 := Lib.hid (HP.out.below hbx)
    have HR1 := Lib.hid (HR.out.below hbx)
    have T1 := Lib.hid ((Two.refl w g r).below hbx)
    have HX := Lib.hid (show (w.alloc (.cells #[.int .i64 ok, .int .i64 ev] 43)).heap[w.heap.size]? = some (.cells #[.int .i64 ok, .int .i64 ev] 43 (0, 0)) from heap_alloc_new w _)
    clear hbx
    by_cases k0 : ok = 0
    · subst k0
      have hbe : b = a.do_ ev := HB.out.trans (if_pos rfl)
      have D1 := Lib.hid (fun W h => do30 g a ev W h hok)
      have D2 := Lib.hid (fun W h => do41 r a ev W h hok)
      rw [← hbe] at D1 D2
      clear hbe
      go_wp2_with fail
      refine (D1.out _ HP1.out).mono ?_
      intro e w2 hr
      obtain ⟨A1, c1, rfl, o1, p2, g2⟩ := hr.open
      have O1 := Lib.hid (o1.weak (B' := w.heap.size) (by simp))
      have HP2 := Lib.hid p2
      have HR2 := Lib.hid (HR1.out.grown g2 (by have := Hne.out; omega))
      have T2 := Lib.hid (T1.out.left g2)
      have HX2 := Lib.hid ((g2.block w.heap.size (by simp) (by simp; omega)).trans HX.out)
      have d1 := (cell_of_row _ _ 1 _ _ _ HX2.out).trans rfl
      clear hr o1 p2 g2 HP1 HR1 T1 HX
      go_wp2_with fail
      refine (D2.out _ HR2.out).mono ?_
      intro e w3 hr
      obtain ⟨A2, c2, rfl, o2, p3, g3⟩ := hr.open
      have hs2 := T2.out.size
      have O2 := Lib.hid (o2.weak (B' := w.heap.size) hs2)
      have O1' := Lib.hid (O1.out.grown g3 lr)
      have HR3 := Lib.hid p3
      have HP3 := Lib.hid (HP2.out.grown g3 Hne.out)
      have T3 := Lib.hid (T2.out.right g3)
      clear hr o2 p3 g3 HP2 HR2 T2 O1 d1 HX2 D1 D2
      generalize hbb : b = b' at *
      go_wp2
      go_meet
      exact ⟨A1, A2, c1, c2, rfl, rfl, rfl, rfl, O1', O2, HP3, HR3, T3.out⟩
    · by_cases k1 : ok = 1
      · subst k1
        have hbe : b = a.timeout := HB.out.trans ((if_neg (show ¬ ((1 : Int) = 0) by decide)).trans (if_pos rfl))
        have D1 := Lib.hid (fun W h => timeout29 g a W h hok)
        have D2 := Lib.hid (fun W h => timeout44 r a W h hok)
        rw [← hbe] at D1 D2
        clear hbe k0
        go_wp2_with fail
        refine (D1.out _ HP1.out).mono ?_
        intro e w2 hr
        obtain ⟨A1, c1, rfl, o1, p2, g2⟩ := hr.open
        have O1 := Lib.hid (o1.weak (B' := w.heap.size) (by simp))
        have HP2 := Lib.hid p2
        have HR2 := Lib.hid (HR1.out.grown g2 (by have := Hne.out; omega))
        have T2 := Lib.hid (T1.out.left g2)
        clear hr o1 p2 g2 HP1 HR1 T1 HX
        go_wp2_with fail
        refine (D2.out _ HR2.out).mono ?_
        intro e w3 hr
        obtain ⟨A2, c2, rfl, o2, p3, g3⟩ := hr.open
        have hs2 := T2.out.size
        have O2 := Lib.hid (o2.weak (B' := w.heap.size) hs2)
        have O1' := Lib.hid (O1.out.grown g3 lr)
        have HR3 := Lib.hid p3
        have HP3 := Lib.hid (HP2.out.grown g3 Hne.out)
        have T3 := Lib.hid (T2.out.right g3)
        clear hr o2 p3 g3 HP2 HR2 T2 O1 D1 D2
        go_wp2
        go_meet
        exact ⟨A1, A2, c1, c2, rfl, rfl, rfl, rfl, O1', O2, HP3, HR3, T3.out⟩
      · have hbe : b = (a, [], 0) := HB.out.trans ((if_neg k0).trans (if_neg k1))
        subst hbe
        have q0 : (ok == 0) = false := by simpa using k0
        have q1 : (ok == 1) = false := by simpa using k1
        clear k0 k1
        go_wp2
        go_meet
        exact ⟨none, none, 0, 0, rfl, rfl, rfl, rfl, Lib.hid (own_nil _ _), Lib.hid (own_nil _ _), HP1, HR1, T1.out⟩
  case rest =>
    obtain ⟨A1, A2, c1, c2, rfl, rfl, rfl, rfl, O1, O2, HP2, HR2, T2⟩ := hcut
    obtain ⟨a2, L, er⟩ := b
    simp only at O1 O2 HP2 HR2 ⊢
    have N1 := Lib.hid (fun n => numbers_same L _ _ (wc.drewN n) (O1.out.ints.below (below_self_drewN _ _)) (O2.out.ints.below (below_self_drewN _ _)))
    have S1 := Lib.hid (fun n => state33 g a2 (wc.drewN n) ⟨HP2.out.blk⟩)
    have C1 := Lib.hid (fun n => count32 g a2 (wc.drewN n) ⟨HP2.out.blk⟩)
    have R1 := Lib.hid (fun n => running31 g a2 (wc.drewN n) ⟨HP2.out.blk⟩)
    have e2 := HR2.out.cst
    have e3 := HR2.out.ccnt
    go_wp2_with fail
    go_quiet ((first | (go_at_call 14; exact Calls.quiet_of (N1.out _)) | (go_at_call 33; exact Calls.quiet_of_same ((S1.out _).mono fun _ _ ⟨x, y⟩ => ⟨x, y.symm⟩)) | (go_at_call 32; exact Calls.quiet_of_same ((C1.out _).mono fun _ _ ⟨x, y⟩ => ⟨x, y.symm⟩)) | (go_at_call 31; exact Calls.quiet_of_same ((R1.out _).mono fun _ _ ⟨x, y⟩ => ⟨x, y.symm⟩)) | (go_at_call 23; exact Calls.quiet_of_same ((runs23 _ _).mono fun _ _ ⟨x, y⟩ => ⟨x, y.symm⟩))))
    have O1q : Hid ((wc.drewN nq).ownsRow w.heap.size 3 1 (.slice A1 L.length c1) L.length (L.map (Value.int .i64))) := Lib.hid (O1.out.below (below_self_drewN wc nq))
    have P1 := Lib.hid (show AtP (wc.drewN nq) g a2 from ⟨HP2.out.blk⟩)
    have Q1 := Lib.hid (show AtR (wc.drewN nq) r a2 from ⟨HR2.out.blk⟩)
    have T3 := T2.below (below_self_drewN wc nq)
    obtain ⟨A', c', eA, kb1, kb2, kn, -⟩ := O1.out.ints
    cases eA
    unfold maxLen at kb2
    have KN := Lib.hid kn
    clear kn O1 O2 HP2 HR2 T2 N1 S1 C1 R1 e2 e3
    generalize wc.drewN nq = W at *
    have hsW := T3.size
    go_wp2
    go_loopw [13, 82] (fun _ i wr => ∃ (k : Nat) (xs : List Value), k ≤ L.length ∧ i = .int .i64 k ∧ Hid (wr.ownsRow w.heap.size 3 1 (.slice A1 L.length c1) L.length xs) ∧ Hid (AtP wr g a2) ∧ Hid (AtR wr r a2) ∧ Two w wr g r) (fun _ i _ => L.length - (intOf i).toNat)
    case atStart => exact ⟨0, _, by omega, rfl, O1q, P1, Q1, T3⟩
    case round =>
      clear O1q P1 Q1 T3 hsW
      obtain ⟨k, xs, hk, rfl, h1, h2, h3, hT⟩ := hrel
      by_cases hlt : k < L.length
      · obtain ⟨ad, rfl⟩ := some_of KN.out hlt
        obtain ⟨q, cap, eg, -, -⟩ := own_form h1.out (by omega)
        cases eg
        have hx := h1.out.1
        have c := h1.out.cellAt k (by omega)
        rw [List.getElem?_eq_getElem (by rw [hx]; omega)] at c
        obtain ⟨u, hu⟩ : ∃ u, wr.cell? ⟨q, k, none⟩ = some u := ⟨_, c⟩
        clear c hx
        have f := h1.out.frozenAt k
        have st := h1.out.stored k (.int .i64 99)
        have hg1 := (h1.out.lt q rfl).1
        have hi0 : (0 : Int) ≤ (k : Int) := by omega
        have hi1 : (k : Int) < (L.length : Int) := by omega
        have st1 := Lib.hid st.1
        have h2' := Lib.hid (h2.out.grown st.2 (by omega))
        have h3' := Lib.hid (h3.out.grown st.2 (by omega))
        have hT' := Lib.hid (hT.out_own st.2 hg1)
        clear st
        go_wp2_with fail
        go_roundw
        case rel => exact ⟨k + 1, _, by omega, by go_num, st1, h2', h3', hT'.out⟩
        case measure => simp [intOf]; omega
      · obtain rfl : k = L.length := by omega
        go_wp2
        go_ret2
        exact ⟨⟨_, _, _, rfl⟩, h2.out, h3.out, hT⟩
end Go.Proofs.Ytjgndagejogfnaa.F
