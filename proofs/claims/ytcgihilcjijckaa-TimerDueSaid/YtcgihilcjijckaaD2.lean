import Derived.Test.YtcgihilcjijckaaD1
set_option linter.unusedVariables false
set_option linter.unusedSimpArgs false
namespace Go.Proofs.Ytcgihilcjijckaa.F
open Go.RowKit Go.Proofs.Ytcgihilcjijckaa.K
theorem none_grown {w w1 w2 : World} {v1 : Value} {n : Nat} {xs : List Value} (h : w.grownBy w1 none) (hr : Row w1 w.heap.size 29 2 v1 n xs) (h2 : w1.grownBy w2 v1.ownBlock) : Below w.heap.size w w2 :=
  ⟨h2.os.trans h.os, h2.tape.trans h.tape, h2.output.trans h.output, Nat.le_trans h.size h2.size, fun k hk => (h2.block k (Nat.lt_of_lt_of_le hk h.size) (fun e => by have := (hr.live e.symm).1; omega)).trans (h.block k hk (by simp))⟩
theorem below_of_none {w w1 : World} (h : w.grownBy w1 none) : Below w.heap.size w w1 := ⟨h.os, h.tape, h.output, h.size, fun k hk => h.block k hk (by simp)⟩
theorem out_fin {w w2 : World} {g : Nat} {v v2 : Value} {l : List On} {k : Nat} (hk : k < l.length) (hq : RAt w g v l) (hb : Below w.heap.size w w2) (hr : Row w2 w.heap.size 29 2 v2 (k + (l.length - (k + 1))) ((ons l).take (k * 2) ++ ((ons l).drop ((k + 1) * 2)).take ((l.length - (k + 1)) * 2))) : RS w (w2.setCell ⟨g, 0, none⟩ v2) g v v2 (l.eraseIdx k) := by
  refine rs_fin hq (Grown2.below hb _ _) (fun i hi => .inr (hr.live hi).1) (hb.block g (Array.getElem?_eq_some_iff.1 hq.blk).1) (hr.weak (Nat.zero_le _)) (by rw [List.length_eraseIdx_of_lt hk]; omega) ?_
  rw [ons_take l k (by omega), ons_drop l (k + 1) (by omega), List.take_of_length_le (l := ons (l.drop (k + 1))) (by rw [ons_len, List.length_drop]; omega), ← ons_app, List.eraseIdx_eq_take_drop_succ]
variable (g : Nat) (w : World)
set_option maxHeartbeats 4000000 in
theorem out37 (v : Value) (l : List On) (k : Nat) (hk : k < l.length) (hl : l.length ≤ 64) (h : RAt w g v l) : Calls Try.prog 37 #[.pointer (some ⟨g, 0, none⟩), .int .i64 k] w fun e w' => e = .returned (.tuple #[]) ∧ ∃ v1, RS w w' g v v1 (l.eraseIdx k) := by
  have HQ := Lib.hid h
  have c0 := h.c0
  have hlt : g < w.heap.size := (Array.getElem?_eq_some_iff.1 h.blk).1
  obtain ⟨A, cap, rfl, k1, k2, k3⟩ := h.form
  obtain ⟨b, rfl, hbg, -, -⟩ := h.cell hk
  clear h k3
  unfold maxLen at k2
  have i0 : (0 : Int) ≤ (k : Int) := by omega
  have i1 : (k : Int) ≤ (cap : Int) := by omega
  have i2 : (0 : Int) ≤ (k : Int) + 1 := by omega
  have i3 : (k : Int) + 1 ≤ (l.length : Int) := by omega
  have i5 : (l.length : Int) ≤ (cap : Int) := by omega
  have hone : ∀ u ∈ ons l, u.oneCell' = true := fun u hu => ons_one hu
  have S1 := Lib.hid (Row.part HQ.out.row hone 0 k 0 cap (fun _ => by omega) (by omega))
  have s1 : 0 + k ≤ maxLen := by unfold maxLen; omega
  have s2 : (0 + k) * 16 ≤ 140737488355328 := by omega
  have hrow := Lib.hid (Row.nil w w.heap.size 29 2)
  go_enter Try.func37, Try.ntmps37
  go_wp2_with (at_builtin; refine wpList_row elO rfl _ _ rfl w.heap.size _ _ _ rfl hrow.out _ k _ rfl S1.out s1 s2 (Nat.le_refl _) ?_)
  intro v1 w1 hr1
  obtain ⟨A1, cp1, rfl, hc1, hm1⟩ := Row.slice hr1.row
  have HR1 := Lib.hid hr1
  clear hr1 hrow S1
  have hb1 := below_of_none HR1.out.grow
  have HB1 := Lib.hid hb1
  have Q1 := Lib.hid (HQ.out.below hb1)
  have P := fun (o c : Nat) (ho : 0 < l.length - (k + 1) → o = (k + 1) * 2) => Row.part Q1.out.row hone (k + 1) (l.length - (k + 1)) o c ho (by omega)
  have HP := Lib.hid P
  clear P hone hb1 c0
  have c0 := Q1.out.c0
  have t1 : k + (l.length - (k + 1)) ≤ maxLen := by unfold maxLen; omega
  have t2 : (k + (l.length - (k + 1))) * 16 ≤ 140737488355328 := by omega
  have hw2 : ((k : Int) + 1).toNat = k + 1 := by omega
  have hz1 := HB1.out.size
  by_cases hc : k + 1 = cap
  · subst hc
    have i4 : (k : Int) ≤ (k : Int) + 1 := by omega
    have i6 : (l.length : Int) ≤ (k : Int) + 1 := by omega
    have hl0 : l.length - (k + 1) = 0 := by omega
    have S2 := HP.out 0 0 (fun hh => by omega)
    have HL0 := Lib.hid hl0
    rw [hl0] at S2 t1 t2
    rw [Nat.zero_mul, List.take_zero] at S2
    have HS2 := Lib.hid S2
    clear S2 hl0
    go_wp2_with (at_builtin; refine wpList_row elO rfl _ _ rfl w.heap.size _ _ _ rfl HR1.out.row _ 0 [] rfl HS2.out t1 t2 hz1 ?_)
    intro v2 w2 hr2
    obtain ⟨A2, cp2, rfl, hc2, hm2⟩ := Row.slice hr2.row
    have HR2 := Lib.hid hr2
    clear hr2 c0 HP
    have hb2 := none_grown HR1.out.grow HR1.out.row HR2.out.grow
    have HB2 := Lib.hid hb2
    have Q2 := Lib.hid (HQ.out.below hb2)
    clear hb2
    have c0 := Q2.out.c0
    have f0 := Q2.out.free 0
    go_wp2_with fail
    go_end0
    exact ⟨rfl, _, out_fin hk HQ.out HB2.out (by rw [HL0.out, Nat.zero_mul, List.take_zero, List.append_nil]; exact HR2.out.row)⟩
  · have i4 : (k : Int) + 1 < (cap : Int) := by omega
    have hc2 : ¬ cap = k + 1 := by omega
    go_wp2_with (at_builtin; refine wpList_row elO rfl _ _ rfl w.heap.size _ _ _ rfl HR1.out.row _ (l.length - (k + 1)) _ rfl (HP.out ((k + 1) * 2) (cap - (k + 1)) (fun _ => rfl)) t1 t2 hz1 ?_)
    intro v2 w2 hr2
    obtain ⟨A2, cp2, rfl, hc2, hm2⟩ := Row.slice hr2.row
    have HR2 := Lib.hid hr2
    clear hr2 c0 HP
    have hb2 := none_grown HR1.out.grow HR1.out.row HR2.out.grow
    have HB2 := Lib.hid hb2
    have Q2 := Lib.hid (HQ.out.below hb2)
    clear hb2
    have c0 := Q2.out.c0
    have f0 := Q2.out.free 0
    go_wp2_with fail
    go_end0
    exact ⟨rfl, _, out_fin hk HQ.out HB2.out HR2.out.row⟩
end Go.Proofs.Ytcgihilcjijckaa.F
