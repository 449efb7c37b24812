import Derived.Test.YtcgihilcjijckaaG7
set_option linter.unusedVariables false
set_option linter.unusedSimpArgs false
set_option linter.unnecessarySimpa false
namespace Go.Proofs.Ytcgihilcjijckaa.F
open Go.RowKit Go.Proofs.Ytcgihilcjijckaa.K
theorem step14 (gq gr : Nat) (w : World) (vq vr : Value) (n kd id at_ sp : Int) (l : List Tm) (R : List On) (hk : Like l R) (h : TwS w w gq gr vq vr vq vr n l R) : Calls Try.prog 14 #[.pointer (some ⟨gq, 0, none⟩), .pointer (some ⟨gr, 0, none⟩), .agg #[.int .i64 kd, .int .i64 id, .int .i64 at_, .int .i64 sp]] w (StepR gq gr vq vr w) := by
  by_cases h0 : kd = 0
  · exact step14_0 gq gr w vq vr n kd id at_ sp l R h0 hk h
  by_cases h1 : kd = 1
  · exact step14_1 gq gr w vq vr n kd id at_ sp l R h1 hk h
  by_cases h2 : kd = 2
  · exact step14_2 gq gr w vq vr n kd id at_ sp l R h2 hk h
  by_cases h3 : kd = 3
  · exact step14_3 gq gr w vq vr n kd id at_ sp l R h3 hk h
  by_cases h4 : kd = 4
  · exact step14_4 gq gr w vq vr n kd id at_ sp l R h4 hk h
  by_cases h5 : kd = 5
  · exact step14_5 gq gr w vq vr n kd id at_ sp l R h5 hk h
  by_cases h6 : kd = 6
  · exact step14_6 gq gr w vq vr n kd id at_ sp l R h6 hk h
  exact step14_no gq gr w vq vr n kd id at_ sp l R (fun j h7 h8 => by omega) hk h
theorem SetS.trans {w w1 w2 : World} {g : Nat} {v v1 v2 : Value} {n1 n2 : Int} {l1 l2 : List Tm} (h : SetS w w1 g v v1 n1 l1) (h2 : SetS w1 w2 g v1 v2 n2 l2) : SetS w w2 g v v2 n2 l2 :=
  ⟨h2.q, h.grow.trans h2.grow h.own, fun k hk => by
    rcases h2.own k hk with q | q
    · exact h.own k q
    · exact .inr (Nat.le_trans h.grow.size q)⟩
/-- a queue of the call's own -/
theorem own_below {w w1 w2 : World} {g : Nat} {v v2 : Value} {n2 : Int} {l2 : List Tm} (hb : Below w.heap.size w w1) (hg : w.heap.size ≤ g) (hv : ∀ k, v.ownBlock = some k → w.heap.size ≤ k) (h : SetS w1 w2 g v v2 n2 l2) : Below w.heap.size w w2 :=
  ⟨h.grow.os.trans hb.os, h.grow.tape.trans hb.tape, h.grow.output.trans hb.output, Nat.le_trans hb.size h.grow.size, fun k hk => (h.grow.block k (Nat.lt_of_lt_of_le hk hb.size) (by omega) (fun e => by have := hv k e.symm; omega)).trans (hb.block k hk)⟩
/-- a list of the call's own, beside a queue -/
structure Beside (B : Nat) (w1 : World) (g : Nat) (v1 u : Value) (D : List Int) : Prop where
  row : Row w1 B 3 1 u D.length (ints D)
  apart : Apart u v1
  ne : u.ownBlock ≠ some g
theorem Beside.step {B : Nat} {w1 w2 : World} {g : Nat} {v1 v2 u : Value} {D : List Int} {n2 : Int} {l2 : List Tm} (h : Beside B w1 g v1 u D) (hs : SetS w1 w2 g v1 v2 n2 l2) : Beside B w2 g v2 u D :=
  ⟨h.row.grown2 hs.grow h.ne (fun k hk e => h.apart k hk e), fun k hk e => by
    rcases hs.own k e with q | q
    · exact h.apart k hk q
    · have := (Row.live h.row hk).2; omega, h.ne⟩
set_option maxRecDepth 100000 in
set_option maxHeartbeats 4000000 in
theorem awake12 (w : World) : Calls Try.prog 12 #[] w fun e w' => e = .returned (.bool true) ∧ Below w.heap.size w w' := by
  have HN := Lib.hid (new13 w)
  have HS := Lib.hid (fun W v n id at_ l R h1 h2 => setq24 w.heap.size W v n id at_ l R h1 h2)
  have HD := Lib.hid (fun W v n now l R h1 h2 => dueq9 w.heap.size W v n now l R h1 h2)
  go_enter Try.func12, Try.ntmps12
  go_wp2_with fail
  refine HN.out.mono ?_
  rintro e w1 ⟨rfl, hq, hb⟩
  have HBF := Lib.hid (fun w2 v2 n2 l2 (h : SetS w1 w2 w.heap.size (.slice none 0 0) v2 n2 l2) => own_below hb (Nat.le_refl _) (fun k hk => by simp [Value.ownBlock] at hk) h)
  have S0 := Lib.hid (SetS.refl hq)
  have hlt := (Array.getElem?_eq_some_iff.1 hq.blk).1
  clear hq hb HN
  generalize hgg : w.heap.size = g at *
  have L0 := Lib.hid Like.nil
  go_wp2_with fail
  refine (HS.out _ _ _ 1 50 _ _ L0.out S0.out.q).mono ?_
  rintro e w2 ⟨n2, l2, v2, rfl, hs, hk2⟩
  have S2 := Lib.hid (S0.out.trans hs)
  have L2 := Lib.hid hk2
  have z2 : setE 1 50 [] = 0 := by decide
  rw [z2]
  clear hs hk2
  go_wp2_with fail
  refine (HS.out _ _ _ 2 40 _ _ L2.out S2.out.q).mono ?_
  rintro e w3 ⟨n3, l3, v3, rfl, hs, hk3⟩
  have S3 := Lib.hid (S2.out.trans hs)
  have L3 := Lib.hid hk3
  have z3 : setE 2 40 (setR 1 50 []) = 0 := by decide
  rw [z3]
  clear hs hk3
  go_wp2_with fail
  refine (HS.out _ _ _ 3 50 _ _ L3.out S3.out.q).mono ?_
  rintro e w4 ⟨n4, l4, v4, rfl, hs, hk4⟩
  have S4 := Lib.hid (S3.out.trans hs)
  have L4 := Lib.hid hk4
  have z4 : setE 3 50 (setR 2 40 (setR 1 50 [])) = 0 := by decide
  rw [z4]
  clear hs hk4
  go_wp2_with fail
  refine (HD.out _ _ _ 45 _ _ L4.out S4.out.q).mono ?_
  rintro e w5 ⟨u1, v5, n5, rfl, hr, hs, ha⟩
  have S5 := Lib.hid (S4.out.trans hs)
  have E5 : duE 45 (setR 3 50 (setR 2 40 (setR 1 50 []))) = [2] := by decide
  rw [E5] at hr
  have P5 : Hid (Beside w4.heap.size w5 g v5 u1 [2]) := Lib.hid ⟨hr, ha, fun e => by have h1 := (Row.live hr e).1; have h2 := S4.out.grow.size; omega⟩
  have L5 : Hid (Like (restT 45 l4) [⟨1, 50⟩, ⟨3, 50⟩]) := Lib.hid (late_like (l2 := [⟨1, 50⟩, ⟨3, 50⟩]) L4.out rfl (by decide) (by unfold Uniq; decide))
  generalize restT 45 l4 = l5 at *
  clear hr hs ha E5
  go_wp2_with fail
  refine (HS.out _ _ _ 1 50 _ _ L5.out S5.out.q).mono ?_
  rintro e w6 ⟨n6, l6, v6, rfl, hs, hk6⟩
  have S6 := Lib.hid (S5.out.trans hs)
  have P6 := Lib.hid (P5.out.step hs)
  have L6 := Lib.hid hk6
  clear hs hk6
  go_wp2_with fail
  refine (HD.out _ _ _ 50 _ _ L6.out S6.out.q).mono ?_
  rintro e w7 ⟨u2, v7, n7, rfl, hr, hs, ha⟩
  have S7 := Lib.hid (S6.out.trans hs)
  have P7 := Lib.hid (P6.out.step hs)
  have E7 : duE 50 (setR 1 50 [⟨1, 50⟩, ⟨3, 50⟩]) = [3, 1] := by decide
  rw [E7] at hr
  have HR7 := Lib.hid hr
  have HE := Lib.hid (HBF.out _ _ _ _ S7.out)
  clear hr hs ha E7 HS HD
  obtain ⟨A1, p1, rfl, -, k1⟩ := Row.slice P7.out.row
  obtain ⟨A2, p2, rfl, -, k2⟩ := Row.slice HR7.out
  obtain ⟨b1, rfl, d1⟩ := row_int (l := [2]) P7.out.row (k := 0) (by decide)
  obtain ⟨b2, rfl, d2⟩ := row_int (l := [3, 1]) HR7.out (k := 0) (by decide)
  obtain ⟨b3, hb3, d3⟩ := row_int (l := [3, 1]) HR7.out (k := 1) (by decide)
  cases hb3
  simp only [List.getElem_cons_zero, List.getElem_cons_succ] at d1 d2 d3
  unfold maxLen at k1 k2
  go_wp2_with fail
  go_ret
  exact ⟨rfl, by rw [hgg]; exact HE.out⟩
end Go.Proofs.Ytcgihilcjijckaa.F
