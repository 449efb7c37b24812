import Derived.Test.YtcgihilcjijckaaG4
set_option linter.unusedVariables false
set_option linter.unusedSimpArgs false
set_option linter.unnecessarySimpa false
namespace Go.Proofs.Ytcgihilcjijckaa.F
open Go.RowKit Go.Proofs.Ytcgihilcjijckaa.K
def StepR (gq gr : Nat) (vq vr : Value) (w : World) (e : Ending) (w' : World) : Prop := e = .returned (.bool true) ∧ ∃ (vq' vr' : Value) (n' : Int) (l' : List Tm) (R' : List On), TwS w w' gq gr vq vr vq' vr' n' l' R' ∧ Like l' R'
theorem TwS.drew {w w1 : World} {gq gr : Nat} {vq vr vq1 vr1 : Value} {n : Int} {l : List Tm} {R : List On} (h : TwS w w1 gq gr vq vr vq1 vr1 n l R) : TwS w w1.drew gq gr vq vr vq1 vr1 n l R := h.below (Below.refl _ w1).drew
/-- the boxed call -/
structure BoxO (W : World) (b : Nat) (kd id at_ sp : Int) : Prop where
  blk : W.heap[b]? = some (.cells #[.int .i64 kd, .int .i64 id, .int .i64 at_, .int .i64 sp] 44 (0, 0))
theorem BoxO.c {W : World} {b : Nat} {kd id at_ sp : Int} (h : BoxO W b kd id at_ sp) : W.cell? ⟨b, 0, none⟩ = some (.int .i64 kd) ∧ W.cell? ⟨b, 1, none⟩ = some (.int .i64 id) ∧ W.cell? ⟨b, 2, none⟩ = some (.int .i64 at_) ∧ W.cell? ⟨b, 3, none⟩ = some (.int .i64 sp) :=
  ⟨(cell_of_row _ _ _ _ _ _ h.blk).trans rfl, (cell_of_row _ _ _ _ _ _ h.blk).trans rfl, (cell_of_row _ _ _ _ _ _ h.blk).trans rfl, (cell_of_row _ _ _ _ _ _ h.blk).trans rfl⟩
/-- the two, the box beside -/
structure TwB (w w1 : World) (gq gr : Nat) (vq vr vq1 vr1 : Value) (n : Int) (l : List Tm) (R : List On) (b : Nat) (kd id at_ sp : Int) : Prop where
  t : TwS w w1 gq gr vq vr vq1 vr1 n l R
  box : BoxO w1 b kd id at_ sp
  b1 : b ≠ gq
  b2 : b ≠ gr
  b3 : vq1.ownBlock ≠ some b
  b4 : vr1.ownBlock ≠ some b
theorem TwB.left {w w1 w2 : World} {gq gr : Nat} {vq vr vq1 vr1 vq2 : Value} {n n2 : Int} {l l2 : List Tm} {R : List On} {b : Nat} {kd id at_ sp : Int} (h : TwB w w1 gq gr vq vr vq1 vr1 n l R b kd id at_ sp) (hs : SetS w1 w2 gq vq1 vq2 n2 l2) : TwB w w2 gq gr vq vr vq2 vr1 n2 l2 R b kd id at_ sp :=
  ⟨h.t.left hs, ⟨(hs.grow.block b (Array.getElem?_eq_some_iff.1 h.box.blk).1 h.b1 (fun e => h.b3 e.symm)).trans h.box.blk⟩, h.b1, h.b2, fun e => by
    rcases hs.own b e with q | q
    · exact h.b3 q
    · have := (Array.getElem?_eq_some_iff.1 h.box.blk).1; omega, h.b4⟩
theorem TwB.right {w w1 w2 : World} {gq gr : Nat} {vq vr vq1 vr1 vr2 : Value} {n : Int} {l : List Tm} {R R2 : List On} {b : Nat} {kd id at_ sp : Int} (h : TwB w w1 gq gr vq vr vq1 vr1 n l R b kd id at_ sp) (hs : RS w1 w2 gr vr1 vr2 R2) : TwB w w2 gq gr vq vr vq1 vr2 n l R2 b kd id at_ sp :=
  ⟨h.t.right hs, ⟨(hs.grow.block b (Array.getElem?_eq_some_iff.1 h.box.blk).1 h.b2 (fun e => h.b4 e.symm)).trans h.box.blk⟩, h.b1, h.b2, h.b3, fun e => by
    rcases hs.own b e with q | q
    · exact h.b4 q
    · have := (Array.getElem?_eq_some_iff.1 h.box.blk).1; omega⟩
theorem TwB.below {w w1 w2 : World} {gq gr : Nat} {vq vr vq1 vr1 : Value} {n : Int} {l : List Tm} {R : List On} {b : Nat} {kd id at_ sp : Int} (h : TwB w w1 gq gr vq vr vq1 vr1 n l R b kd id at_ sp) (hb : Below w1.heap.size w1 w2) : TwB w w2 gq gr vq vr vq1 vr1 n l R b kd id at_ sp := h.left (SetS.below0 h.t.q hb)
theorem twB_start {w : World} {gq gr : Nat} {vq vr : Value} {n : Int} {l : List Tm} {R : List On} (h : TwS w w gq gr vq vr vq vr n l R) (kd id at_ sp : Int) : TwB w (w.alloc (.cells #[.int .i64 kd, .int .i64 id, .int .i64 at_, .int .i64 sp] 44)) gq gr vq vr vq vr n l R w.heap.size kd id at_ sp := by
  have hgq := (Array.getElem?_eq_some_iff.1 h.q.blk).1
  have hgr := (Array.getElem?_eq_some_iff.1 h.r.blk).1
  exact ⟨h.below ((Below.refl _ w).alloc (Nat.le_refl _) _), ⟨heap_alloc_new w _⟩, by omega, by omega, fun e => by have := (Row.live h.q.row e).2; omega, fun e => by have := (Row.live h.r.row e).2; omega⟩
variable (gq gr : Nat) (w : World)
set_option maxHeartbeats 8000000 in
set_option maxRecDepth 100000 in
theorem step14_0 (vq vr : Value) (n kd id at_ sp : Int) (l : List Tm) (R : List On) (hkd : kd = 0) (hk : Like l R) (h : TwS w w gq gr vq vr vq vr n l R) : Calls Try.prog 14 #[.pointer (some ⟨gq, 0, none⟩), .pointer (some ⟨gr, 0, none⟩), .agg #[.int .i64 kd, .int .i64 id, .int .i64 at_, .int .i64 sp]] w (StepR gq gr vq vr w) := by
  have HK := Lib.hid hk
  have T0 := Lib.hid (twB_start h kd id at_ sp)
  clear hk h
  subst hkd
  go_enter Try.func14, Try.ntmps14
  go_upto_region 3 with fail
  have c0 := T0.out.box.c
  have TD : Hid (TwB w (w.alloc (.cells #[.int .i64 0, .int .i64 id, .int .i64 at_, .int .i64 sp] 44)).drew gq gr vq vr vq vr n l R w.heap.size 0 id at_ sp) := Lib.hid (T0.out.below (Below.refl _ _).drew)
  have z : (setE id at_ R == setE id at_ R) = true := beq_self_eq_true _
  go_region_held3 (fun w' => w'.cell? ⟨w.heap.size, 1, none⟩ = some (.int .i64 id) ∧ w'.cell? ⟨w.heap.size, 2, none⟩ = some (.int .i64 at_)) (first | exact ⟨TD.out.box.c.2.1, TD.out.box.c.2.2.1⟩ | exact ⟨T1.out.box.c.2.1, T1.out.box.c.2.2.1⟩ | exact ⟨T2.out.box.c.2.1, T2.out.box.c.2.2.1⟩ | go_keep) ((first
    | (go_at_call 24; refine (setq24 gq _ vq n id at_ l R HK.out TD.out.t.q).mono ?_; rintro E1 w1 ⟨n2, l2, v2, rfl, hs, hk2⟩; have T1 := Lib.hid (TD.out.left hs); have K1 := Lib.hid hk2; clear hs hk2)
    | (go_at_call 27; refine (setr27 gr _ vr id at_ R HK.out.fit T1.out.t.r).mono ?_; rintro E2 w2 ⟨v3, rfl, hs⟩; have T2 := Lib.hid (T1.out.right hs); clear hs)))
  all_goals go_wp2_with fail
  all_goals go_ret
  all_goals exact ⟨rfl, _, _, _, _, _, T2.out.t, K1.out⟩
set_option maxHeartbeats 8000000 in
set_option maxRecDepth 100000 in
theorem step14_1 (vq vr : Value) (n kd id at_ sp : Int) (l : List Tm) (R : List On) (hkd : kd = 1) (hk : Like l R) (h : TwS w w gq gr vq vr vq vr n l R) : Calls Try.prog 14 #[.pointer (some ⟨gq, 0, none⟩), .pointer (some ⟨gr, 0, none⟩), .agg #[.int .i64 kd, .int .i64 id, .int .i64 at_, .int .i64 sp]] w (StepR gq gr vq vr w) := by
  have HK := Lib.hid hk
  have T0 := Lib.hid (twB_start h kd id at_ sp)
  clear hk h
  subst hkd
  go_enter Try.func14, Try.ntmps14
  go_upto_region 5 with fail
  have c0 := T0.out.box.c
  have TD : Hid (TwB w (w.alloc (.cells #[.int .i64 1, .int .i64 id, .int .i64 at_, .int .i64 sp] 44)).drew gq gr vq vr vq vr n l R w.heap.size 1 id at_ sp) := Lib.hid (T0.out.below (Below.refl _ _).drew)
  have z : (aftE id at_ sp R == aftE id at_ sp R) = true := beq_self_eq_true _
  go_region_held3 (fun w' => w'.cell? ⟨w.heap.size, 1, none⟩ = some (.int .i64 id) ∧ w'.cell? ⟨w.heap.size, 2, none⟩ = some (.int .i64 at_) ∧ w'.cell? ⟨w.heap.size, 3, none⟩ = some (.int .i64 sp)) (first | exact ⟨TD.out.box.c.2.1, TD.out.box.c.2.2.1, TD.out.box.c.2.2.2⟩ | exact ⟨T1.out.box.c.2.1, T1.out.box.c.2.2.1, T1.out.box.c.2.2.2⟩ | exact ⟨T2.out.box.c.2.1, T2.out.box.c.2.2.1, T2.out.box.c.2.2.2⟩ | go_keep) ((first
    | (go_at_call 25; refine (afterq25 gq _ vq n id at_ sp l R HK.out TD.out.t.q).mono ?_; rintro E1 w1 ⟨n2, l2, v2, rfl, hs, hk2⟩; have T1 := Lib.hid (TD.out.left hs); have K1 := Lib.hid hk2; clear hs hk2)
    | (go_at_call 29; refine (afterr29 gr _ vr id at_ sp R HK.out.fit T1.out.t.r).mono ?_; rintro E2 w2 ⟨v3, rfl, hs⟩; have T2 := Lib.hid (T1.out.right hs); clear hs)))
  all_goals go_wp2_with fail
  all_goals go_ret
  all_goals exact ⟨rfl, _, _, _, _, _, T2.out.t, K1.out⟩
set_option maxHeartbeats 8000000 in
set_option maxRecDepth 100000 in
theorem step14_2 (vq vr : Value) (n kd id at_ sp : Int) (l : List Tm) (R : List On) (hkd : kd = 2) (hk : Like l R) (h : TwS w w gq gr vq vr vq vr n l R) : Calls Try.prog 14 #[.pointer (some ⟨gq, 0, none⟩), .pointer (some ⟨gr, 0, none⟩), .agg #[.int .i64 kd, .int .i64 id, .int .i64 at_, .int .i64 sp]] w (StepR gq gr vq vr w) := by
  have HK := Lib.hid hk
  have T0 := Lib.hid (twB_start h kd id at_ sp)
  clear hk h
  subst hkd
  go_enter Try.func14, Try.ntmps14
  go_upto_region 7 with fail
  have c0 := T0.out.box.c
  have TD : Hid (TwB w (w.alloc (.cells #[.int .i64 2, .int .i64 id, .int .i64 at_, .int .i64 sp] 44)).drew gq gr vq vr vq vr n l R w.heap.size 2 id at_ sp) := Lib.hid (T0.out.below (Below.refl _ _).drew)
  have z : (canE id R == canE id R) = true := beq_self_eq_true _
  go_region_held3 (fun w' => w'.cell? ⟨w.heap.size, 1, none⟩ = some (.int .i64 id)) (first | exact TD.out.box.c.2.1 | exact T1.out.box.c.2.1 | exact T2.out.box.c.2.1 | go_keep) ((first
    | (go_at_call 26; refine (cancelq26 gq _ vq n id l R HK.out TD.out.t.q).mono ?_; rintro E1 w1 ⟨n2, l2, v2, rfl, hs, hk2⟩; have T1 := Lib.hid (TD.out.left hs); have K1 := Lib.hid hk2; clear hs hk2)
    | (go_at_call 30; refine (cancelr30 gr _ vr id R HK.out.fit T1.out.t.r).mono ?_; rintro E2 w2 ⟨v3, rfl, hs⟩; have T2 := Lib.hid (T1.out.right hs); clear hs)))
  all_goals go_wp2_with fail
  all_goals go_ret
  all_goals exact ⟨rfl, _, _, _, _, _, T2.out.t, K1.out⟩
end Go.Proofs.Ytcgihilcjijckaa.F
