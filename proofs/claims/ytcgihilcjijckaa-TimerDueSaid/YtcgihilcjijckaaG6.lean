import Derived.Test.YtcgihilcjijckaaG5
set_option linter.unusedVariables false
set_option linter.unusedSimpArgs false
set_option linter.unnecessarySimpa false
namespace Go.Proofs.Ytcgihilcjijckaa.F
open Go.RowKit Go.Proofs.Ytcgihilcjijckaa.K
variable (gq gr : Nat) (w : World)
set_option maxHeartbeats 8000000 in
set_option maxRecDepth 100000 in
theorem step14_4 (vq vr : Value) (n kd id at_ sp : Int) (l : List Tm) (R : List On) (hkd : kd = 4) (hk : Like l R) (h : TwS w w gq gr vq vr vq vr n l R) : Calls Try.prog 14 #[.pointer (some ⟨gq, 0, none⟩), .pointer (some ⟨gr, 0, none⟩), .agg #[.int .i64 kd, .int .i64 id, .int .i64 at_, .int .i64 sp]] w (StepR gq gr vq vr w) := by
  have HK := Lib.hid hk
  have T0 := Lib.hid (twB_start h kd id at_ sp)
  clear hk h
  subst hkd
  go_enter Try.func14, Try.ntmps14
  have c0 := T0.out.box.c
  have h1 := popq10 gq _ vq n at_ l R HK.out T0.out.t.q
  have h2 := Lib.hid (fun W v h => popr32 gr W v at_ R HK.out.fit h)
  have h3 := Lib.hid (popR_fit (now := at_) HK.out.fit)
  generalize popR at_ R = R2 at *
  generalize popE at_ R = P at *
  obtain ⟨pa, pe⟩ := P
  have z1 : (pa == pa) = true := beq_self_eq_true _
  have z2 : (pe == pe) = true := beq_self_eq_true _
  go_wp2_with fail
  refine h1.mono ?_
  rintro e w1 ⟨n2, l2, v2, rfl, hs, hk2⟩
  have T1 := Lib.hid (T0.out.left hs)
  have K1 := Lib.hid hk2
  have c1 := T1.out.box.c
  clear h1 hs hk2 c0
  go_wp2_with fail
  refine (h2.out _ _ T1.out.t.r).mono ?_
  rintro e w2 ⟨v3, rfl, hs⟩
  have T2 := Lib.hid (T1.out.right hs)
  clear hs h2
  go_wp2_with fail
  go_ret
  exact ⟨rfl, _, _, _, _, _, T2.out.t, K1.out⟩
set_option maxHeartbeats 8000000 in
set_option maxRecDepth 100000 in
theorem step14_5 (vq vr : Value) (n kd id at_ sp : Int) (l : List Tm) (R : List On) (hkd : kd = 5) (hk : Like l R) (h : TwS w w gq gr vq vr vq vr n l R) : Calls Try.prog 14 #[.pointer (some ⟨gq, 0, none⟩), .pointer (some ⟨gr, 0, none⟩), .agg #[.int .i64 kd, .int .i64 id, .int .i64 at_, .int .i64 sp]] w (StepR gq gr vq vr w) := by
  have HK := Lib.hid hk
  have T0 := Lib.hid (twB_start h kd id at_ sp)
  clear hk h
  subst hkd
  go_enter Try.func14, Try.ntmps14
  have c0 := T0.out.box.c
  have h1 := leftq22 gq _ vq n id at_ l R HK.out T0.out.t.q
  have h2 := Lib.hid (fun W v h => leftr33 gr W v id at_ R HK.out.fit h)
  generalize leftE id at_ R = P at *
  obtain ⟨pa, pe⟩ := P
  have z1 : (pa == pa) = true := beq_self_eq_true _
  have z2 : (pe == pe) = true := beq_self_eq_true _
  go_wp2_with fail
  refine h1.mono ?_
  rintro e w1 ⟨rfl, hb⟩
  have T1 := Lib.hid (T0.out.below hb)
  have c1 := T1.out.box.c
  clear h1 hb c0
  go_wp2_with fail
  refine (h2.out _ _ T1.out.t.r).mono ?_
  rintro e w2 ⟨rfl, hb⟩
  have T2 := Lib.hid (T1.out.below hb)
  clear hb h2
  go_wp2_with fail
  go_ret
  exact ⟨rfl, _, _, _, _, _, T2.out.t, HK.out⟩
theorem clear_r {w : World} {g : Nat} {v : Value} {R : List On} (h : RAt w g v R) : RS w (w.setCell ⟨g, 0, none⟩ (.slice none 0 0)) g v (.slice none 0 0) [] :=
  ⟨⟨heap_setCell_same _ _ _ _ _ _ h.blk, Row.nil _ _ _ _, by simp [Value.ownBlock]⟩, ⟨rfl, rfl, rfl, by simp [World.setCell], fun k hk h1 _ => heap_setCell_other _ _ _ _ h1⟩, fun k hk => by simp [Value.ownBlock] at hk⟩
set_option maxHeartbeats 8000000 in
set_option maxRecDepth 100000 in
theorem step14_6 (vq vr : Value) (n kd id at_ sp : Int) (l : List Tm) (R : List On) (hkd : kd = 6) (hk : Like l R) (h : TwS w w gq gr vq vr vq vr n l R) : Calls Try.prog 14 #[.pointer (some ⟨gq, 0, none⟩), .pointer (some ⟨gr, 0, none⟩), .agg #[.int .i64 kd, .int .i64 id, .int .i64 at_, .int .i64 sp]] w (StepR gq gr vq vr w) := by
  have HK := Lib.hid hk
  have T0 := Lib.hid (twB_start h kd id at_ sp)
  clear hk h
  subst hkd
  go_enter Try.func14, Try.ntmps14
  have c0 := T0.out.box.c
  have h1 := clear23 gq _ vq n l T0.out.t.q
  go_wp2_with fail
  refine h1.mono ?_
  rintro e w1 ⟨rfl, ⟨⟨v2, q1, q2⟩, q3⟩⟩
  have T1 := Lib.hid (T0.out.left ⟨q1, q3, q2⟩)
  clear h1 q1 q2 q3 c0
  have c1 := T1.out.t.r.c0
  have f1 := T1.out.t.r.free 0
  have T2 := Lib.hid (T1.out.right (clear_r T1.out.t.r))
  obtain ⟨A, cap, hv, -, -, -⟩ := T1.out.t.r.form
  subst hv
  go_wp2_with fail
  go_ret
  exact ⟨rfl, _, _, _, _, _, T2.out.t, Like.nil⟩
set_option maxHeartbeats 8000000 in
set_option maxRecDepth 100000 in
theorem step14_no (vq vr : Value) (n kd id at_ sp : Int) (l : List Tm) (R : List On) (hkd : ∀ j : Int, 0 ≤ j → j ≤ 6 → kd ≠ j) (hk : Like l R) (h : TwS w w gq gr vq vr vq vr n l R) : Calls Try.prog 14 #[.pointer (some ⟨gq, 0, none⟩), .pointer (some ⟨gr, 0, none⟩), .agg #[.int .i64 kd, .int .i64 id, .int .i64 at_, .int .i64 sp]] w (StepR gq gr vq vr w) := by
  have HK := Lib.hid hk
  have T0 := Lib.hid (twB_start h kd id at_ sp)
  clear hk h
  have z0 : (kd == 0) = false := by have := hkd 0 (by omega) (by omega); simpa using this
  have z1 : (kd == 1) = false := by have := hkd 1 (by omega) (by omega); simpa using this
  have z2 : (kd == 2) = false := by have := hkd 2 (by omega) (by omega); simpa using this
  have z3 : (kd == 3) = false := by have := hkd 3 (by omega) (by omega); simpa using this
  have z4 : (kd == 4) = false := by have := hkd 4 (by omega) (by omega); simpa using this
  have z5 : (kd == 5) = false := by have := hkd 5 (by omega) (by omega); simpa using this
  have z6 : (kd == 6) = false := by have := hkd 6 (by omega) (by omega); simpa using this
  go_enter Try.func14, Try.ntmps14
  have c0 := T0.out.box.c
  go_wp2_with fail
  go_ret
  exact ⟨rfl, _, _, _, _, _, T0.out.t, HK.out⟩
end Go.Proofs.Ytcgihilcjijckaa.F
