import Derived.Test.YtibdaonhldlmbaaF0
import Derived.Test.YtibdaonhldlmbaaC2
import Derived.StillTailTactics
import Derived.Deep.CutRange
set_option linter.unusedVariables false
set_option linter.unusedSimpArgs false
namespace Go.Proofs.Ytibdaonhldlmbaa.F
open Go.RowKit Go.Proofs.Ytibdaonhldlmbaa.K
def nx (p : Pol) : Int × Int :=
  if p.st = 1 then (min 1099511627776 (wrap64 (p.en + p.ho)), 0)
  else if p.st = 3 then (if 0 < p.se then (if 0 < p.id then (min 1099511627776 (min (wrap64 (p.up + p.se)) (wrap64 (p.la + p.id))), 0) else (min 1099511627776 (wrap64 (p.up + p.se)), 0))
    else if 0 < p.id then (min 1099511627776 (wrap64 (p.la + p.id)), 0) else (0, 5))
  else (0, 5)
variable (g : Nat) (p : Pol) (w : World)
def NxR (p : Pol) (w : World) (e : Ending) (w' : World) : Prop := e = .returned (.tuple #[.int .i64 (nx p).1, .int .i64 (nx p).2]) ∧ Below w.heap.size w w'
/-- the two cells that the closure writes -/
structure Two (w : World) (x : Nat) (n : Int) (b : Bool) : Prop where
  c : w.heap[x]? = some (.cells #[.int .i64 n] 2 (0, 0))
  d : w.heap[x + 1]? = some (.cells #[.bool b] 4 (0, 0))
theorem sooner38 (n at_ : Int) (x : Nat) (b : Bool) (h : Two w x n b) :
    Calls Try.prog 38 #[.int .i64 at_, .pointer (some ⟨x, 0, none⟩), .pointer (some ⟨x + 1, 0, none⟩)] w fun e w' => e = .returned (.tuple #[]) ∧ w' = (w.setCell ⟨x, 0, none⟩ (.int .i64 (min n at_))).setCell ⟨x + 1, 0, none⟩ (.bool true) := by
  have c0 := cell_of_one h.c
  have c1 := cell_of_one h.d
  have f0 := free_of_one h.c
  have f1 := free_of_one h.d
  clear h
  by_cases hm : n ≤ at_
  · have hD : Hid (min n at_ = n) := Lib.hid (by omega)
    go_enter Try.func38, Try.ntmps38
    go_wp2
    go_end0
    exact ⟨rfl, by rw [hD.out]⟩
  · have hD : Hid (min n at_ = at_) := Lib.hid (by omega)
    go_enter Try.func38, Try.ntmps38
    go_wp2
    go_end0
    exact ⟨rfl, by rw [hD.out]⟩
theorem Two.set {w : World} {x : Nat} {n : Int} {b : Bool} (h : Two w x n b) (n' : Int) : Two ((w.setCell ⟨x, 0, none⟩ (.int .i64 n')).setCell ⟨x + 1, 0, none⟩ (.bool true)) x n' true :=
  ⟨(heap_setCell_other _ _ _ _ (show x ≠ x + 1 by omega)).trans (one_setCell h.c), one_setCell ((heap_setCell_other _ _ _ _ (show x + 1 ≠ x by omega)).trans h.d)⟩
theorem PolAt.two {w : World} {g : Nat} {p : Pol} {x : Nat} (h : PolAt w g p) (hg : g < x) (v u : Value) : PolAt ((w.setCell ⟨x, 0, none⟩ v).setCell ⟨x + 1, 0, none⟩ u) g p :=
  ⟨(heap_setCell_other _ _ _ _ (show g ≠ x + 1 by omega)).trans ((heap_setCell_other _ _ _ _ (show g ≠ x by omega)).trans h.blk)⟩
set_option maxHeartbeats 4000000 in
theorem next18 (h : PolAt w g p) : Calls Try.prog 18 #[.pointer (some ⟨g, 0, none⟩)] w (NxR p w) := by
  have hlt := h.lt
  have HP := Lib.hid (h.below (((Below.refl w.heap.size w).alloc (Nat.le_refl _) (.cells #[.int .i64 1099511627776] 2)).alloc (by simp) (.cells #[.bool false] 4)))
  have HB := Lib.hid (((Below.refl w.heap.size w).alloc (Nat.le_refl _) (.cells #[.int .i64 1099511627776] 2)).alloc (by simp) (.cells #[.bool false] 4))
  have HT : Hid (Two ((w.alloc (.cells #[.int .i64 1099511627776] 2)).alloc (.cells #[.bool false] 4)) w.heap.size 1099511627776 false) := Lib.hid ⟨(heap_alloc_old _ _ (show w.heap.size < _ by simp)).trans (heap_alloc_new _ _), by have := heap_alloc_new (w.alloc (.cells #[.int .i64 1099511627776] 2)) (.cells #[.bool false] 4); simpa using this⟩
  have d0 := h.cst
  clear h

  by_cases s1 : p.st = 1
  · have HN : Hid (nx p = (min 1099511627776 (wrap64 (p.en + p.ho)), 0)) := Lib.hid (by unfold nx; rw [if_pos s1])
    have x1 : (p.st == 1) = true := beq_iff_eq.2 s1
    clear s1
    go_enter Try.func18, Try.ntmps18
    go_upto_region 7 with fail
    generalize (w.alloc (.cells #[.int .i64 1099511627776] 2)).alloc (.cells #[.bool false] 4) = w1 at *
    generalize hz : w.heap.size = z at *
    clear d0
    have cen := HP.out.cen
    have cho := HP.out.cho
    have cse := HP.out.cse
    have cid := HP.out.cid
    have cup := HP.out.cup
    have cla := HP.out.cla
    have T1 := HT
    have P1 := HP
    have B1 := HB
    clear HT HP HB
    go_wp2_with fail
    go_still_tail 12, (by kernel_rfl)
    go_wp2_with fail
    have q1 : Two w1.drew z 1099511627776 false := ⟨T1.out.c, T1.out.d⟩
    have p1 : PolAt w1.drew g p := P1.out.drewN 1
    have b1 : Below z w w1.drew := below_drewN B1.out 1
    refine (sooner38 _ 1099511627776 (wrap64 (p.en + p.ho)) z false q1).mono ?_
    rintro e v1 ⟨rfl, hv⟩
    have T2 : Hid (Two v1 z (min 1099511627776 (wrap64 (p.en + p.ho))) true) := Lib.hid (by rw [hv]; exact q1.set _)
    have P2 : Hid (PolAt v1 g p) := Lib.hid (by rw [hv]; exact p1.two hlt _ _)
    have B2 : Hid (Below z w v1) := Lib.hid (by rw [hv]; exact (b1.setCell (Nat.le_refl _) _).setCell (by simp) _)
    clear q1 p1 b1 hv cen cho cse cid cup cla
    have cen := P2.out.cen
    have cho := P2.out.cho
    have cse := P2.out.cse
    have cid := P2.out.cid
    have cup := P2.out.cup
    have cla := P2.out.cla
    obtain ⟨w2, rfl⟩ : ∃ x : World, x = v1 := ⟨_, rfl⟩
    have t0 := cell_of_one T2.out.c
    have t1 := cell_of_one T2.out.d
    go_wp2
    go_ret2
    subst hz
    exact ⟨by simp only [HN.out]; rfl, B2.out⟩
  have x1 : (p.st == 1) = false := beq_eq_false_iff_ne.2 s1
  by_cases s3 : p.st = 3
  · have x3 : (p.st == 3) = true := beq_iff_eq.2 s3
    by_cases a1 : 0 < p.se
    · by_cases a2 : 0 < p.id
      · have HN : Hid (nx p = (min 1099511627776 (min (wrap64 (p.up + p.se)) (wrap64 (p.la + p.id))), 0)) := Lib.hid (by unfold nx; rw [if_neg s1, if_pos s3, if_pos a1, if_pos a2])
        clear s1 s3
        go_enter Try.func18, Try.ntmps18
        go_upto_region 7 with fail
        generalize (w.alloc (.cells #[.int .i64 1099511627776] 2)).alloc (.cells #[.bool false] 4) = w1 at *
        generalize hz : w.heap.size = z at *
        clear d0
        have cen := HP.out.cen
        have cho := HP.out.cho
        have cse := HP.out.cse
        have cid := HP.out.cid
        have cup := HP.out.cup
        have cla := HP.out.cla
        have T1 := HT
        have P1 := HP
        have B1 := HB
        clear HT HP HB
        go_wp2_with fail
        go_still_tail 12, (by kernel_rfl)
        go_wp2_with fail
        have q1 : Two w1.drew z 1099511627776 false := ⟨T1.out.c, T1.out.d⟩
        have p1 : PolAt w1.drew g p := P1.out.drewN 1
        have b1 : Below z w w1.drew := below_drewN B1.out 1
        refine (sooner38 _ 1099511627776 (wrap64 (p.up + p.se)) z false q1).mono ?_
        rintro e v1 ⟨rfl, hv⟩
        have T2 : Hid (Two v1 z (min 1099511627776 (wrap64 (p.up + p.se))) true) := Lib.hid (by rw [hv]; exact q1.set _)
        have P2 : Hid (PolAt v1 g p) := Lib.hid (by rw [hv]; exact p1.two hlt _ _)
        have B2 : Hid (Below z w v1) := Lib.hid (by rw [hv]; exact (b1.setCell (Nat.le_refl _) _).setCell (by simp) _)
        clear q1 p1 b1 hv cen cho cse cid cup cla
        have cen := P2.out.cen
        have cho := P2.out.cho
        have cse := P2.out.cse
        have cid := P2.out.cid
        have cup := P2.out.cup
        have cla := P2.out.cla
        obtain ⟨w2, rfl⟩ : ∃ x : World, x = v1 := ⟨_, rfl⟩
        go_wp2_with fail
        go_still_tail 12, (by kernel_rfl)
        go_wp2_with fail
        have q2 : Two w2.drew z (min 1099511627776 (wrap64 (p.up + p.se))) true := ⟨T2.out.c, T2.out.d⟩
        have p2 : PolAt w2.drew g p := P2.out.drewN 1
        have b2 : Below z w w2.drew := below_drewN B2.out 1
        refine (sooner38 _ (min 1099511627776 (wrap64 (p.up + p.se))) (wrap64 (p.la + p.id)) z true q2).mono ?_
        rintro e v2 ⟨rfl, hv⟩
        have T3 : Hid (Two v2 z (min (min 1099511627776 (wrap64 (p.up + p.se))) (wrap64 (p.la + p.id))) true) := Lib.hid (by rw [hv]; exact q2.set _)
        have P3 : Hid (PolAt v2 g p) := Lib.hid (by rw [hv]; exact p2.two hlt _ _)
        have B3 : Hid (Below z w v2) := Lib.hid (by rw [hv]; exact (b2.setCell (Nat.le_refl _) _).setCell (by simp) _)
        clear q2 p2 b2 hv cen cho cse cid cup cla
        have cen := P3.out.cen
        have cho := P3.out.cho
        have cse := P3.out.cse
        have cid := P3.out.cid
        have cup := P3.out.cup
        have cla := P3.out.cla
        obtain ⟨w3, rfl⟩ : ∃ x : World, x = v2 := ⟨_, rfl⟩
        have t0 := cell_of_one T3.out.c
        have t1 := cell_of_one T3.out.d
        go_wp2
        go_ret2
        subst hz
        exact ⟨by simp only [HN.out]; rfl, B3.out⟩
      · have HN : Hid (nx p = (min 1099511627776 (wrap64 (p.up + p.se)), 0)) := Lib.hid (by unfold nx; rw [if_neg s1, if_pos s3, if_pos a1, if_neg a2])
        clear s1 s3
        go_enter Try.func18, Try.ntmps18
        go_upto_region 7 with fail
        generalize (w.alloc (.cells #[.int .i64 1099511627776] 2)).alloc (.cells #[.bool false] 4) = w1 at *
        generalize hz : w.heap.size = z at *
        clear d0
        have cen := HP.out.cen
        have cho := HP.out.cho
        have cse := HP.out.cse
        have cid := HP.out.cid
        have cup := HP.out.cup
        have cla := HP.out.cla
        have T1 := HT
        have P1 := HP
        have B1 := HB
        clear HT HP HB
        go_wp2_with fail
        go_still_tail 12, (by kernel_rfl)
        go_wp2_with fail
        have q1 : Two w1.drew z 1099511627776 false := ⟨T1.out.c, T1.out.d⟩
        have p1 : PolAt w1.drew g p := P1.out.drewN 1
        have b1 : Below z w w1.drew := below_drewN B1.out 1
        refine (sooner38 _ 1099511627776 (wrap64 (p.up + p.se)) z false q1).mono ?_
        rintro e v1 ⟨rfl, hv⟩
        have T2 : Hid (Two v1 z (min 1099511627776 (wrap64 (p.up + p.se))) true) := Lib.hid (by rw [hv]; exact q1.set _)
        have P2 : Hid (PolAt v1 g p) := Lib.hid (by rw [hv]; exact p1.two hlt _ _)
        have B2 : Hid (Below z w v1) := Lib.hid (by rw [hv]; exact (b1.setCell (Nat.le_refl _) _).setCell (by simp) _)
        clear q1 p1 b1 hv cen cho cse cid cup cla
        have cen := P2.out.cen
        have cho := P2.out.cho
        have cse := P2.out.cse
        have cid := P2.out.cid
        have cup := P2.out.cup
        have cla := P2.out.cla
        obtain ⟨w2, rfl⟩ : ∃ x : World, x = v1 := ⟨_, rfl⟩
        have t0 := cell_of_one T2.out.c
        have t1 := cell_of_one T2.out.d
        go_wp2
        go_ret2
        subst hz
        exact ⟨by simp only [HN.out]; rfl, B2.out⟩
    · by_cases a2 : 0 < p.id
      · have HN : Hid (nx p = (min 1099511627776 (wrap64 (p.la + p.id)), 0)) := Lib.hid (by unfold nx; rw [if_neg s1, if_pos s3, if_neg a1, if_pos a2])
        clear s1 s3
        go_enter Try.func18, Try.ntmps18
        go_upto_region 7 with fail
        generalize (w.alloc (.cells #[.int .i64 1099511627776] 2)).alloc (.cells #[.bool false] 4) = w1 at *
        generalize hz : w.heap.size = z at *
        clear d0
        have cen := HP.out.cen
        have cho := HP.out.cho
        have cse := HP.out.cse
        have cid := HP.out.cid
        have cup := HP.out.cup
        have cla := HP.out.cla
        have T1 := HT
        have P1 := HP
        have B1 := HB
        clear HT HP HB
        go_wp2_with fail
        go_still_tail 12, (by kernel_rfl)
        go_wp2_with fail
        have q1 : Two w1.drew z 1099511627776 false := ⟨T1.out.c, T1.out.d⟩
        have p1 : PolAt w1.drew g p := P1.out.drewN 1
        have b1 : Below z w w1.drew := below_drewN B1.out 1
        refine (sooner38 _ 1099511627776 (wrap64 (p.la + p.id)) z false q1).mono ?_
        rintro e v1 ⟨rfl, hv⟩
        have T2 : Hid (Two v1 z (min 1099511627776 (wrap64 (p.la + p.id))) true) := Lib.hid (by rw [hv]; exact q1.set _)
        have P2 : Hid (PolAt v1 g p) := Lib.hid (by rw [hv]; exact p1.two hlt _ _)
        have B2 : Hid (Below z w v1) := Lib.hid (by rw [hv]; exact (b1.setCell (Nat.le_refl _) _).setCell (by simp) _)
        clear q1 p1 b1 hv cen cho cse cid cup cla
        have cen := P2.out.cen
        have cho := P2.out.cho
        have cse := P2.out.cse
        have cid := P2.out.cid
        have cup := P2.out.cup
        have cla := P2.out.cla
        obtain ⟨w2, rfl⟩ : ∃ x : World, x = v1 := ⟨_, rfl⟩
        have t0 := cell_of_one T2.out.c
        have t1 := cell_of_one T2.out.d
        go_wp2
        go_ret2
        subst hz
        exact ⟨by simp only [HN.out]; rfl, B2.out⟩
      · have HN : Hid (nx p = (0, 5)) := Lib.hid (by unfold nx; rw [if_neg s1, if_pos s3, if_neg a1, if_neg a2])
        clear s1 s3
        go_enter Try.func18, Try.ntmps18
        go_upto_region 7 with fail
        generalize (w.alloc (.cells #[.int .i64 1099511627776] 2)).alloc (.cells #[.bool false] 4) = w1 at *
        generalize hz : w.heap.size = z at *
        clear d0
        have cen := HP.out.cen
        have cho := HP.out.cho
        have cse := HP.out.cse
        have cid := HP.out.cid
        have cup := HP.out.cup
        have cla := HP.out.cla
        have T1 := HT
        have P1 := HP
        have B1 := HB
        clear HT HP HB
        have t0 := cell_of_one T1.out.c
        have t1 := cell_of_one T1.out.d
        go_wp2
        go_ret2
        subst hz
        exact ⟨by simp only [HN.out]; rfl, B1.out⟩
  · have x3 : (p.st == 3) = false := beq_eq_false_iff_ne.2 s3
    have HN : Hid (nx p = (0, 5)) := Lib.hid (by unfold nx; rw [if_neg s1, if_neg s3])
    clear s1 s3
    go_enter Try.func18, Try.ntmps18
    go_upto_region 7 with fail
    generalize (w.alloc (.cells #[.int .i64 1099511627776] 2)).alloc (.cells #[.bool false] 4) = w1 at *
    generalize hz : w.heap.size = z at *
    clear d0
    have cen := HP.out.cen
    have cho := HP.out.cho
    have cse := HP.out.cse
    have cid := HP.out.cid
    have cup := HP.out.cup
    have cla := HP.out.cla
    have T1 := HT
    have P1 := HP
    have B1 := HB
    clear HT HP HB
    have t0 := cell_of_one T1.out.c
    have t1 := cell_of_one T1.out.d
    go_wp2
    go_ret2
    subst hz
    exact ⟨by simp only [HN.out]; rfl, B1.out⟩
theorem next18_nil : Calls Try.prog 18 #[.pointer none] w fun e w' => e = .returned (.tuple #[.int .i64 0, .int .i64 2]) ∧ w = w' := by
  go_enter Try.func18, Try.ntmps18
  go_wp2
  go_ret2
  exact ⟨rfl, rfl⟩
end Go.Proofs.Ytibdaonhldlmbaa.F
