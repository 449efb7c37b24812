import Derived.Test.YtcgihilcjijckaaG1
import Derived.Deep.RegionHeld3
set_option linter.unusedVariables false
set_option linter.unusedSimpArgs false
set_option linter.unnecessarySimpa false
namespace Go.Proofs.Ytcgihilcjijckaa.F
open Go.RowKit Go.Proofs.Ytcgihilcjijckaa.K
theorem QAt.drew {w : World} {g : Nat} {v : Value} {n : Int} {l : List Tm} (h : QAt w g v n l) : QAt w.drew g v n l := ⟨h.blk, row_drew h.row, h.ne⟩
theorem RAt.drew {w : World} {g : Nat} {v : Value} {l : List On} (h : RAt w g v l) : RAt w.drew g v l := ⟨h.blk, row_drew h.row, h.ne⟩
/-- the first deadline, or that there is none -/
def nextP : List On → Int × Int
  | [] => (0, 5)
  | m :: _ => (m.at_, 0)
theorem nextq21 (g : Nat) (w : World) (v : Value) (n : Int) (l : List Tm) (h : QAt w g v n l) : Calls Try.prog 21 #[.pointer (some ⟨g, 0, none⟩)] w fun e w' => e = .returned (.tuple #[.int .i64 (nextP (l.map Tm.on)).1, .int .i64 (nextP (l.map Tm.on)).2]) ∧ w = w' := by
  cases l with
  | nil => exact next_none g w v n h
  | cons t l => exact next_some g w v n t l h
theorem nextr34 (g : Nat) (w : World) (v : Value) (l : List On) (h : RAt w g v l) : Calls Try.prog 34 #[.pointer (some ⟨g, 0, none⟩)] w fun e w' => e = .returned (.tuple #[.int .i64 (nextP (srt l)).1, .int .i64 (nextP (srt l)).2]) ∧ Below w.heap.size w w' := by
  refine (rnext34 g w v l h).mono ?_
  rintro e w' ⟨x, er, rfl, hb, ⟨hs, rfl, rfl⟩ | ⟨m, t, hs, rfl, rfl⟩⟩
  · rw [hs]; exact ⟨rfl, hb⟩
  · rw [hs]; exact ⟨rfl, hb⟩
theorem alike_same (w : World) (B1 B2 : Nat) (u1 u2 : Value) (a : List On) (h1 : Row w B1 29 2 u1 a.length (ons a)) (h2 : Row w B2 29 2 u2 a.length (ons a)) : Calls Try.prog 19 #[u1, u2] w fun e w' => e = .returned (.bool true) ∧ Below w.heap.size w w' := by
  refine (alike19 w B1 B2 u1 u2 a a h1 h2).mono ?_
  rintro e w' ⟨t, rfl, ht, hb⟩
  rw [ht.2 rfl]
  exact ⟨rfl, hb⟩
theorem everyq (g : Nat) (w : World) (v : Value) (m : Int) (l : List Tm) (R : List On) (hk : Like l R) (hQ : QAt w g v m l) : Calls Try.prog 20 #[.pointer (some ⟨g, 0, none⟩), .int .i64 1000] w fun e w' => ∃ u, e = .returned u ∧ Row w' w.heap.size 29 2 u (srt R).length (ons (srt R)) ∧ Below w.heap.size w w' := by
  refine (every20 g w v m 1000 l hk.le (by omega) hQ).mono ?_
  rintro e w' ⟨u, rfl, hr, hb⟩
  rw [hk.eq, List.take_of_length_le (by rw [len_srt]; have := hk.fit.len; simp; omega)] at hr
  exact ⟨u, rfl, hr, hb⟩
set_option maxHeartbeats 8000000 in
theorem whole15 (gq gr : Nat) (w : World) (vq vr : Value) (n : Int) (l : List Tm) (R : List On) (hk : Like l R) (hq : QAt w gq vq n l) (hr : RAt w gr vr R) : Calls Try.prog 15 #[.pointer (some ⟨gq, 0, none⟩), .pointer (some ⟨gr, 0, none⟩)] w fun e w' => e = .returned (.bool true) ∧ Below w.heap.size w w' := by
  have HK := Lib.hid hk
  have HQ := Lib.hid hq
  have HR := Lib.hid hr
  clear hk hq hr
  have h1 := nextq21 gq w vq n l HQ.out
  rw [HK.out.eq] at h1
  have h2 := nextr34 gr w vr R HR.out
  generalize nextP (srt R) = P at h1 h2
  obtain ⟨x, er⟩ := P
  go_enter Try.func15, Try.ntmps15
  go_wp2_with fail
  refine h1.mono ?_
  rintro e w1 ⟨rfl, rfl⟩
  go_wp2_with fail
  refine h2.mono ?_
  rintro e w2 ⟨rfl, hb2⟩
  have HB2 := Lib.hid hb2
  have Q2 := Lib.hid ((HQ.out.below hb2).drew)
  have R2 := Lib.hid ((HR.out.below hb2).drew)
  clear h1 h2 hb2
  go_upto_region 3 with fail
  have c0 := R2.out.c0
  obtain ⟨A, cap, hv, k1, k2, k3⟩ := R2.out.form
  subst hv
  clear k3
  unfold maxLen at k2
  have zx : (x == x) = true := beq_self_eq_true _
  have ze : (er == er) = true := beq_self_eq_true _
  have zl : ((l.length : Int) == (R.length : Int)) = true := by rw [HK.out.len]; exact beq_self_eq_true _
  go_region_held3 (fun w' => w'.cell? ⟨gr, 0, none⟩ = some (.slice A R.length cap)) (first | exact c0 | exact c3 | exact c4 | exact c5 | go_keep) ((first
    | (go_at_call 11; refine (len11 gq _ _ n l Q2.out).mono ?_; rintro E1 W1 ⟨rfl, rfl⟩)
    | (go_at_call 20; refine (everyq gq _ _ n l R HK.out Q2.out).mono ?_; rintro E3 w3 ⟨u3, rfl, r3, b3⟩; have H3 := Lib.hid r3; have B3 := Lib.hid b3; have R3 := Lib.hid (R2.out.below b3); have c3 := R3.out.c0; clear r3 b3)
    | (go_at_call 18; refine (rall18 gr _ _ R HK.out.fit.len HK.out.fit.uniq R3.out).mono ?_; rintro E4 w4 ⟨⟨u4, rfl, r4⟩, b4⟩; have H4 := Lib.hid r4; have B4 := Lib.hid b4; have R4 := Lib.hid (R3.out.below b4); have c4 := R4.out.c0; have H34 := Lib.hid (H3.out.below b4); clear r4 b4)
    | (go_at_call 19; refine (alike_same _ _ _ _ _ _ H34.out H4.out).mono ?_; rintro E5 w5 ⟨rfl, b5⟩; have B5 := Lib.hid b5; have c5 := (R4.out.below b5).c0; clear b5)))
  all_goals go_wp2_with fail
  all_goals go_ret
  all_goals exact ⟨rfl, HB2.out.drew.trans ((B3.out.mono HB2.out.size).trans ((B4.out.mono (Nat.le_trans HB2.out.size B3.out.size)).trans (B5.out.mono (Nat.le_trans HB2.out.size (Nat.le_trans B3.out.size B4.out.size)))))⟩
end Go.Proofs.Ytcgihilcjijckaa.F
