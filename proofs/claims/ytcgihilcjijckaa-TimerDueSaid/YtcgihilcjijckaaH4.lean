import Derived.Test.YtcgihilcjijckaaH3
set_option linter.unusedVariables false
set_option linter.unusedSimpArgs false
set_option linter.unnecessarySimpa false
namespace Go.Proofs.Ytcgihilcjijckaa.F
open Go.RowKit Go.Proofs.Ytcgihilcjijckaa.K
/-- one call of both, from a world behind others -/
theorem stepT {w0 wr : World} {gq gr : Nat} {v0 u0 vq vr : Value} {n : Int} {l : List Tm} {R : List On} (hk : Like l R) (h : TwS w0 wr gq gr v0 u0 vq vr n l R) (kd id at_ sp : Int) : Calls Try.prog 14 #[.pointer (some ⟨gq, 0, none⟩), .pointer (some ⟨gr, 0, none⟩), .agg #[.int .i64 kd, .int .i64 id, .int .i64 at_, .int .i64 sp]] wr fun e w' => e = .returned (.bool true) ∧ ∃ (vq' vr' : Value) (n' : Int) (l' : List Tm) (R' : List On), TwS w0 w' gq gr v0 u0 vq' vr' n' l' R' ∧ Like l' R' := by
  refine (step14 gq gr wr vq vr n kd id at_ sp l R hk h.again).mono ?_
  rintro e w' ⟨rfl, vq', vr', n', l', R', h2, hk2⟩
  exact ⟨rfl, vq', vr', n', l', R', h.trans h2, hk2⟩
theorem wholeT {w0 wr : World} {gq gr : Nat} {v0 u0 vq vr : Value} {n : Int} {l : List Tm} {R : List On} (hk : Like l R) (h : TwS w0 wr gq gr v0 u0 vq vr n l R) : Calls Try.prog 15 #[.pointer (some ⟨gq, 0, none⟩), .pointer (some ⟨gr, 0, none⟩)] wr fun e w' => e = .returned (.bool true) ∧ TwS w0 w' gq gr v0 u0 vq vr n l R := by
  refine (whole15 gq gr wr vq vr n l R hk h.q h.r).mono ?_
  rintro e w' ⟨rfl, hb⟩
  exact ⟨rfl, h.below hb⟩
set_option maxHeartbeats 8000000 in
set_option maxRecDepth 100000 in
theorem row_full (a0 a1 a2 : Int) (w : World) {p0 p1 p2 : Prop} (_ : p0) (_ : p1) (_ : p2) : Calls Try.prog 4 #[.int .i64 a0, .int .i64 a1, .int .i64 a2] w fun e w' => e = .returned (.bool true) ∧ Below w.heap.size w w' := by
  have HN := Lib.hid (new13 w)
  go_enter Try.func4, Try.ntmps4
  go_wp2_with fail
  refine HN.out.mono ?_
  rintro e w1 ⟨rfl, hq, hb⟩
  have hlt := (Array.getElem?_eq_some_iff.1 hq.blk).1
  have T0 := Lib.hid (tw_new hq hb)
  go_upto_region 4 with fail
  obtain ⟨gq, hgq⟩ : ∃ g, g = w.heap.size := ⟨_, rfl⟩
  rw [← hgq] at T0 hlt ⊢
  have HBF := Lib.hid (fun w2 vq vr n l R (h : TwS (w1.alloc (.cells #[.slice none 0 0] 41)) w2 gq w1.heap.size (.slice none 0 0) (.slice none 0 0) vq vr n l R) => tw_below (hb.alloc hb.size _) h (by omega) (by omega) (fun k hk => by simp [Value.ownBlock] at hk) (fun k hk => by simp [Value.ownBlock] at hk))
  rw [hgq]
  clear hq hb HN
  rw [← hgq]
  clear hgq
  generalize w1.heap.size = gr at *
  generalize w1.alloc (.cells #[.slice none 0 0] 41) = W0 at *
  go_cut [0] (fun v wx => W0 = wx ∧ ∃ x : Int, v = .int .i64 x)
  case first =>
    go_wp2_with fail
    go_meet
    exact ⟨rfl, _, rfl⟩
  case rest =>
  obtain ⟨rfl, x, rfl⟩ := hcut
  go_wp2_with fail
  go_loopw [9] (fun i wr => ∃ (k : Nat) (vq vr : Value) (n : Int) (l : List Tm) (R : List On), k ≤ 64 ∧ i = .int .i64 k ∧ Hid (TwS W0 wr gq gr (.slice none 0 0) (.slice none 0 0) vq vr n l R) ∧ Hid (Like l R)) (fun i _ => 64 - (intOf i).toNat)
  case atStart => exact ⟨0, _, _, 0, [], [], by omega, rfl, T0, Lib.hid Like.nil⟩
  case round =>
    clear T0
    obtain ⟨k, vq, vr, n, l, R, hk, rfl, HT, HL⟩ := hrel
    have hS := Lib.hid (fun kd id at_ sp => stepT HL.out HT.out kd id at_ sp)
    by_cases hkl : k < 64
    · have hi : (k : Int) < 64 := by omega
      go_wp2_with fail
      refine (hS.out _ _ _ _).mono ?_
      rintro e w2 ⟨rfl, vq', vr', n', l', R', h2, hk2⟩
      have T2 := Lib.hid h2
      have L2 := Lib.hid hk2
      clear h2 hk2 hS
      go_wp2_with fail
      go_roundw
      case rel => exact ⟨k + 1, _, _, _, _, _, by omega, by go_num, T2, L2⟩
      case measure => simp [intOf]; omega
    · obtain rfl : k = 64 := by omega
      go_wp2_with fail
      refine (hS.out _ _ _ _).mono ?_
      rintro e w2 ⟨rfl, vq', vr', n', l', R', h2, hk2⟩
      have T2 := Lib.hid h2
      have L2 := Lib.hid hk2
      have hl2 := Lib.hid (len11 gq w2 vq' n' l' h2.q)
      have hle := hk2.le
      have hle2 : (l'.length : Int) ≤ 64 := by omega
      clear h2 hk2 hS HT HL
      go_wp2_with fail
      refine hl2.out.mono ?_
      rintro e w3 ⟨rfl, rfl⟩
      have hS := Lib.hid (wholeT L2.out T2.out)
      go_wp2_with fail
      refine hS.out.mono ?_
      rintro e w3 ⟨rfl, h3⟩
      have T3 := Lib.hid h3
      have hS2 := Lib.hid (fun kd id at_ sp => stepT L2.out T3.out kd id at_ sp)
      clear h3 hS hl2
      go_wp2_with fail
      refine (hS2.out _ _ _ _).mono ?_
      rintro e w4 ⟨rfl, vq4, vr4, n4, l4, R4, h4, hk4⟩
      have T4 := Lib.hid h4
      have hS4 := Lib.hid (wholeT hk4 h4)
      clear h4 hk4 hS2
      go_wp2_with fail
      refine hS4.out.mono ?_
      rintro e w5 ⟨rfl, h5⟩
      have T5 := Lib.hid (HBF.out _ _ _ _ _ _ h5)
      clear h5 hS4
      go_wp2_with fail
      refine (awake12 _).mono ?_
      rintro e w6 ⟨rfl, h6⟩
      have T6 := Lib.hid (below_then T5.out h6)
      clear h6
      go_wp2_with fail
      go_ret
      exact ⟨rfl, T6.out⟩
end Go.Proofs.Ytcgihilcjijckaa.F
