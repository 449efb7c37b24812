import Derived.Test.YtcgihilcjijckaaH1
import Derived.Test.YtcgihilcjijckaaS
import Derived.Lib.SmallJoins
set_option linter.unusedVariables false
set_option linter.unusedSimpArgs false
set_option linter.unnecessarySimpa false
namespace Go.Proofs.Ytcgihilcjijckaa.F
open Go.RowKit Go.Proofs.Ytcgihilcjijckaa.K
open Go.ChangeShapes Go.WideShapes
/-- a call -/
structure O where
  k : Int
  id : Int
  at_ : Int
  sp : Int
def O.cells (o : O) : List Value := [.int .i64 o.k, .int .i64 o.id, .int .i64 o.at_, .int .i64 o.sp]
theorem read_op {H : Type} {enc : TypeId × Value → H} {W : World} {base : Nat} {spare : Nat → Bool} {held : Bool} (fuel : Nat) (cs : List Value) (x : DataW H × List MemPlace) (h : DataW.trod enc Try.prog W base spare held fuel 44 cs = some x) : ∃ o : O, cs = o.cells ∧ True := by
  have c44 : Try.prog.cellsOf 44 = 4 := by kernel_rfl
  have c3 : Try.prog.cellsOf 3 = 1 := by kernel_rfl
  have c2 : Try.prog.cellsOf 2 = 1 := by kernel_rfl
  obtain ⟨y0, y1, y2, y3, n, _, hl, h0, h1, h2, h3⟩ := Joins.trod_struct4 Try.underlying44 h
  rw [c44] at hl
  match cs, hl with
  | [v0, v1, v2, v3], _ =>
    simp [c3, c2] at h0 h1 h2 h3
    obtain ⟨z0, e0, _⟩ := DataW.trod_int Try.underlying3 h0
    obtain ⟨z1, e1, _⟩ := DataW.trod_int Try.underlying3 h1
    obtain ⟨z2, e2, _⟩ := DataW.trod_int Try.underlying2 h2
    obtain ⟨z3, e3, _⟩ := DataW.trod_int Try.underlying2 h3
    simp at e0 e1 e2 e3
    subst e0 e1 e2 e3
    exact ⟨⟨z0, z1, z2, z3⟩, rfl, trivial⟩
theorem open_ops {H : Type} {enc : TypeId × Value → H} {W : World} {base : Nat} {spare : Nat → Bool} {held : Bool} {v : Value} {d : DataW H} {ps : List MemPlace} (hv : ∃ a len cap, v = .slice a len cap) (h : DataW.Trod enc Try.prog W base spare held 22 v d ps) : ∃ l : List O, RecsAt W v 4 O.cells l := by
  obtain ⟨l, hl, _⟩ := open_recs (n := 4) O.cells (fun _ => True) Try.underlying22 (by kernel_rfl) (by decide) (fun fuel cs y hy => read_op fuel cs y hy) hv h
  exact ⟨l, hl⟩
/-- one of them, in a world -/
theorem ops_at {w : World} {A : Option Addr} {cap : Nat} {l : List O} (h : RecsAt w (.slice A l.length cap) 4 O.cells l) {k : Nat} (hk : k < l.length) : ∃ b o, A = some ⟨b, o, none⟩ ∧ w.cell? ⟨b, o + k * 4, none⟩ = some (.int .i64 l[k].k) ∧ w.cell? ⟨b, o + k * 4 + 1, none⟩ = some (.int .i64 l[k].id) ∧ w.cell? ⟨b, o + k * 4 + 2, none⟩ = some (.int .i64 l[k].at_) ∧ w.cell? ⟨b, o + k * 4 + 3, none⟩ = some (.int .i64 l[k].sp) := by
  obtain ⟨A', cap', e, h1, h2, h3, h4⟩ := h.at_
  cases e
  cases A with
  | none => rw [h3 rfl] at hk; simp at hk
  | some ad =>
    obtain ⟨b, o, rfl, hlt, hc⟩ := h4 ad rfl k hk
    exact ⟨b, o, rfl, hc 0 _ rfl, hc 1 _ rfl, hc 2 _ rfl, hc 3 _ rfl⟩
/-- the document's list, behind k of them -/
def fillR (l : List O) (k : Nat) : List On := (l.take k).foldl (fun R o => setR o.id o.at_ R) []
theorem fillR_succ {l : List O} {k : Nat} (hk : k < l.length) : fillR l (k + 1) = setR l[k].id l[k].at_ (fillR l k) := by
  unfold fillR
  rw [List.take_succ_eq_append_getElem hk, List.foldl_append]
  rfl
theorem setR_bad {id at_ : Int} {R : List On} (h : setE id at_ R ≠ 0) : setR id at_ R = R := by
  unfold setE at h
  unfold setR
  split
  · split
    · rfl
    · rename_i h1 h2
      rw [if_pos h1, if_neg h2] at h
      exact absurd rfl h
  · rfl
theorem tw_below {w w1 w2 : World} {gq gr : Nat} {vq vr vq1 vr1 : Value} {n : Int} {l : List Tm} {R : List On} (hb : Below w.heap.size w w1) (h : TwS w1 w2 gq gr vq vr vq1 vr1 n l R) (h1 : w.heap.size ≤ gq) (h2 : w.heap.size ≤ gr) (h3 : ∀ k, vq.ownBlock = some k → w.heap.size ≤ k) (h4 : ∀ k, vr.ownBlock = some k → w.heap.size ≤ k) : Below w.heap.size w w2 :=
  ⟨h.grow.os.trans hb.os, h.grow.tape.trans hb.tape, h.grow.output.trans hb.output, Nat.le_trans hb.size h.grow.size, fun k hk => (h.grow.block k (Nat.lt_of_lt_of_le hk hb.size) (by omega) (fun e => by have := h3 k e.symm; omega) (by omega) (fun e => by have := h4 k e.symm; omega)).trans (hb.block k hk)⟩
/-- two new ones -/
theorem tw_new {w w1 : World} (hq : QAt w1 w.heap.size (.slice none 0 0) 0 []) (hb : Below w.heap.size w w1) : TwS (w1.alloc (.cells #[.slice none 0 0] 41)) (w1.alloc (.cells #[.slice none 0 0] 41)) w.heap.size w1.heap.size (.slice none 0 0) (.slice none 0 0) (.slice none 0 0) (.slice none 0 0) 0 [] [] := by
  have hlt := (Array.getElem?_eq_some_iff.1 hq.blk).1
  exact ⟨hq.below ((Below.refl _ w1).alloc (Nat.le_refl _) _), ⟨heap_alloc_new w1 _, Row.nil _ _ _ _, by simp [Value.ownBlock]⟩, by omega, by simp [Value.ownBlock], by simp [Value.ownBlock], fun k hk => by simp [Value.ownBlock] at hk, Grown4.refl _ _ _ _ _, fun k hk => .inl hk, fun k hk => .inl hk⟩
/-- what 'filled' gives back -/
def FillR (R : List On) (w : World) (e : Ending) (w' : World) : Prop := ∃ (gq : Nat) (vq u : Value) (n : Int) (l : List Tm), e = .returned (.tuple #[.pointer (some ⟨gq, 0, none⟩), u]) ∧ w.heap.size ≤ gq ∧ QAt w' gq vq n l ∧ Like l R ∧ (∀ k, vq.ownBlock = some k → w.heap.size ≤ k) ∧ Row w' w.heap.size 29 2 u (srt R).length (ons (srt R)) ∧ Apart u vq ∧ u.ownBlock ≠ some gq ∧ Below w.heap.size w w'
theorem fillR_all {l : List O} (h : l.length ≤ 300) : fillR l l.length = fillR l 300 := by unfold fillR; rw [List.take_of_length_le (Nat.le_refl _), List.take_of_length_le h]
set_option maxHeartbeats 8000000 in
set_option maxRecDepth 100000 in
theorem filled7 (w : World) (ops : List O) (v : Value) (H : RecsAt w v 4 O.cells ops) : Calls Try.prog 7 #[v] w (FillR (fillR ops 300) w) := by
  obtain ⟨A, cap, rfl, k1, k2, -, -⟩ := H.at_
  have HR := Lib.hid H
  unfold maxLen at k2
  clear H
  have HN := Lib.hid (new13 w)
  go_enter Try.func7, Try.ntmps7
  go_wp2_with fail
  refine HN.out.mono ?_
  rintro e w1 ⟨rfl, hq, hb⟩
  have hlt := (Array.getElem?_eq_some_iff.1 hq.blk).1
  have T0 := Lib.hid (tw_new hq hb)
  go_upto_block 0 with fail
  obtain ⟨gq, hgq⟩ : ∃ g, g = w.heap.size := ⟨_, rfl⟩
  have HG := Lib.hid hgq
  rw [← hgq] at T0 hlt ⊢
  have HBF := Lib.hid (fun w2 vq vr n l R (h : TwS (w1.alloc (.cells #[.slice none 0 0] 41)) w2 gq w1.heap.size (.slice none 0 0) (.slice none 0 0) vq vr n l R) => tw_below (hb.alloc hb.size _) h (by omega) (by omega) (fun k hk => by simp [Value.ownBlock] at hk) (fun k hk => by simp [Value.ownBlock] at hk))
  have HOW := Lib.hid (fun w2 vq vr n l R (h : TwS (w1.alloc (.cells #[.slice none 0 0] 41)) w2 gq w1.heap.size (.slice none 0 0) (.slice none 0 0) vq vr n l R) (k : Nat) (hk : vq.ownBlock = some k) => (show w.heap.size ≤ k by
    rcases h.ownq k hk with q | q
    · simp [Value.ownBlock] at q
    · have := hb.size; simp at q; omega))
  clear hq hb HN hgq
  generalize w1.heap.size = gr at *
  generalize w1.alloc (.cells #[.slice none 0 0] 41) = W0 at *
  go_cut [] (fun wx => ∃ (vq vr : Value) (n : Int) (l : List Tm), Hid (TwS W0 wx gq gr (.slice none 0 0) (.slice none 0 0) vq vr n l (fillR ops 300)) ∧ Hid (Like l (fillR ops 300)))
  case first =>
    go_wp2_with fail
    go_loopw [6, 7, 13] (fun _ _ i wr => ∃ (k : Nat) (vq vr : Value) (n : Int) (l : List Tm), k ≤ ops.length ∧ k ≤ 300 ∧ i = .int .i64 k ∧ Hid (TwS W0 wr gq gr (.slice none 0 0) (.slice none 0 0) vq vr n l (fillR ops k)) ∧ Hid (Like l (fillR ops k))) (fun _ _ i _ => ops.length - (intOf i).toNat)
    case atStart => exact ⟨0, _, _, 0, [], by omega, by omega, rfl, T0, Lib.hid Like.nil⟩
    case round =>
      clear T0
      obtain ⟨k, vq, vr, n, l, hk, hk3, rfl, HT, HL⟩ := hrel
      by_cases hkl : k < ops.length
      · obtain ⟨b, o, rfl, d0, d1, d2, d3⟩ := ops_at (HR.out.below (HBF.out _ _ _ _ _ _ HT.out)) hkl
        have HS := Lib.hid (fillR_succ hkl)
        generalize ops[k] = op at *
        obtain ⟨kd, id, at_, sp⟩ := op
        simp only at d0 d1 d2 d3
        have hi0 : (0 : Int) ≤ (k : Int) := by omega
        have hia : (k : Int) < (ops.length : Int) := by omega
        have TB := Lib.hid (twB_start HT.out.again kd id at_ sp)
        obtain ⟨R, hRR⟩ : ∃ R, fillR ops k = R := ⟨_, rfl⟩
        rw [hRR] at HT HL HS TB
        have HRR := Lib.hid hRR
        clear hRR
        by_cases hk300 : k < 300
        · have hd : ¬ (300 : Int) ≤ (k : Int) := by omega
          have c0 := TB.out.box.c
          have hS := Lib.hid (setq24 gq _ vq n id at_ l R HL.out TB.out.t.q)
          go_upto_region 6 with fail
          generalize hwa : wr.alloc (.cells #[.int .i64 kd, .int .i64 id, .int .i64 at_, .int .i64 sp] 44) = wa at *
          clear d0 d1 d2 d3 hwa
          go_wp2_with fail
          refine hS.out.mono ?_
          rintro e w2 ⟨n2, l2, v2, rfl, hs, hk2⟩
          have TB2 := Lib.hid (TB.out.left hs)
          have L2 := Lib.hid hk2
          have c1 := TB2.out.box.c
          clear hs hk2 hS c0
          by_cases e0 : setE id at_ R = 0
          · rw [e0]
            have hS := Lib.hid (setr27 gr _ vr id at_ R HL.out.fit TB2.out.t.r)
            go_wp2_with fail
            refine hS.out.mono ?_
            rintro e w3 ⟨v3, rfl, hs⟩
            have TB3 := Lib.hid (TB2.out.right hs)
            clear hs hS c1
            go_wp2_with fail
            go_roundw
            case rel => exact ⟨k + 1, _, _, _, _, by omega, by omega, by go_num, Lib.hid (by rw [HS.out]; exact HT.out.trans TB3.out.t), Lib.hid (by rw [HS.out]; exact L2.out)⟩
            case measure => simp [intOf]; omega
          · have hR2 := Lib.hid (setR_bad e0)
            have z : (setE id at_ R == 0) = false := by simpa using e0
            clear e0
            generalize setE id at_ R = ee at *
            go_wp2_with fail
            go_roundw
            case rel => exact ⟨k + 1, _, _, _, _, by omega, by omega, by go_num, Lib.hid (by rw [HS.out, hR2.out]; exact HT.out.trans TB2.out.t), Lib.hid (by rw [HS.out]; exact L2.out)⟩
            case measure => simp [intOf]; omega
        · obtain rfl : k = 300 := by omega
          go_wp2_with fail
          go_meet
          exact ⟨_, _, _, _, Lib.hid (by rw [HRR.out]; exact HT.out.trans TB.out.t), Lib.hid (by rw [HRR.out]; exact HL.out)⟩
      · obtain rfl : k = ops.length := by omega
        go_wp2_with fail
        go_meet
        exact ⟨_, _, _, _, by rw [← fillR_all hk3]; exact HT, by rw [← fillR_all hk3]; exact HL⟩
  case rest =>
    obtain ⟨vq, vr, n, l, HT, HL⟩ := hcut
    clear T0
    have hA := Lib.hid (rall18 gr _ vr _ HL.out.fit.len HL.out.fit.uniq HT.out.r)
    go_wp2_with fail
    refine hA.out.mono ?_
    rintro e w3 ⟨⟨u, rfl, hr⟩, hb⟩
    have T3 := Lib.hid (HT.out.below hb)
    have HU := Lib.hid hr
    have HUO : Hid (∀ k, u.ownBlock = some k → wc.heap.size ≤ k) := Lib.hid (fun k hk => (Row.live hr hk).1)
    have HB := Lib.hid (HBF.out _ _ _ _ _ _ HT.out)
    clear hr hb hA
    go_wp2_with fail
    go_ret2
    exact ⟨gq, vq, u, n, l, rfl, Nat.le_of_eq HG.out.symm, T3.out.q, HL.out, HOW.out _ _ _ _ _ _ HT.out, HU.out.weak HB.out.size, fun k hk e => by have := HUO.out k hk; have := (Row.live HT.out.q.row e).2; omega, fun e => by have := HUO.out _ e; have := (Array.getElem?_eq_some_iff.1 HT.out.q.blk).1; omega, HBF.out _ _ _ _ _ _ T3.out⟩
end Go.Proofs.Ytcgihilcjijckaa.F
