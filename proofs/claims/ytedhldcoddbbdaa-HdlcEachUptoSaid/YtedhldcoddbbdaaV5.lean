import Derived.Test.YtedhldcoddbbdaaVA
set_option linter.unusedVariables false
set_option linter.unusedSimpArgs false
set_option linter.unnecessarySimpa false
namespace Go.Proofs.Ytedhldcoddbbdaa.F
open Go.RowKit Go.Proofs.Ytedhldcoddbbdaa.K
/-- the state behind region 26 -/
def WholeX (w1 w4 w6 : World) (g f : Nat) (v : Value) (r1 : Rn) (n : Int) (l : List (BitVec 8)) (er : Int) (bv ev : Value) : Prop := ∃ (bx : Nat) (u5 : Value), bv = .pointer (some ⟨bx, 0, none⟩) ∧ ev = .int .i64 er ∧ Hid (RnS w1 w6 g v (.slice none 0 0) r1) ∧ Hid (w6.heap[f]? = some (.cells #[.int .i64 0, .slice none 0 0] 24 (0, 0))) ∧ Hid (w6.heap[bx]? = some (.cells #[.int .i64 n, u5] 24 (0, 0))) ∧ bx ≠ g ∧ bx ≠ f ∧ Hid (Row w6 w4.heap.size 5 1 u5 l.length (l.map b8))
theorem whole_call {w1 w4 wa w5 : World} {g f : Nat} {v v1 : Value} {r1 : Rn} {o : Obj} (h : RnS w1 w4 g v v1 r1) (hf : w4.heap[f]? = some o) (hb : Below w4.heap.size w4 wa) (hb2 : Below wa.heap.size wa w5) : RnS w1 w5 g v v1 r1 ∧ w5.heap[f]? = some o :=
  ⟨(h.below hb).below hb2, ((below_then hb hb2).block f (Array.getElem?_eq_some_iff.1 hf).1).trans hf⟩
theorem whole_new {w1 w4 w5 : World} {g f B : Nat} {v u5 : Value} {r1 : Rn} {n er : Int} {l : List (BitVec 8)} (hg : g < w4.heap.size) (hf : f < w4.heap.size) (h : RnS w1 w5 g v (.slice none 0 0) r1 ∧ w5.heap[f]? = some (.cells #[.int .i64 0, .slice none 0 0] 24 (0, 0))) (hr : Row w5 B 5 1 u5 l.length (l.map b8)) (hB : w4.heap.size ≤ B) (hz : w4.heap.size ≤ w5.heap.size) : WholeX w1 w4 (w5.alloc (.cells #[.int .i64 n, u5] 24)) g f v r1 n l er (.pointer (some ⟨w5.heap.size, 0, none⟩)) (.int .i64 er) := by
  have hb : Below w5.heap.size w5 (w5.alloc (.cells #[.int .i64 n, u5] 24)) := (Below.refl _ w5).alloc (Nat.le_refl _) _
  exact ⟨w5.heap.size, u5, rfl, rfl, Lib.hid (h.1.below hb), Lib.hid ((hb.block f (Array.getElem?_eq_some_iff.1 h.2).1).trans h.2), Lib.hid (heap_alloc_new _ _), by omega, by omega, Lib.hid ((hr.weak hB).below hb)⟩
theorem whole_old {w1 w4 w5 : World} {g f B : Nat} {v u5 : Value} {r1 : Rn} {n er : Int} {l : List (BitVec 8)} (hg : g < w4.heap.size) (hf : f < w4.heap.size) (h1z : w1.heap.size ≤ w4.heap.size) (h : RnS w1 w5 g v (.slice none 0 0) r1 ∧ w5.heap[f]? = some (.cells #[.int .i64 0, .slice none 0 0] 24 (0, 0))) (hr : Row w5 B 5 1 u5 l.length (l.map b8)) (hB : w4.heap.size < B) (hx : w5.heap[w4.heap.size]? = some (.cells #[.int .i64 0, .slice none 0 0] 24 (0, 0))) : WholeX w1 w4 ((w5.setCell ⟨w4.heap.size, 0, none⟩ (.int .i64 n)).setCell ⟨w4.heap.size, 1, none⟩ u5) g f v r1 n l er (.pointer (some ⟨w4.heap.size, 0, none⟩)) (.int .i64 er) := by
  have hset : w5.grownBy ((w5.setCell ⟨w4.heap.size, 0, none⟩ (.int .i64 n)).setCell ⟨w4.heap.size, 1, none⟩ u5) (some w4.heap.size) := ⟨rfl, rfl, rfl, by simp [World.setCell], fun k _ hk => (heap_setCell_other _ _ _ _ (fun e => hk (by simp [e]))).trans (heap_setCell_other _ _ _ _ (fun e => hk (by simp [e])))⟩
  refine ⟨w4.heap.size, u5, rfl, rfl, Lib.hid (h.1.elsewhere hset h1z (by omega) (by simp [Value.ownBlock])), Lib.hid ((hset.block f (Array.getElem?_eq_some_iff.1 h.2).1 (by simp; omega)).trans h.2), Lib.hid (frame_set hx), by omega, by omega, Lib.hid ((hr.weak (Nat.le_of_lt hB)).kept hset (fun k hk e => by have := (Row.live hr hk).1; simp at e; omega))⟩
variable (g : Nat) (w : World)
/-- a count goes up, nothing is told -/
theorem whole_none {W1 wx : World} {r r1 : Rn} {v x y : Value} (h : RnAt w g r v) (hb1 : Below w.heap.size w W1) (hs : RnS W1 wx g v (.slice none 0 0) r1) (hf : wx.heap[w.heap.size]? = some (.cells #[x, y] 24 (0, 0))) (he : r.fin = (r1, none)) : WholeR r g v w (.returned (.tuple #[.agg #[.int .i64 0, .slice none 0 0], .bool false])) ((wx.setCell ⟨w.heap.size, 0, none⟩ (.int .i64 0)).setCell ⟨w.heap.size, 1, none⟩ (.slice none 0 0)) := by
  refine ⟨0, _, false, rfl, ?_, .inl ⟨rfl, by rw [he], rfl, rfl⟩⟩
  rw [he]
  exact (whole_fin h hb1 hs hf).1
set_option maxHeartbeats 16000000 in
set_option maxRecDepth 100000 in
theorem whole46 (r : Rn) (v : Value) (hm : 64 ≤ r.mru ∧ r.mru ≤ 16384) (hl : r.B.length ≤ 1099511627776) (h : RnAt w g r v) : Calls Try.prog 46 #[.pointer (some ⟨g, 0, none⟩)] w (WholeR r g v w) := by
  have HW := Lib.hid h
  have hb : Below w.heap.size w (w.alloc (.cells #[.int .i64 0, .slice none 0 0] 24)) := (Below.refl _ w).alloc (Nat.le_refl _) _
  have HB := Lib.hid hb
  have HF := Lib.hid (heap_alloc_new w (.cells #[.int .i64 0, .slice none 0 0] 24))
  have H0 := Lib.hid (h.below hb)
  have hlt := (Array.getElem?_eq_some_iff.1 h.blk).1
  clear h hb
  go_enter Try.func46, Try.ntmps46
  go_upto_region 1 with fail
  have hz0 : w.heap.size < (w.alloc (.cells #[.int .i64 0, .slice none 0 0] 24)).heap.size := by simp
  generalize w.alloc (.cells #[.int .i64 0, .slice none 0 0] 24) = W0 at *
  obtain ⟨-, -, -, -, c4, -, -, -, -, -, -⟩ := H0.out.f
  have f4 := H0.out.free 4
  obtain ⟨A, cap, hvv, k1, k2⟩ := Row.slice H0.out.row
  subst hvv
  unfold maxLen at k2
  have hvl := Lib.hid (fun k hk => (Row.live H0.out.row (k := k) hk).2)
  have hs1 := rclear_s H0.out
  have hset : W0.grownBy (W0.setCell ⟨g, 4, none⟩ (.slice none 0 0)) (some g) := ⟨rfl, rfl, rfl, by simp [World.setCell], fun k _ hk => heap_setCell_other _ _ _ _ (fun e => hk (by simp [e]))⟩
  have hrow1 := H0.out.row.kept hset (fun k hk e => H0.out.ne (by rw [hk, ← e]))
  have HBy := Lib.hid (RowB.bytes (w := W0.setCell ⟨g, 4, none⟩ (.slice none 0 0)) (l := r.B) hrow1)
  have HF1 := Lib.hid ((hset.block w.heap.size hz0 (by simp; omega)).trans HF.out)
  have HS1 := Lib.hid hs1
  have hz1 : W0.heap.size ≤ (W0.setCell ⟨g, 4, none⟩ (.slice none 0 0)).heap.size := hset.size
  clear hs1 hset hrow1
  go_upto_region 3 with fail
  generalize W0.setCell ⟨g, 4, none⟩ (.slice none 0 0) = W1 at *
  clear c4 f4 HF
  have x0 : W1.cell? ⟨w.heap.size, 0, none⟩ = some (.int .i64 0) := (cell_of_row _ _ _ _ _ _ HF1.out).trans rfl
  have x1 : W1.cell? ⟨w.heap.size, 1, none⟩ = some (.slice none 0 0) := (cell_of_row _ _ _ _ _ _ HF1.out).trans rfl
  have y0 : W1.frozen? ⟨w.heap.size, 0, none⟩ = false := frozen_of_row _ _ _ _ _ HF1.out
  have y1 : W1.frozen? ⟨w.heap.size, 1, none⟩ = false := frozen_of_row _ _ _ _ _ HF1.out
  obtain ⟨B, hB⟩ : ∃ B, B = r.B := ⟨_, rfl⟩
  have HBB := Lib.hid hB
  rw [← hB] at HBy hl k1 ⊢
  clear hB
  by_cases hn : B = []
  · have HE : Hid (r.fin = (r.clear, none)) := Lib.hid (by unfold Rn.fin; rw [← HBB.out, if_pos hn])
    have hl0 : B.length = 0 := by rw [hn]; rfl
    rw [hl0]
    clear hn
    go_wp2_with fail
    exact bodyPost_ret (v := .tuple #[.agg #[.int .i64 0, .slice none 0 0], .bool false]) (ret_ct (fn := Try.f46) (p := 2) (u := 3) rfl _ _ w.heap.size 24 #[.int .i64 0, .slice none 0 0] (0, 0) _ rfl (frame_set HF1.out) Try.underlying24 rfl (by kernel_rfl)) rfl (whole_none g w HW.out HB.out HS1.out HF1.out HE.out)
  have hl1 : 1 ≤ B.length := by cases B with | nil => exact absurd rfl hn | cons => simp
  have E1 := Lib.hid (show r.fin = if B.getLast? = some 125#8 then ({ r.clear with c4 := wrap64 (r.c4 + 1) }, none)
    else if (undL B).2.length < 4 then ({ r.clear with c1 := wrap64 (r.c1 + 1) }, none)
    else if r.mru + 6 < ((undL B).2.length : Int) then ({ r.clear with c2 := wrap64 (r.c2 + 1) }, none)
    else if good16 (undL B).2 = false then ({ r.clear with c3 := wrap64 (r.c3 + 1) }, none)
    else if (parseP ((undL B).2.take ((undL B).2.length - 2)) r.pfc r.acfc).1 ≠ 0 then ({ r.clear with c5 := wrap64 (r.c5 + 1) }, none)
    else ({ r.clear with c0 := wrap64 (r.c0 + 1) }, some ((parseP ((undL B).2.take ((undL B).2.length - 2)) r.pfc r.acfc).2)) by unfold Rn.fin; rw [← HBB.out, if_neg hn])
  clear hn
  obtain ⟨b1, o1, hA, d0⟩ := BytesAt.get HBy.out (k := B.length - 1) (by omega)
  subst hA
  have hlast : B.getLast? = some (B[B.length - 1]'(by omega)) := by rw [List.getLast?_eq_getElem?, List.getElem?_eq_getElem (by omega)]
  obtain ⟨lc, hlc⟩ : ∃ lc, lc = B[B.length - 1]'(by omega) := ⟨_, rfl⟩
  rw [← hlc] at d0 hlast
  have HLA := Lib.hid hlast
  clear hlc hlast
  have hsub : wrap64 ((B.length : Int) - 1) = ((B.length - 1 : Nat) : Int) := by unfold wrap64; omega
  have hsub2 : (B.length : Int) - 1 = ((B.length - 1 : Nat) : Int) := by omega
  have j0 : (0 : Int) ≤ ((B.length - 1 : Nat) : Int) := by omega
  have j1 : ((B.length - 1 : Nat) : Int) < (B.length : Int) := by omega
  have hne : ((B.length : Int) == 0) = false := by rw [beq_eq_false_iff_ne]; omega
  by_cases h125 : lc = 125#8
  · subst h125
    have HE : Hid (r.fin = ({ r.clear with c4 := wrap64 (r.c4 + 1) }, none)) := Lib.hid (by rw [E1.out, if_pos HLA.out])
    have c9 : W1.cell? ⟨g, 9, none⟩ = some (.int .i64 r.c4) := HS1.out.q.f.c9
    have f9 := HS1.out.q.free 9
    have hs2 := HS1.out.set 9 (.int .i64 (wrap64 (r.c4 + 1))) { r.clear with c4 := wrap64 (r.c4 + 1) } rfl rfl
    have hF2 : (W1.setCell ⟨g, 9, none⟩ (.int .i64 (wrap64 (r.c4 + 1)))).heap[w.heap.size]? = some (.cells #[.int .i64 0, .slice none 0 0] 24 (0, 0)) := (heap_setCell_other _ _ _ _ (show w.heap.size ≠ g by omega)).trans HF1.out
    have HS2 := Lib.hid hs2
    have HF2 := Lib.hid hF2
    have x2 := (cell_of_row _ _ 0 _ _ _ hF2).trans rfl
    have x3 := (cell_of_row _ _ 1 _ _ _ hF2).trans rfl
    have y2 := frozen_of_row _ _ 0 _ _ hF2
    have y3 := frozen_of_row _ _ 1 _ _ hF2
    clear hs2 hF2
    have z : (v8 125#8 == 125) = true := rfl
    go_wp2_with fail
    exact bodyPost_ret (v := .tuple #[.agg #[.int .i64 0, .slice none 0 0], .bool false]) (ret_ct (fn := Try.f46) (p := 2) (u := 3) rfl _ _ w.heap.size 24 #[.int .i64 0, .slice none 0 0] (0, 0) _ rfl (frame_set HF2.out) Try.underlying24 rfl (by kernel_rfl)) rfl (whole_none g w HW.out HB.out HS2.out HF2.out HE.out)
  have z125 : (v8 lc == 125) = false := v8_ne (b := 125#8) h125
  have E2 := Lib.hid (show r.fin = if (undL B).2.length < 4 then ({ r.clear with c1 := wrap64 (r.c1 + 1) }, none)
    else if r.mru + 6 < ((undL B).2.length : Int) then ({ r.clear with c2 := wrap64 (r.c2 + 1) }, none)
    else if good16 (undL B).2 = false then ({ r.clear with c3 := wrap64 (r.c3 + 1) }, none)
    else if (parseP ((undL B).2.take ((undL B).2.length - 2)) r.pfc r.acfc).1 ≠ 0 then ({ r.clear with c5 := wrap64 (r.c5 + 1) }, none)
    else ({ r.clear with c0 := wrap64 (r.c0 + 1) }, some ((parseP ((undL B).2.take ((undL B).2.length - 2)) r.pfc r.acfc).2)) by rw [E1.out, if_neg (by rw [HLA.out]; simpa using h125)])
  have HUE := Lib.hid (show (undL B).1 = false by
    cases hq : (undL B).1
    · rfl
    · have := undL_esc B hq
      rw [HLA.out] at this
      exact absurd (by simpa using this) h125)
  have H00 := Lib.hid (Row.nil W1 W1.heap.size 5 1)
  have HR00 := Lib.hid (Below.refl W1.heap.size W1)
  have HL125 := Lib.hid (show ∀ k (h : k < B.length), B[k] = 125#8 → k + 1 < B.length from fun k hk e => by
    have h1 : k ≠ B.length - 1 := fun e2 => by
      subst e2
      have := HLA.out
      rw [List.getLast?_eq_getElem?, List.getElem?_eq_getElem (by omega), e] at this
      simp at this
      exact h125 this.symm
    omega)
  clear E1 h125 x0 x1 y0 y1
  go_upto_region 8 with fail
  clear d0 hsub hsub2 j0 j1 z125 hne
  go_wp2_with fail
  go_loopw [5, 6] (fun uv i wr => ∃ (k : Nat) (l' : List (BitVec 8)), k ≤ B.length ∧ i = .int .i64 k ∧ Hid (undL (B.take k) = (false, l')) ∧ l'.length ≤ k ∧ Hid (Row wr W1.heap.size 5 1 uv l'.length (l'.map b8)) ∧ Hid (Below W1.heap.size W1 wr)) (fun _ i _ => B.length - (intOf i).toNat)
  case atStart => exact ⟨0, [], by omega, rfl, Lib.hid rfl, by simp, H00, HR00⟩
  case round =>
    clear H00 HR00
    obtain ⟨k, l', hk, rfl, HU, hll, HRr, HBr⟩ := hrel
    obtain ⟨Au, cu, huv, -, -⟩ := Row.slice HRr.out
    subst huv
    have hws := HBr.out.size
    by_cases hkl : k < B.length
    · obtain ⟨b9, o9, e9, d0⟩ := BytesAt.get (HBy.out.below HBr.out) hkl
      cases e9
      have i0 : (0 : Int) ≤ (k : Int) := by omega
      have i1 : (k : Int) < (B.length : Int) := by omega
      obtain ⟨c, hc⟩ : ∃ c, c = B[k] := ⟨_, rfl⟩
      rw [← hc] at d0
      have hst1 : undL (B.take (k + 1)) = und (false, l') c := by rw [List.take_succ_eq_append_getElem hkl, undL_snoc, HU.out, hc]
      have s1 : l'.length + 1 ≤ maxLen := by unfold maxLen; omega
      have s2 : (l'.length + 1) * 1 ≤ 140737488355328 := by omega
      by_cases h125 : c = 125#8
      · have hk1 := HL125.out k hkl (by rw [← hc, h125])
        obtain ⟨b9, o9, e9, d1⟩ := BytesAt.get (HBy.out.below HBr.out) hk1
        cases e9
        obtain ⟨x, hx⟩ : ∃ x, x = B[k + 1] := ⟨_, rfl⟩
        rw [← hx] at d1
        have HST : Hid (undL (B.take (k + 2)) = (false, l' ++ [x ^^^ 32#8])) := Lib.hid (by
          have e1 : und (false, l') 125#8 = (true, l') := by simp [und]
          have e2 : und (true, l') x = (false, l' ++ [x ^^^ 32#8]) := by simp [und]
          rw [List.take_succ_eq_append_getElem hk1, undL_snoc, hst1, ← hx, h125, e1, e2])
        subst h125
        have z : (v8 125#8 == 125) = true := rfl
        have hxx := xor8 x 32#8
        rw [show v8 32#8 = 32 from rfl] at hxx
        have i2 : (0 : Int) ≤ (k : Int) + 1 := by omega
        have i3 : (k : Int) + 1 < (B.length : Int) := by omega
        have hb5 : Below wr.heap.size wr (wr.alloc (.cells #[.int .u8 (v8 (x ^^^ 32#8))] 5)) := (Below.refl _ _).alloc (Nat.le_refl _) _
        have HB5 := Lib.hid hb5
        have HR5 := Lib.hid (HRr.out.below hb5)
        have s3 : W1.heap.size ≤ (wr.alloc (.cells #[.int .u8 (v8 (x ^^^ 32#8))] 5)).heap.size := Nat.le_trans hws hb5.size
        clear hb5 hst1 hc hx
        go_wp2_with (at_builtin; refine wpList_row elB rfl _ _ rfl W1.heap.size _ _ _ rfl HR5.out _ 1 _ rfl (src_one wr (.int .u8 (v8 (x ^^^ 32#8))) 5 rfl) s1 s2 s3 ?_)
        intro v6 w6 hr6
        have HR6 := Lib.hid hr6.row
        have HB6 := Lib.hid (row_more HBr.out HB5.out HRr.out hr6)
        clear hr6 HR5
        go_wp2_with fail
        go_roundw
        case rel => exact ⟨k + 2, l' ++ [x ^^^ 32#8], by omega, by go_num, HST, by simp; omega, Lib.hid (by rw [List.length_append, List.map_append]; exact HR6.out), HB6⟩
        case measure => simp [intOf]; omega
      · have HST : Hid (undL (B.take (k + 1)) = (false, l' ++ [c])) := Lib.hid (by
          rw [hst1]
          unfold und
          simp [h125])
        have z : (v8 c == 125) = false := v8_ne (b := 125#8) h125
        have hb5 : Below wr.heap.size wr (wr.alloc (.cells #[.int .u8 (v8 c)] 5)) := (Below.refl _ _).alloc (Nat.le_refl _) _
        have HB5 := Lib.hid hb5
        have HR5 := Lib.hid (HRr.out.below hb5)
        have s3 : W1.heap.size ≤ (wr.alloc (.cells #[.int .u8 (v8 c)] 5)).heap.size := Nat.le_trans hws hb5.size
        clear hb5 hst1 hc h125
        go_wp2_with (at_builtin; refine wpList_row elB rfl _ _ rfl W1.heap.size _ _ _ rfl HR5.out _ 1 _ rfl (src_one wr (.int .u8 (v8 c)) 5 rfl) s1 s2 s3 ?_)
        intro v6 w6 hr6
        have HR6 := Lib.hid hr6.row
        have HB6 := Lib.hid (row_more HBr.out HB5.out HRr.out hr6)
        clear hr6 HR5
        go_wp2_with fail
        go_roundw
        case rel => exact ⟨k + 1, l' ++ [c], by omega, by go_num, HST, by simp; omega, Lib.hid (by rw [List.length_append, List.map_append]; exact HR6.out), HB6⟩
        case measure => simp [intOf]; omega
    · obtain rfl : k = B.length := by omega
      have HUL := Lib.hid (show (undL B).2 = l' by have := HU.out; rw [List.take_length] at this; rw [this])
      rw [HUL.out] at E2
      have i1 : ¬ (B.length : Int) < (B.length : Int) := by omega
      clear hk
      have HSr := Lib.hid (HS1.out.below HBr.out)
      have HFr := Lib.hid ((HBr.out.block w.heap.size (by omega)).trans HF1.out)
      obtain ⟨hm0, hm1⟩ := hm
      by_cases h4 : l'.length < 4
      · have HE : Hid (r.fin = ({ r.clear with c1 := wrap64 (r.c1 + 1) }, none)) := Lib.hid (by rw [E2.out, if_pos h4])
        have h4i : (l'.length : Int) < 4 := by omega
        have cc : wr.cell? ⟨g, 6, none⟩ = some (.int .i64 r.c1) := HSr.out.q.f.c6
        have ff := HSr.out.q.free 6
        have hs2 := HSr.out.set 6 (.int .i64 (wrap64 (r.c1 + 1))) { r.clear with c1 := wrap64 (r.c1 + 1) } rfl rfl
        have hF2 : (wr.setCell ⟨g, 6, none⟩ (.int .i64 (wrap64 (r.c1 + 1)))).heap[w.heap.size]? = some (.cells #[.int .i64 0, .slice none 0 0] 24 (0, 0)) := (heap_setCell_other _ _ _ _ (show w.heap.size ≠ g by omega)).trans HFr.out
        have HS2 := Lib.hid hs2
        have HF2 := Lib.hid hF2
        have x2 := (cell_of_row _ _ 0 _ _ _ hF2).trans rfl
        have x3 := (cell_of_row _ _ 1 _ _ _ hF2).trans rfl
        have y2 := frozen_of_row _ _ 0 _ _ hF2
        have y3 := frozen_of_row _ _ 1 _ _ hF2
        clear hs2 hF2
        go_wp2_with fail
        exact bodyPost_ret (v := .tuple #[.agg #[.int .i64 0, .slice none 0 0], .bool false]) (ret_ct (fn := Try.f46) (p := 2) (u := 3) rfl _ _ w.heap.size 24 #[.int .i64 0, .slice none 0 0] (0, 0) _ rfl (frame_set HF2.out) Try.underlying24 rfl (by kernel_rfl)) rfl (whole_none g w HW.out HB.out HS2.out HF2.out HE.out)
      have h4i : ¬ (l'.length : Int) < 4 := by omega
      have cm : wr.cell? ⟨g, 0, none⟩ = some (.int .i64 r.mru) := HSr.out.q.f.c0
      by_cases hg : r.mru + 6 < (l'.length : Int)
      · have HE : Hid (r.fin = ({ r.clear with c2 := wrap64 (r.c2 + 1) }, none)) := Lib.hid (by rw [E2.out, if_neg h4, if_pos hg])
        have cc : wr.cell? ⟨g, 7, none⟩ = some (.int .i64 r.c2) := HSr.out.q.f.c7
        have ff := HSr.out.q.free 7
        have hs2 := HSr.out.set 7 (.int .i64 (wrap64 (r.c2 + 1))) { r.clear with c2 := wrap64 (r.c2 + 1) } rfl rfl
        have hF2 : (wr.setCell ⟨g, 7, none⟩ (.int .i64 (wrap64 (r.c2 + 1)))).heap[w.heap.size]? = some (.cells #[.int .i64 0, .slice none 0 0] 24 (0, 0)) := (heap_setCell_other _ _ _ _ (show w.heap.size ≠ g by omega)).trans HFr.out
        have HS2 := Lib.hid hs2
        have HF2 := Lib.hid hF2
        have x2 := (cell_of_row _ _ 0 _ _ _ hF2).trans rfl
        have x3 := (cell_of_row _ _ 1 _ _ _ hF2).trans rfl
        have y2 := frozen_of_row _ _ 0 _ _ hF2
        have y3 := frozen_of_row _ _ 1 _ _ hF2
        clear hs2 hF2
        go_wp2_with fail
        exact bodyPost_ret (v := .tuple #[.agg #[.int .i64 0, .slice none 0 0], .bool false]) (ret_ct (fn := Try.f46) (p := 2) (u := 3) rfl _ _ w.heap.size 24 #[.int .i64 0, .slice none 0 0] (0, 0) _ rfl (frame_set HF2.out) Try.underlying24 rfl (by kernel_rfl)) rfl (whole_none g w HW.out HB.out HS2.out HF2.out HE.out)
      have E3 := Lib.hid (show r.fin = if good16 l' = false then ({ r.clear with c3 := wrap64 (r.c3 + 1) }, none)
        else if (parseP (l'.take (l'.length - 2)) r.pfc r.acfc).1 ≠ 0 then ({ r.clear with c5 := wrap64 (r.c5 + 1) }, none)
        else ({ r.clear with c0 := wrap64 (r.c0 + 1) }, some ((parseP (l'.take (l'.length - 2)) r.pfc r.acfc).2)) by rw [E2.out, if_neg h4, if_neg hg])
      clear E2 HUE HL125
      have hlen2 : 4 ≤ l'.length := by omega
      have HRB := Lib.hid (show RowB wr (.slice Au l'.length cu) l' from HRr.out.weak (Nat.zero_le _))
      have HP := Lib.hid ((RowB.bytes HRB.out).cut (l'.length - 2) (by omega))
      have HSM := Lib.hid (sum40 _ _ wr HP.out)
      obtain ⟨bu, e9, dA, -⟩ := RowB.get HRB.out (k := l'.length - 2) (by omega)
      obtain ⟨bu', e8, dB, -⟩ := RowB.get HRB.out (k := l'.length - 1) (by omega)
      subst e9
      cases e8
      obtain ⟨a, ha⟩ : ∃ a, a = l'[l'.length - 2]'(by omega) := ⟨_, rfl⟩
      obtain ⟨b, hb⟩ : ∃ b, b = l'[l'.length - 1]'(by omega) := ⟨_, rfl⟩
      rw [← ha] at dA
      rw [← hb] at dB
      have hsp : l' = l'.take (l'.length - 2) ++ [a, b] := by
        apply List.ext_getElem?
        intro i
        by_cases h1 : i < l'.length - 2
        · rw [List.getElem?_append_left (by rw [List.length_take]; omega), List.getElem?_take_of_lt h1]
        · rw [List.getElem?_append_right (by rw [List.length_take]; omega), List.length_take, Nat.min_eq_left (by omega)]
          by_cases h2 : i = l'.length - 2
          · subst h2
            rw [Nat.sub_self, List.getElem?_eq_getElem (by omega), ha]; rfl
          · by_cases h3 : i = l'.length - 1
            · subst h3
              rw [show l'.length - 1 - (l'.length - 2) = 1 by omega, List.getElem?_eq_getElem (by omega), hb]; rfl
            · rw [List.getElem?_eq_none (by omega), List.getElem?_eq_none (by simp; omega)]
      have hgs := good_split (l'.take (l'.length - 2)) a b
      rw [← hsp] at hgs
      have hpl : (l'.take (l'.length - 2)).length = l'.length - 2 := by rw [List.length_take]; omega
      have HPL := Lib.hid hpl
      clear hsp ha hb hpl
      generalize l'.take (l'.length - 2) = p at *
      generalize hS : s16 p = S at *
      clear hS
      have e1 : ((l'.length : Int) - 2).toNat = l'.length - 2 := by omega
      have e2 : ((l'.length : Int) - 1).toNat = l'.length - 1 := by omega
      have q0 : (0 : Int) ≤ (l'.length : Int) - 2 := by omega
      have q1 : (l'.length : Int) - 2 < (l'.length : Int) := by omega
      have q2 : (0 : Int) ≤ (l'.length : Int) - 1 := by omega
      have q3 : (l'.length : Int) - 1 < (l'.length : Int) := by omega
      have q4 : (l'.length : Int) - 2 ≤ (cu : Int) := by have := (Row.slice HRr.out); obtain ⟨_, _, e, e', -⟩ := this; cases e; omega
      have n1 : (v16 S).tmod 256 = v8 (S.setWidth 8) := by
        rw [Int.tmod_eq_emod_of_nonneg (v16_range S).1]
        simp only [v16, v8, BitVec.toNat_setWidth]
        omega
      have n2 : (v16 S).tdiv 256 = v8 ((S >>> 8).setWidth 8) := by
        rw [Int.tdiv_eq_ediv_of_nonneg (v16_range S).1]
        simp only [v16, v8, BitVec.toNat_setWidth, BitVec.toNat_ushiftRight, Nat.shiftRight_eq_div_pow]
        have := S.isLt
        omega
      have n3 : ∀ c : BitVec 8, IntKind.u8.wrap (v8 c) = v8 c := fun c => by have := v8_range c; simp [IntKind.wrap, IntKind.bits, IntKind.signed]; omega
      have n4 : ∀ c : BitVec 8, IntKind.u16.wrap (v8 c) = v8 c := fun c => by have := v8_range c; simp [IntKind.wrap, IntKind.bits, IntKind.signed]; omega
      generalize S.setWidth 8 = lo at *
      generalize (S >>> 8).setWidth 8 = hi at *
      go_wp2_with fail
      refine HSM.out.mono ?_
      rintro e wr2 ⟨rfl, rfl⟩
      clear HSM
      by_cases hal : a = lo
      rotate_left
      · have HE : Hid (r.fin = ({ r.clear with c3 := wrap64 (r.c3 + 1) }, none)) := Lib.hid (by rw [E3.out, if_pos (by rw [hgs]; simp [hal])])
        have z : (v8 a != v8 lo) = true := by simp [bne, v8_ne hal]
        clear E3 hgs hal
        have cc : wr.cell? ⟨g, 8, none⟩ = some (.int .i64 r.c3) := HSr.out.q.f.c8
        have ff := HSr.out.q.free 8
        have hs2 := HSr.out.set 8 (.int .i64 (wrap64 (r.c3 + 1))) { r.clear with c3 := wrap64 (r.c3 + 1) } rfl rfl
        have hF2 : (wr.setCell ⟨g, 8, none⟩ (.int .i64 (wrap64 (r.c3 + 1)))).heap[w.heap.size]? = some (.cells #[.int .i64 0, .slice none 0 0] 24 (0, 0)) := (heap_setCell_other _ _ _ _ (show w.heap.size ≠ g by omega)).trans HFr.out
        have HS2 := Lib.hid hs2
        have HF2 := Lib.hid hF2
        have x2 := (cell_of_row _ _ 0 _ _ _ hF2).trans rfl
        have x3 := (cell_of_row _ _ 1 _ _ _ hF2).trans rfl
        have y2 := frozen_of_row _ _ 0 _ _ hF2
        have y3 := frozen_of_row _ _ 1 _ _ hF2
        clear hs2 hF2
        go_wp2_with fail
        exact bodyPost_ret (v := .tuple #[.agg #[.int .i64 0, .slice none 0 0], .bool false]) (ret_ct (fn := Try.f46) (p := 2) (u := 3) rfl _ _ w.heap.size 24 #[.int .i64 0, .slice none 0 0] (0, 0) _ rfl (frame_set HF2.out) Try.underlying24 rfl (by kernel_rfl)) rfl (whole_none g w HW.out HB.out HS2.out HF2.out HE.out)
      by_cases hbh : b = hi
      rotate_left
      · have HE : Hid (r.fin = ({ r.clear with c3 := wrap64 (r.c3 + 1) }, none)) := Lib.hid (by rw [E3.out, if_pos (by rw [hgs]; simp [hbh])])
        have z : (v8 a != v8 lo) = false := by simp [hal]
        have z2 : (v8 b != v8 hi) = true := by simp [bne, v8_ne hbh]
        clear E3 hgs hal hbh
        have cc : wr.cell? ⟨g, 8, none⟩ = some (.int .i64 r.c3) := HSr.out.q.f.c8
        have ff := HSr.out.q.free 8
        have hs2 := HSr.out.set 8 (.int .i64 (wrap64 (r.c3 + 1))) { r.clear with c3 := wrap64 (r.c3 + 1) } rfl rfl
        have hF2 : (wr.setCell ⟨g, 8, none⟩ (.int .i64 (wrap64 (r.c3 + 1)))).heap[w.heap.size]? = some (.cells #[.int .i64 0, .slice none 0 0] 24 (0, 0)) := (heap_setCell_other _ _ _ _ (show w.heap.size ≠ g by omega)).trans HFr.out
        have HS2 := Lib.hid hs2
        have HF2 := Lib.hid hF2
        have x2 := (cell_of_row _ _ 0 _ _ _ hF2).trans rfl
        have x3 := (cell_of_row _ _ 1 _ _ _ hF2).trans rfl
        have y2 := frozen_of_row _ _ 0 _ _ hF2
        have y3 := frozen_of_row _ _ 1 _ _ hF2
        clear hs2 hF2
        go_wp2_with fail
        exact bodyPost_ret (v := .tuple #[.agg #[.int .i64 0, .slice none 0 0], .bool false]) (ret_ct (fn := Try.f46) (p := 2) (u := 3) rfl _ _ w.heap.size 24 #[.int .i64 0, .slice none 0 0] (0, 0) _ rfl (frame_set HF2.out) Try.underlying24 rfl (by kernel_rfl)) rfl (whole_none g w HW.out HB.out HS2.out HF2.out HE.out)
      have E4 := Lib.hid (show r.fin = if (parseP p r.pfc r.acfc).1 ≠ 0 then ({ r.clear with c5 := wrap64 (r.c5 + 1) }, none)
        else ({ r.clear with c0 := wrap64 (r.c0 + 1) }, some ((parseP p r.pfc r.acfc).2)) by rw [E3.out, if_neg (by rw [hgs]; simp [hal, hbh])])
      subst hal hbh
      have z : (v8 a != v8 a) = false := by simp
      have z2 : (v8 b != v8 b) = false := by simp
      clear E3 hgs
      have c2 : wr.cell? ⟨g, 2, none⟩ = some (.bool r.pfc) := HSr.out.q.f.c2
      have c3 : wr.cell? ⟨g, 3, none⟩ = some (.bool r.acfc) := HSr.out.q.f.c3
      have hlt3 : p.length ≤ 140737488351232 := by have := HPL.out; omega
      go_upto_region 26 with fail
      have hbD : Below wr.heap.size wr wr.drew := (Below.refl _ wr).drew
      have hbA2 : Below wr.heap.size wr (wr.alloc (.cells #[.int .i64 0, .slice none 0 0] 24)) := (Below.refl _ wr).alloc (Nat.le_refl _) _
      have hbA : Below wr.heap.size wr (wr.alloc (.cells #[.int .i64 0, .slice none 0 0] 24)).drew := hbA2.drew
      have hgl4 := (Array.getElem?_eq_some_iff.1 HSr.out.q.blk).1
      have hlf4 := (Array.getElem?_eq_some_iff.1 HFr.out).1
      have hne4 : ¬ wr.heap.size = g := by omega
      have hne5 : ¬ g = wr.heap.size := by omega
      have HN4 := Lib.hid (heap_alloc_new wr (.cells #[.int .i64 0, .slice none 0 0] 24))
      have q5 : (2 : Int) ≤ (l'.length : Int) := by omega
      have q7 : (l'.length : Int) ≤ (cu : Int) + 2 := by omega
      have hwl : IntKind.i64.wrap ((l'.length : Int) - 2) = (l'.length : Int) - 2 := IntWalk.i64_in _ (by omega)
      go_cut [8, 9] (fun bp er wx => WholeX W0 wr wx g w.heap.size (.slice (some ⟨b1, o1, none⟩) r.B.length cap) r.clear (parseP p r.pfc r.acfc).2.1 (parseP p r.pfc r.acfc).2.2 (parseP p r.pfc r.acfc).1 bp er)
      case first =>
        go_region_held3 (fun w' => w'.cell? ⟨g, 2, none⟩ = some (.bool r.pfc) ∧ w'.cell? ⟨g, 3, none⟩ = some (.bool r.acfc)) (first | exact ⟨c2, c3⟩ | exact ⟨e2, e3⟩ | go_keep) ((go_at_call 23; first | (refine (parse23 p r.pfc r.acfc _ wr.drew (HP.out.below hbD) hlt3).mono ?_; rintro E5 w5 ⟨u5, rfl, hr5, hb5⟩; have hz5 := Lib.hid hb5.size; have HX5 := Lib.hid (whole_call HSr.out HFr.out hbD hb5); have HR5 := Lib.hid hr5; have e2 : w5.cell? ⟨g, 2, none⟩ = some (.bool r.pfc) := HX5.out.1.q.f.c2; have e3 : w5.cell? ⟨g, 3, none⟩ = some (.bool r.acfc) := HX5.out.1.q.f.c3; obtain ⟨A5, cp5, hu5, -, -⟩ := Row.slice hr5; subst hu5; clear hr5 hb5) | (refine (parse23 p r.pfc r.acfc _ (wr.alloc (.cells #[.int .i64 0, .slice none 0 0] 24)).drew (HP.out.below hbA) hlt3).mono ?_; rintro E5 w5 ⟨u5, rfl, hr5, hb5⟩; have hz5 := Lib.hid hb5.size; have HX5 := Lib.hid (whole_call HSr.out HFr.out hbA hb5); have HR5 := Lib.hid hr5; have e2 : w5.cell? ⟨g, 2, none⟩ = some (.bool r.pfc) := HX5.out.1.q.f.c2; have e3 : w5.cell? ⟨g, 3, none⟩ = some (.bool r.acfc) := HX5.out.1.q.f.c3; obtain ⟨A5, cp5, hu5, -, -⟩ := Row.slice hr5; subst hu5; have e0box := Lib.hid ((hb5.block wr.heap.size (by simp)).trans HN4.out); have e0 := (cell_of_row _ _ 0 _ _ _ ((hb5.block wr.heap.size (by simp)).trans HN4.out)).trans rfl; have e1 := (cell_of_row _ _ 1 _ _ _ ((hb5.block wr.heap.size (by simp)).trans HN4.out)).trans rfl; have g0 := frozen_of_row _ _ 0 _ _ ((hb5.block wr.heap.size (by simp)).trans HN4.out); have g1 := frozen_of_row _ _ 1 _ _ ((hb5.block wr.heap.size (by simp)).trans HN4.out); clear hr5 hb5) | (refine (parse23 p r.pfc r.acfc _ (wr.alloc (.cells #[.int .i64 0, .slice none 0 0] 24)) (HP.out.below hbA2) hlt3).mono ?_; rintro E5 w5 ⟨u5, rfl, hr5, hb5⟩; have hz5 := Lib.hid hb5.size; have HX5 := Lib.hid (whole_call HSr.out HFr.out hbA2 hb5); have HR5 := Lib.hid hr5; have e2 : w5.cell? ⟨g, 2, none⟩ = some (.bool r.pfc) := HX5.out.1.q.f.c2; have e3 : w5.cell? ⟨g, 3, none⟩ = some (.bool r.acfc) := HX5.out.1.q.f.c3; obtain ⟨A5, cp5, hu5, -, -⟩ := Row.slice hr5; subst hu5; have e0box := Lib.hid ((hb5.block wr.heap.size (by simp)).trans HN4.out); have e0 := (cell_of_row _ _ 0 _ _ _ ((hb5.block wr.heap.size (by simp)).trans HN4.out)).trans rfl; have e1 := (cell_of_row _ _ 1 _ _ _ ((hb5.block wr.heap.size (by simp)).trans HN4.out)).trans rfl; have g0 := frozen_of_row _ _ 0 _ _ ((hb5.block wr.heap.size (by simp)).trans HN4.out); have g1 := frozen_of_row _ _ 1 _ _ ((hb5.block wr.heap.size (by simp)).trans HN4.out); clear hr5 hb5)))
        all_goals go_wp2_with fail
        all_goals go_meet
        all_goals first
          | exact whole_new hgl4 hlf4 HX5.out HR5.out (by simp) (by have := hz5.out; simpa using this)
          | exact whole_old hgl4 hlf4 HSr.out.grow.size HX5.out HR5.out (by simp) e0box.out
      case rest =>
      obtain ⟨bx, u5, rfl, rfl, HS6, HF6, HX6, hx1, hx2, HR6⟩ := hcut
      clear c2 c3 hwl q5 q7 e1 e2 q0 q1 q2 q3 q4 n1 n2 n3 n4 dA dB cm
      by_cases her : (parseP p r.pfc r.acfc).1 = 0
      · have HE : Hid (r.fin = ({ r.clear with c0 := wrap64 (r.c0 + 1) }, some ((parseP p r.pfc r.acfc).2))) := Lib.hid (by rw [E4.out, if_neg (by simpa using her)])
        clear E4
        rw [her]
        have hs3 := HS6.out.set 5 (.int .i64 (wrap64 (r.c0 + 1))) { r.clear with c0 := wrap64 (r.c0 + 1) } rfl rfl
        have hf1 : w.heap.size ≠ g := by omega
        have hF7 : (wc.setCell ⟨g, 5, none⟩ (.int .i64 (wrap64 (r.c0 + 1)))).heap[w.heap.size]? = some (.cells #[.int .i64 0, .slice none 0 0] 24 (0, 0)) := (heap_setCell_other _ _ _ _ hf1).trans HF6.out
        have HF7 := Lib.hid hF7
        have HX7 : Hid ((wc.setCell ⟨g, 5, none⟩ (.int .i64 (wrap64 (r.c0 + 1)))).heap[bx]? = some (.cells #[.int .i64 (parseP p r.pfc r.acfc).2.1, u5] 24 (0, 0))) := Lib.hid ((heap_setCell_other _ _ _ _ hx1).trans HX6.out)
        have HS7 := Lib.hid hs3
        have cc : wc.cell? ⟨g, 5, none⟩ = some (.int .i64 r.c0) := HS6.out.q.f.c5
        have ff := HS6.out.q.free 5
        have hgr : wc.grownBy (wc.setCell ⟨g, 5, none⟩ (.int .i64 (wrap64 (r.c0 + 1)))) (some g) := ⟨rfl, rfl, rfl, by simp [World.setCell], fun k _ hk => heap_setCell_other _ _ _ _ (fun e => hk (by simp [e]))⟩
        have HR7 := Lib.hid (HR6.out.kept hgr (fun k hk e => by have := (Row.live HR6.out hk).1; simp at e; omega))
        clear hs3 hgr hF7
        go_upto_region 31 with fail
        generalize wc.setCell ⟨g, 5, none⟩ (.int .i64 (wrap64 (r.c0 + 1))) = w7 at *
        clear cc ff
        have x0 : w7.cell? ⟨bx, 0, none⟩ = some (.int .i64 (parseP p r.pfc r.acfc).2.1) := (cell_of_row _ _ _ _ _ _ HX7.out).trans rfl
        have x1 : w7.cell? ⟨bx, 1, none⟩ = some u5 := (cell_of_row _ _ _ _ _ _ HX7.out).trans rfl
        have y0 : w7.cell? ⟨w.heap.size, 0, none⟩ = some (.int .i64 0) := (cell_of_row _ _ _ _ _ _ HF7.out).trans rfl
        have y1 : w7.cell? ⟨w.heap.size, 1, none⟩ = some (.slice none 0 0) := (cell_of_row _ _ _ _ _ _ HF7.out).trans rfl
        have z0 : w7.frozen? ⟨w.heap.size, 0, none⟩ = false := frozen_of_row _ _ _ _ _ HF7.out
        have z1 : w7.frozen? ⟨w.heap.size, 1, none⟩ = false := frozen_of_row _ _ _ _ _ HF7.out
        obtain ⟨A7, c7, hu7, -, -⟩ := Row.slice HR7.out
        subst hu7
        have hbz := HB.out.size
        have hzz := HSr.out.grow.size
        go_wp2_with fail
        have hfin := whole_fin (n := .int .i64 (parseP p r.pfc r.acfc).2.1) (u := .slice A7 (parseP p r.pfc r.acfc).2.2.length c7) HW.out HB.out HS7.out HF7.out
        refine bodyPost_ret (v := .tuple #[.agg #[.int .i64 (parseP p r.pfc r.acfc).2.1, .slice A7 (parseP p r.pfc r.acfc).2.2.length c7], .bool true]) (ret_ct (fn := Try.f46) (p := 2) (u := 3) rfl _ _ w.heap.size 24 #[.int .i64 (parseP p r.pfc r.acfc).2.1, .slice A7 (parseP p r.pfc r.acfc).2.2.length c7] (0, 0) _ rfl hfin.2.1 Try.underlying24 rfl (by kernel_rfl)) rfl ?_
        refine ⟨_, _, true, rfl, by rw [HE.out]; exact hfin.1, .inr ⟨_, rfl, by rw [HE.out], ?_⟩⟩
        refine (HR7.out.weak (Nat.le_trans hbz hzz)).kept hfin.2.2 (fun k hk e => ?_)
        have h1 := (Row.live HR7.out hk).1
        simp at e
        omega
      · have HE : Hid (r.fin = ({ r.clear with c5 := wrap64 (r.c5 + 1) }, none)) := Lib.hid (by rw [E4.out, if_pos her])
        clear E4
        have z : ((parseP p r.pfc r.acfc).1 != 0) = true := by simpa using her
        have hs3 := HS6.out.set 10 (.int .i64 (wrap64 (r.c5 + 1))) { r.clear with c5 := wrap64 (r.c5 + 1) } rfl rfl
        have hf1 : w.heap.size ≠ g := by omega
        have hF7 : (wc.setCell ⟨g, 10, none⟩ (.int .i64 (wrap64 (r.c5 + 1)))).heap[w.heap.size]? = some (.cells #[.int .i64 0, .slice none 0 0] 24 (0, 0)) := (heap_setCell_other _ _ _ _ hf1).trans HF6.out
        have HF7 := Lib.hid hF7
        have HX7 : Hid ((wc.setCell ⟨g, 10, none⟩ (.int .i64 (wrap64 (r.c5 + 1)))).heap[bx]? = some (.cells #[.int .i64 (parseP p r.pfc r.acfc).2.1, u5] 24 (0, 0))) := Lib.hid ((heap_setCell_other _ _ _ _ hx1).trans HX6.out)
        have HS7 := Lib.hid hs3
        have cc : wc.cell? ⟨g, 10, none⟩ = some (.int .i64 r.c5) := HS6.out.q.f.c10
        have ff := HS6.out.q.free 10
        have hgr : wc.grownBy (wc.setCell ⟨g, 10, none⟩ (.int .i64 (wrap64 (r.c5 + 1)))) (some g) := ⟨rfl, rfl, rfl, by simp [World.setCell], fun k _ hk => heap_setCell_other _ _ _ _ (fun e => hk (by simp [e]))⟩
        have HR7 := Lib.hid (HR6.out.kept hgr (fun k hk e => by have := (Row.live HR6.out hk).1; simp at e; omega))
        clear hs3 hgr hF7
        have x2 := (cell_of_row _ _ 0 _ _ _ HF7.out).trans rfl
        have x3 := (cell_of_row _ _ 1 _ _ _ HF7.out).trans rfl
        have y2 := frozen_of_row _ _ 0 _ _ HF7.out
        have y3 := frozen_of_row _ _ 1 _ _ HF7.out
        go_wp2_with fail
        exact bodyPost_ret (v := .tuple #[.agg #[.int .i64 0, .slice none 0 0], .bool false]) (ret_ct (fn := Try.f46) (p := 2) (u := 3) rfl _ _ w.heap.size 24 #[.int .i64 0, .slice none 0 0] (0, 0) _ rfl (frame_set HF7.out) Try.underlying24 rfl (by kernel_rfl)) rfl (whole_none g w HW.out HB.out HS7.out HF7.out HE.out)
end Go.Proofs.Ytedhldcoddbbdaa.F
