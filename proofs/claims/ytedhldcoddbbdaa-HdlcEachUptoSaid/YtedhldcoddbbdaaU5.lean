import Derived.Test.YtedhldcoddbbdaaU4
set_option linter.unusedVariables false
set_option linter.unusedSimpArgs false
set_option linter.unnecessarySimpa false
namespace Go.Proofs.Ytedhldcoddbbdaa.F
open Go.RowKit Go.Proofs.Ytedhldcoddbbdaa.K
/-- one byte, as it goes over the line -/
def esc1 (a : Int) (c : BitVec 8) : List (BitVec 8) := if mk a c.toNat then [125#8, c ^^^ 32#8] else [c]
def escL (a : Int) (l : List (BitVec 8)) : List (BitVec 8) := l.flatMap (esc1 a)
theorem escL_snoc (a : Int) (l : List (BitVec 8)) (c : BitVec 8) : escL a (l ++ [c]) = escL a l ++ esc1 a c := by unfold escL; rw [List.flatMap_append]; simp
theorem escL_len (a : Int) (l : List (BitVec 8)) : (escL a l).length ≤ 2 * l.length := by
  induction l with
  | nil => simp [escL]
  | cons c l ih =>
    unfold escL at *
    rw [List.flatMap_cons, List.length_append]
    have : (esc1 a c).length ≤ 2 := by unfold esc1; split <;> simp
    simp only [List.length_cons]
    omega
theorem src_two (w : World) (u v : Value) (e : TypeId) (h : u.oneCell' = true) (h2 : v.oneCell' = true) : SrcR (w.alloc (.cells #[u, v] e)) 1 (.slice (some ⟨w.heap.size, 0, none⟩) 2 2) 2 [u, v] :=
  ⟨rfl, fun x hx => by simp at hx; rcases hx with rfl | rfl; exact h; exact h2, _, _, rfl, fun e => by (cases e), fun ad e' j x hj => by
    cases e'
    have hlt := (List.getElem?_eq_some_iff.1 hj).1
    have : j = 0 ∨ j = 1 := by simp at hlt; omega
    rw [add_mid]
    rcases this with rfl | rfl
    · simp at hj; simp [hj]
    · simp at hj; simp [hj]⟩
/-- what Escape gives back -/
def EscR (a : Int) (l : List (BitVec 8)) (w : World) (e : Ending) (w' : World) : Prop := ∃ u, e = .returned (.tuple #[u, .int .i64 0]) ∧ Row w' w.heap.size 5 1 u (escL a l).length ((escL a l).map b8) ∧ Below w.heap.size w w'
theorem esc_bad (a : Int) (v : Value) (w : World) (h : mapB a = false) : Calls Try.prog 16 #[v, .int .i64 a] w fun e w' => e = .returned (.tuple #[.slice none 0 0, .int .i64 1]) ∧ w = w' := by
  have HR := Lib.hid (right37 a w)
  rw [h] at HR
  go_enter Try.func16, Try.ntmps16
  go_wp2_with fail
  refine HR.out.mono ?_
  rintro e w1 ⟨rfl, rfl⟩
  go_wp2_with fail
  go_ret2
  exact ⟨rfl, rfl⟩
set_option maxHeartbeats 4000000 in
set_option maxRecDepth 100000 in
theorem escape16 (a : Int) (l : List (BitVec 8)) (v : Value) (w : World) (hm : mapB a = true) (h : BytesAt w v l) (hl : 2 * l.length + 8 ≤ 140737488351232) : Calls Try.prog 16 #[v, .int .i64 a] w (EscR a l w) := by
  have HB := Lib.hid h
  obtain ⟨A, cap, rfl, k1, k2, -, -⟩ := h.at_
  unfold maxLen at k2
  have HR := Lib.hid (right37 a w)
  rw [hm] at HR
  have hm2 := hm
  unfold mapB at hm2
  simp only [Bool.and_eq_true, decide_eq_true_eq] at hm2
  have HM := Lib.hid (marks41 a hm2.1 hm2.2)
  have hz := zero74
  clear h hm hm2
  go_enter Try.func16, Try.ntmps16
  go_wp2_with fail
  refine HR.out.mono ?_
  rintro e w1 ⟨rfl, rfl⟩
  go_wp2_with fail
  refine (HM.out _).mono ?_
  rintro e w1 ⟨rfl, hb⟩
  have HB1 := Lib.hid hb
  have hn := heap_alloc_new w1 (.cells (MK fun _ => false) 74)
  have HN := Lib.hid hn
  have hi74 : (Try.prog.info? 74).map (·.size) = some (MK (mk a)).size := by rw [MK_size]; kernel_rfl
  clear hb HM HR hn
  go_upto_region 4 with (refine wpList_store_row rfl 74 (.tmp 6) (.tmp 14) rfl w1.heap.size (MK (mk a)) (by rfl) (by rfl) 74 _ HN.out hi74 (by rw [MK_size, MK_size]) (by simp [MK, Value.oneCell']) ?_)
  have HM2 : Hid (((w1.alloc (.cells (MK fun _ => false) 74)).setRow w1.heap.size (MK (mk a))).heap[w1.heap.size]? = some (.cells (MK (mk a)) 74 (0, 0))) := Lib.hid (setRow_heap _ _ _ _ _ _ HN.out)
  have HB2 : Hid (Below w.heap.size w ((w1.alloc (.cells (MK fun _ => false) 74)).setRow w1.heap.size (MK (mk a)))) := Lib.hid (by
    have h1 := HB1.out.alloc HB1.out.size (.cells (MK fun _ => false) 74)
    refine ⟨h1.os, h1.tape, h1.output, by have := h1.size; simpa [World.setRow] using this, fun k hk => ?_⟩
    have := HB1.out.size
    rw [setRow_other _ _ _ _ (by omega)]
    exact h1.block k hk)
  have hbm : w.heap.size ≤ w1.heap.size := HB1.out.size
  clear HN
  generalize (w1.alloc (.cells (MK fun _ => false) 74)).setRow w1.heap.size (MK (mk a)) = W2 at *
  generalize hbb : w1.heap.size = bm at *
  clear hbb HB1 hz
  obtain ⟨i0, hi, hz, hsz, hby⟩ := elB.hi
  have hmk := run_make (P := Try.prog) W2 22 5 i0 (.int .u8 0) Try.underlying22 hi hz .i64 .i64 0 (l.length + 8) (by omega) (by omega) (by rw [hby]; omega) (by omega)
  rw [show ((l.length : Int) + 8).toNat = l.length + 8 by omega, show (0 : Int).toNat = 0 from rfl, hsz, Nat.mul_one] at hmk
  generalize hC : madeCells (Value.int .u8 0).cells (l.length + 8) = C at hmk
  have hCs : C.size = l.length + 8 := by rw [← hC]; simp [size_madeCells]
  have hw : wrap64 ((l.length : Int) + 8) = (l.length : Int) + 8 := by unfold wrap64; omega
  clear hC hi hz hsz hby
  have hb3 : Below W2.heap.size W2 (W2.alloc (.cells C 5)) := (Below.refl _ _).alloc (Nat.le_refl _) _
  have HB3 := Lib.hid (below_then HB2.out hb3)
  have hws := HB2.out.size
  have HM3 := Lib.hid ((hb3.block bm (Array.getElem?_eq_some_iff.1 HM2.out).1).trans HM2.out)
  have HO3 : Hid ((W2.alloc (.cells C 5)).ownsRow w.heap.size 5 1 (.slice (some ⟨W2.heap.size, 0, none⟩) 0 (l.length + 8)) 0 ((escL a []).map b8)) := Lib.hid ⟨rfl, .inr ⟨W2.heap.size, l.length + 8, C, rfl, hws, heap_alloc_new _ _, by omega, by simp [maxLen]; omega, by simp [hCs], rfl⟩⟩
  have hlm := (Array.getElem?_eq_some_iff.1 HM2.out).1
  have HNE : Hid ((Value.slice (some ⟨W2.heap.size, 0, none⟩) 0 (l.length + 8)).ownBlock ≠ some bm) := Lib.hid (fun e => by simp [Value.ownBlock] at e; omega)
  clear hb3 HM2 HB2
  go_wp2_with fail
  generalize W2.alloc (.cells C 5) = W3 at *

  clear hmk
  go_loopw [7, 9, 21] (fun ov _ i wr => ∃ (k : Nat), k ≤ l.length ∧ i = .int .i64 k ∧ Hid (Below w.heap.size w wr) ∧ Hid (wr.heap[bm]? = some (.cells (MK (mk a)) 74 (0, 0))) ∧ Hid (Row wr w.heap.size 5 1 ov (escL a (l.take k)).length ((escL a (l.take k)).map b8)) ∧ Hid (ov.ownBlock ≠ some bm)) (fun _ _ i _ => l.length - (intOf i).toNat)
  case atStart => exact ⟨0, by omega, rfl, HB3, HM3, Lib.hid (by have := row_of_own HO3.out; simpa [escL] using this), HNE⟩
  case round =>
    clear HB3 HM3 HO3 HNE hlm
    obtain ⟨k, hk, rfl, HBr, HMr, HO, HN⟩ := hrel
    by_cases hkl : k < l.length
    · obtain ⟨bk, o, rfl, d0⟩ := BytesAt.get (HB.out.below HBr.out) hkl
      have HS := Lib.hid (show escL a (l.take (k + 1)) = escL a (l.take k) ++ esc1 a l[k] by rw [List.take_succ_eq_append_getElem hkl, escL_snoc])
      have hlen := escL_len a (l.take k)
      rw [List.length_take] at hlen
      generalize l[k] = c at *
      have i0 : (0 : Int) ≤ (k : Int) := by omega
      have i1 : (k : Int) < (l.length : Int) := by omega
      have hv := v8_range c
      have hvn : (v8 c).toNat = c.toNat := by unfold v8; omega
      have hv1 : v8 c < 256 := by omega
      have hv0 := hv.1
      have dm : wr.cell? ⟨bm, (v8 c).toNat, none⟩ = some (.bool (mk a c.toNat)) := (cell_of_row _ _ _ _ _ _ HMr.out).trans (by rw [hvn]; exact MK_get _ _ c.isLt)
      have hx := xor8 c 32#8
      rw [show v8 32#8 = 32 from rfl] at hx
      have hbs := HBr.out.size
      clear hv hvn
      cases hmc : mk a c.toNat
      · rw [hmc] at dm
        have HS2 := Lib.hid (show esc1 a c = [c] by unfold esc1; rw [hmc]; rfl)
        clear hmc
        have hb1 : Below wr.heap.size wr (wr.alloc (.cells #[.int .u8 (v8 c)] 5)) := (Below.refl _ wr).alloc (Nat.le_refl _) _
        have HBa := Lib.hid (below_then HBr.out hb1)
        have HMa := Lib.hid ((hb1.block bm (Array.getElem?_eq_some_iff.1 HMr.out).1).trans HMr.out)
        have HOa := Lib.hid (HO.out.below hb1)
        have hbs2 := HBa.out.size
        clear hb1
        have s1 : (escL a (l.take k)).length + 1 ≤ maxLen := by unfold maxLen; omega
        have s2 : ((escL a (l.take k)).length + 1) * 1 ≤ 140737488355328 := by omega
        go_wp2_with (at_builtin; refine wpList_row elB rfl _ _ rfl w.heap.size _ _ _ rfl HOa.out _ 1 _ rfl (src_one wr (.int .u8 (v8 c)) 5 rfl) s1 s2 hbs2 ?_)
        intro v4 w4 hr4
        have H4 := Lib.hid hr4.row
        have HB4 := Lib.hid (HBa.out.grown hr4.grow hbs2 (fun j hj => (Row.live HOa.out hj).1))
        have HM4 := Lib.hid ((hr4.grow.block bm (Array.getElem?_eq_some_iff.1 HMa.out).1 (fun e => HN.out e.symm)).trans HMa.out)
        have HN4 : Hid (v4.ownBlock ≠ some bm) := Lib.hid (fun e => by
          rcases hr4.own bm e with q | q
          · exact HN.out q
          · have := (Array.getElem?_eq_some_iff.1 HMa.out).1; omega)
        clear hr4 HOa HMa HBa HO HMr HBr
        go_wp2_with fail
        go_roundw
        case rel => exact ⟨k + 1, by omega, by go_num, HB4, HM4, Lib.hid (by rw [HS.out, HS2.out, List.length_append, List.map_append]; exact H4.out), HN4⟩
        case measure => simp [intOf]; omega
      · rw [hmc] at dm
        have HS2 := Lib.hid (show esc1 a c = [125#8, c ^^^ 32#8] by unfold esc1; rw [hmc]; rfl)
        clear hmc
        have hb1 : Below wr.heap.size wr (wr.alloc (.cells #[.int .u8 125, .int .u8 (v8 (c ^^^ 32#8))] 5)) := (Below.refl _ wr).alloc (Nat.le_refl _) _
        have HBa := Lib.hid (below_then HBr.out hb1)
        have HMa := Lib.hid ((hb1.block bm (Array.getElem?_eq_some_iff.1 HMr.out).1).trans HMr.out)
        have HOa := Lib.hid (HO.out.below hb1)
        have hbs2 := HBa.out.size
        clear hb1
        have s1 : (escL a (l.take k)).length + 2 ≤ maxLen := by unfold maxLen; omega
        have s2 : ((escL a (l.take k)).length + 2) * 1 ≤ 140737488355328 := by omega
        go_wp2_with (at_builtin; refine wpList_row elB rfl _ _ rfl w.heap.size _ _ _ rfl HOa.out _ 2 _ rfl (src_two wr (.int .u8 125) (.int .u8 (v8 (c ^^^ 32#8))) 5 rfl rfl) s1 s2 hbs2 ?_)
        intro v4 w4 hr4
        have H4 := Lib.hid hr4.row
        have HB4 := Lib.hid (HBa.out.grown hr4.grow hbs2 (fun j hj => (Row.live HOa.out hj).1))
        have HM4 := Lib.hid ((hr4.grow.block bm (Array.getElem?_eq_some_iff.1 HMa.out).1 (fun e => HN.out e.symm)).trans HMa.out)
        have HN4 : Hid (v4.ownBlock ≠ some bm) := Lib.hid (fun e => by
          rcases hr4.own bm e with q | q
          · exact HN.out q
          · have := (Array.getElem?_eq_some_iff.1 HMa.out).1; omega)
        clear hr4 HOa HMa HBa HO HMr HBr
        go_wp2_with fail
        go_roundw
        case rel => exact ⟨k + 1, by omega, by go_num, HB4, HM4, Lib.hid (by rw [HS.out, HS2.out, List.length_append, List.map_append]; exact H4.out), HN4⟩
        case measure => simp [intOf]; omega
    · obtain rfl : k = l.length := by omega
      go_wp2_with fail
      go_ret2
      exact ⟨_, rfl, by have := HO.out; rwa [List.take_length] at this, HBr.out⟩
end Go.Proofs.Ytedhldcoddbbdaa.F
