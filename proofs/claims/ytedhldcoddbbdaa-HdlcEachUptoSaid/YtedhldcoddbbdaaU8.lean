import Derived.Test.YtedhldcoddbbdaaU7
set_option linter.unusedVariables false
set_option linter.unusedSimpArgs false
set_option linter.unnecessarySimpa false
namespace Go.Proofs.Ytedhldcoddbbdaa.F
open Go.RowKit Go.Proofs.Ytedhldcoddbbdaa.K
def encA (n : Int) (s : Sn) : Int := if n = 49185 then 4294967295 else s.accm
/-- a frame's bytes on the line -/
def encL (n : Int) (s : Sn) (info : List (BitVec 8)) : List (BitVec 8) := [126#8] ++ escL (encA n s) (sumL (bareL n s info)) ++ [126#8]
theorem sumL_len (l : List (BitVec 8)) : (sumL l).length = l.length + 2 := by unfold sumL; simp [sb]
def EncR (n : Int) (s : Sn) (info : List (BitVec 8)) (w : World) (e : Ending) (w' : World) : Prop := ∃ u, e = .returned (.tuple #[u, .int .i64 0]) ∧ Row w' w.heap.size 5 1 u (encL n s info).length ((encL n s info).map b8) ∧ Below w.heap.size w w'
theorem enc_bad (n : Int) (s : Sn) (info : List (BitVec 8)) (v : Value) (w : World) (h : BytesAt w v info) (he : bodyE n s info ≠ 0) : Calls Try.prog 11 #[.agg #[.int .i64 n, v], s.val] w fun e w' => e = .returned (.tuple #[.slice none 0 0, .int .i64 (bodyE n s info)]) ∧ Below w.heap.size w w' := by
  have hb : Below w.heap.size w ((w.alloc (.cells #[.int .i64 n, v] 24)).alloc (.cells #[.int .i64 s.accm, .bool s.pfc, .bool s.acfc] 31)) := ((Below.refl _ w).alloc (Nat.le_refl _) _).alloc (by simp) _
  have HB := Lib.hid hb
  have hC := Lib.hid (body_bad n s info v _ (h.below hb) he)
  have z : (bodyE n s info != 0) = true := by simpa using he
  obtain ⟨A, cap, rfl, k1, k2, -, -⟩ := h.at_
  unfold maxLen at k2
  clear h hb he
  unfold Sn.val at *
  generalize bodyE n s info = er at *
  go_enter Try.func11, Try.ntmps11
  go_wp2_with fail
  refine hC.out.mono ?_
  rintro e w1 ⟨rfl, hb⟩
  have HB1 := Lib.hid (below_then HB.out hb)
  clear hb
  go_wp2_with fail
  go_ret2
  exact ⟨rfl, HB1.out⟩
set_option maxHeartbeats 4000000 in
theorem enc11 (n : Int) (s : Sn) (info : List (BitVec 8)) (v : Value) (w : World) (h : BytesAt w v info) (he : bodyE n s info = 0) : Calls Try.prog 11 #[.agg #[.int .i64 n, v], s.val] w (EncR n s info w) := by
  have hlen : info.length ≤ 16384 ∧ mapB s.accm = true := by
    unfold bodyE at he
    split at he
    · split at he
      · omega
      · split at he
        · rename_i h1 h2 h3; exact ⟨by omega, h3⟩
        · omega
    · omega
  have hma : mapB (encA n s) = true := by
    unfold encA
    split
    · decide
    · exact hlen.2
  have hl2 := hd_len n s info
  have hl3 := sumL_len (bareL n s info)
  have hl4 := escL_len (encA n s) (sumL (bareL n s info))
  have hb : Below w.heap.size w ((w.alloc (.cells #[.int .i64 n, v] 24)).alloc (.cells #[.int .i64 s.accm, .bool s.pfc, .bool s.acfc] 31)) := ((Below.refl _ w).alloc (Nat.le_refl _) _).alloc (by simp) _
  have HB := Lib.hid hb
  have hC := Lib.hid (body14 n s info v _ (h.below hb) he)
  have hf1 : ((w.alloc (.cells #[.int .i64 n, v] 24)).alloc (.cells #[.int .i64 s.accm, .bool s.pfc, .bool s.acfc] 31)).heap[w.heap.size]? = some (.cells #[.int .i64 n, v] 24 (0, 0)) := by
    rw [Below.heap_alloc _ _ _ (by simp)]
    exact heap_alloc_new w _
  have hf2 : ((w.alloc (.cells #[.int .i64 n, v] 24)).alloc (.cells #[.int .i64 s.accm, .bool s.pfc, .bool s.acfc] 31)).heap[w.heap.size + 1]? = some (.cells #[.int .i64 s.accm, .bool s.pfc, .bool s.acfc] 31 (0, 0)) := by
    have := heap_alloc_new (w.alloc (.cells #[.int .i64 n, v] 24)) (.cells #[.int .i64 s.accm, .bool s.pfc, .bool s.acfc] 31)
    simpa using this
  have HF1 := Lib.hid hf1
  have HF2 := Lib.hid hf2
  obtain ⟨A, cap, rfl, k1, k2, -, -⟩ := h.at_
  unfold maxLen at k2
  clear h hb he hf1 hf2
  unfold Sn.val at *
  have hbl : (sumL (bareL n s info)).length ≤ 16400 := by omega
  clear hl2 hl3 hlen
  unfold EncR encL
  unfold BodyR at hC
  generalize sumL (bareL n s info) = BL at *
  go_enter Try.func11, Try.ntmps11
  go_wp2_with fail
  refine hC.out.mono ?_
  rintro e w1 ⟨u, rfl, hr, hb⟩
  have dn := (cell_of_row _ _ 0 _ _ _ ((hb.block w.heap.size (by simp; omega)).trans HF1.out)).trans rfl
  have da := (cell_of_row _ _ 0 _ _ _ ((hb.block (w.heap.size + 1) (by simp)).trans HF2.out)).trans rfl
  have HB1 := Lib.hid (below_then HB.out hb)
  have HR1 : Hid (RowB w1 u BL) := Lib.hid (hr.weak (Nat.zero_le _))
  obtain ⟨Au, cu, rfl, -, -⟩ := Row.slice hr
  clear hr hb hC
  go_upto_if 24 with fail
  go_cut [8] (fun v wx => v = .int .i64 (encA n s) ∧ w1 = wx)
  case first =>
    by_cases hn : n = 49185
    · have z : (n == 49185) = true := by simpa using hn
      have ha : encA n s = 4294967295 := if_pos hn
      have HA := Lib.hid ha
      clear hn ha
      go_wp2_with fail
      go_meet
      exact ⟨by rw [HA.out], rfl⟩
    · have z : (n == 49185) = false := by simpa using hn
      have ha : encA n s = s.accm := if_neg hn
      have HA := Lib.hid ha
      clear hn ha
      go_wp2_with fail
      go_meet
      exact ⟨by rw [HA.out], rfl⟩
  case rest =>
  obtain ⟨rfl, rfl⟩ := hcut
  clear dn da
  have hE := Lib.hid (escape16 (encA n s) BL _ w1 hma HR1.out.bytes (by omega))
  go_wp2_with fail
  refine hE.out.mono ?_
  rintro e w2 ⟨u2, rfl, hr2, hb2⟩
  have HB2 := Lib.hid (below_then HB1.out hb2)
  have HR2 : Hid (RowB w2 u2 (escL (encA n s) BL)) := Lib.hid (hr2.weak (Nat.zero_le _))
  have hz2 := HB2.out.size
  have hb3 : Below w2.heap.size w2 (w2.alloc (.cells #[.int .u8 126] 5)) := (Below.refl _ w2).alloc (Nat.le_refl _) _
  have HB3 := Lib.hid hb3
  have HF3 : Hid (Row (w2.alloc (.cells #[.int .u8 126] 5)) w.heap.size 5 1 (.slice (some ⟨w2.heap.size, 0, none⟩) 1 1) 1 ([126#8].map b8)) := Lib.hid ⟨rfl, .inr ⟨w2.heap.size, 1, _, rfl, hz2, heap_alloc_new _ _, by omega, by simp [maxLen], by simp, rfl⟩⟩
  have hz3 := Nat.le_trans hz2 hb3.size
  have hsrc := Lib.hid ((HR2.out.bytes.below hb3).src)
  obtain ⟨A2, c2, rfl, -, -⟩ := Row.slice hr2
  clear hr2 hb2 hb3 hE
  have s1 : 1 + (escL (encA n s) BL).length ≤ maxLen := by unfold maxLen; omega
  have s2 : (1 + (escL (encA n s) BL).length) * 1 ≤ 140737488355328 := by omega
  go_wp2_with (at_builtin; refine wpList_row elB rfl _ _ rfl w.heap.size _ _ _ rfl HF3.out _ _ _ rfl hsrc.out s1 s2 hz3 ?_)
  intro v4 w4 hr4
  have HB4 := Lib.hid (row_more (below_then HB2.out HB3.out) (Below.refl _ _) HF3.out hr4)
  have H4 := Lib.hid hr4.row
  obtain ⟨A4, c4, rfl, -, -⟩ := Row.slice hr4.row
  have hb5 : Below w4.heap.size w4 (w4.alloc (.cells #[.int .u8 126] 5)) := (Below.refl _ w4).alloc (Nat.le_refl _) _
  have HB5 := Lib.hid hb5
  have H5 := Lib.hid (H4.out.below hb5)
  have hz5 := Nat.le_trans HB4.out.size hb5.size
  clear hr4 hb5 hsrc
  have s3 : 1 + (escL (encA n s) BL).length + 1 ≤ maxLen := by unfold maxLen; omega
  have s4 : (1 + (escL (encA n s) BL).length + 1) * 1 ≤ 140737488355328 := by omega
  go_wp2_with (at_builtin; refine wpList_row elB rfl _ _ rfl w.heap.size _ _ _ rfl H5.out _ 1 _ rfl (src_one w4 (.int .u8 126) 5 rfl) s3 s4 hz5 ?_)
  intro v6 w6 hr6
  have HB6 := Lib.hid (row_more HB4.out HB5.out H4.out hr6)
  have H6 := Lib.hid hr6.row
  clear hr6
  go_wp2_with fail
  go_ret2
  refine ⟨v6, rfl, ?_, HB6.out⟩
  have h7 : Row w6 w.heap.size 5 1 v6 (1 + (escL (encA n s) BL).length + 1) ([126#8].map b8 ++ (escL (encA n s) BL).map b8 ++ [126#8].map b8) := H6.out
  rw [← List.map_append, ← List.map_append, show 1 + (escL (encA n s) BL).length + 1 = ([126#8] ++ escL (encA n s) BL ++ [126#8]).length by simp; omega] at h7
  exact h7
end Go.Proofs.Ytedhldcoddbbdaa.F
