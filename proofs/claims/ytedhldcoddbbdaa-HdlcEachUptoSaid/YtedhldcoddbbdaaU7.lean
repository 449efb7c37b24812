import Derived.Test.YtedhldcoddbbdaaU6
set_option linter.unusedVariables false
set_option linter.unusedSimpArgs false
set_option linter.unnecessarySimpa false
namespace Go.Proofs.Ytedhldcoddbbdaa.F
open Go.RowKit Go.Proofs.Ytedhldcoddbbdaa.K
/-- a row of a call's own is made longer -/
theorem row_more {w0 wr wa w' : World} {v v' : Value} {n m : Nat} {xs ys : List Value} (hb : Below w0.heap.size w0 wr) (hb2 : Below wr.heap.size wr wa) (hr : Row wr w0.heap.size 5 1 v n xs) (h : RowR wa w' w0.heap.size 5 1 v v' m ys) : Below w0.heap.size w0 w' := by
  have h5 := below_then hb hb2
  exact ⟨h.grow.os.trans h5.os, h.grow.tape.trans h5.tape, h.grow.output.trans h5.output, Nat.le_trans h5.size h.grow.size, fun k hk => (h.grow.block k (Nat.lt_of_lt_of_le hk h5.size) (fun e => by have := (Row.live hr e.symm).1; omega)).trans (h5.block k hk)⟩
set_option maxHeartbeats 8000000 in
set_option maxRecDepth 100000 in
theorem body14 (n : Int) (s : Sn) (info : List (BitVec 8)) (v : Value) (w : World) (h : BytesAt w v info) (he : bodyE n s info = 0) : Calls Try.prog 14 #[.agg #[.int .i64 n, v], s.val] w (BodyR n s info w) := by
  have HI := Lib.hid h
  obtain ⟨A, cap, rfl, k1, k2, -, -⟩ := h.at_
  obtain ⟨accm, pfc, acfc⟩ := s
  unfold Sn.val
  unfold maxLen at k2
  clear h
  have hall : protoB n = true ∧ info.length ≤ 16384 ∧ mapB accm = true := by
    unfold bodyE at he
    split at he
    · rename_i hp
      split at he
      · omega
      · rename_i hl
        split at he
        · rename_i hm
          exact ⟨hp, by omega, hm⟩
        · omega
    · omega
  obtain ⟨hp, hl, hm⟩ := hall
  have HP := Lib.hid (fun W => proto36 n W)
  have HM := Lib.hid (fun W => right37 accm W)
  rw [hp] at HP
  rw [hm] at HM
  have hpn : 1 ≤ n ∧ n ≤ 65535 := by unfold protoB at hp; simp at hp; omega
  have hl2 : ¬ (16384 : Int) < (info.length : Int) := by omega
  have hb : Below w.heap.size w ((w.alloc (.cells #[.int .i64 n, .slice A info.length cap] 24)).alloc (.cells #[.int .i64 accm, .bool pfc, .bool acfc] 31)) := ((Below.refl _ w).alloc (Nat.le_refl _) _).alloc (by simp) _
  have HB := Lib.hid hb
  have hf1 : ((w.alloc (.cells #[.int .i64 n, .slice A info.length cap] 24)).alloc (.cells #[.int .i64 accm, .bool pfc, .bool acfc] 31)).heap[w.heap.size]? = some (.cells #[.int .i64 n, .slice A info.length cap] 24 (0, 0)) := by
    rw [Below.heap_alloc _ _ _ (by simp)]
    exact heap_alloc_new w _
  have hf2 : ((w.alloc (.cells #[.int .i64 n, .slice A info.length cap] 24)).alloc (.cells #[.int .i64 accm, .bool pfc, .bool acfc] 31)).heap[w.heap.size + 1]? = some (.cells #[.int .i64 accm, .bool pfc, .bool acfc] 31 (0, 0)) := by
    have := heap_alloc_new (w.alloc (.cells #[.int .i64 n, .slice A info.length cap] 24)) (.cells #[.int .i64 accm, .bool pfc, .bool acfc] 31)
    simpa using this
  have HF1 := Lib.hid hf1
  have HF2 := Lib.hid hf2
  clear hb hp hm he hf1 hf2
  go_enter Try.func14, Try.ntmps14
  go_wp2_with fail
  refine (HP.out _).mono ?_
  rintro e w1 ⟨rfl, rfl⟩
  go_wp2_with fail
  refine (HM.out _).mono ?_
  rintro e w1 ⟨rfl, rfl⟩
  go_upto_region 9 with fail
  generalize ((w.alloc (.cells #[.int .i64 n, .slice A info.length cap] 24)).alloc (.cells #[.int .i64 accm, .bool pfc, .bool acfc] 31)) = W0 at *
  have hl0 := (Array.getElem?_eq_some_iff.1 HF1.out).1
  have hl1 := (Array.getElem?_eq_some_iff.1 HF2.out).1
  have hlc : (n == 49185) = lcpB n := by unfold lcpB; rw [Bool.eq_iff_iff]; simp
  rw [hlc]
  obtain ⟨lcp, hlcp⟩ : ∃ lcp, lcp = lcpB n := ⟨_, rfl⟩
  have HLCP := Lib.hid hlcp
  rw [← hlcp]
  clear hlc hlcp
  have dn : W0.cell? ⟨w.heap.size, 0, none⟩ = some (.int .i64 n) := (cell_of_row _ _ _ _ _ _ HF1.out).trans rfl
  have dv : W0.cell? ⟨w.heap.size, 1, none⟩ = some (.slice A info.length cap) := (cell_of_row _ _ _ _ _ _ HF1.out).trans rfl
  have dp : W0.cell? ⟨w.heap.size + 1, 1, none⟩ = some (.bool pfc) := (cell_of_row _ _ _ _ _ _ HF2.out).trans rfl
  have da : W0.cell? ⟨w.heap.size + 1, 2, none⟩ = some (.bool acfc) := (cell_of_row _ _ _ _ _ _ HF2.out).trans rfl
  have HD := Lib.hid (And.intro dn (And.intro dv (And.intro dp da)))
  go_cut [31] (fun s wx => s = .bool (lcp || !acfc) ∧ W0 = wx)
  case first =>
    cases lcp
    · go_wp2_with fail
      go_meet
      exact ⟨by simp, rfl⟩
    · go_wp2_with fail
      go_meet
      exact ⟨by simp, rfl⟩
  case rest =>
  obtain ⟨rfl, rfl⟩ := hcut
  go_upto_if 31 with fail
  go_cut [6] (fun v wx => Hid (Below W0.heap.size W0 wx) ∧ Hid (Row wx W0.heap.size 5 1 v (hd1 lcp acfc).length ((hd1 lcp acfc).map b8)))
  case first =>
    cases hb : (lcp || !acfc)
    · have HH := Lib.hid (show hd1 lcp acfc = [] by unfold hd1; rw [hb]; rfl)
      clear hb
      go_wp2_with fail
      go_meet
      exact ⟨Lib.hid (Below.refl _ _), Lib.hid (by rw [HH.out]; exact Row.nil _ _ _ _)⟩
    · have HH := Lib.hid (show hd1 lcp acfc = [255#8, 3#8] by unfold hd1; rw [hb]; rfl)
      clear hb
      have hb1 : Below W0.heap.size W0 (W0.alloc (.cells #[.int .u8 255, .int .u8 3] 5)) := (Below.refl _ W0).alloc (Nat.le_refl _) _
      have HB1 := Lib.hid hb1
      have hz1 := hb1.size
      have HR0 := Lib.hid (Row.nil (W0.alloc (.cells #[.int .u8 255, .int .u8 3] 5)) W0.heap.size 5 1)
      clear hb1
      have s1 : 0 + 2 ≤ maxLen := by unfold maxLen; omega
      go_wp2_with (at_builtin; refine wpList_row elB rfl _ _ rfl W0.heap.size _ _ _ rfl HR0.out _ 2 _ rfl (src_two W0 (.int .u8 255) (.int .u8 3) 5 rfl rfl) s1 (by omega) hz1 ?_)
      intro v4 w4 hr4
      have H4 := Lib.hid hr4.row
      have HB4 := Lib.hid (row_more (Below.refl _ W0) HB1.out (Row.nil _ _ _ _) hr4)
      clear hr4
      go_wp2_with fail
      go_meet
      exact ⟨HB4, Lib.hid (by rw [HH.out]; exact H4.out)⟩
  case rest =>
  obtain ⟨HB1, HR1⟩ := hcut
  clear dn dv dp da
  have dn := (HB1.out.cell (p := ⟨w.heap.size, 0, none⟩) hl0).trans HD.out.1
  have dp := (HB1.out.cell (p := ⟨w.heap.size + 1, 1, none⟩) hl1).trans HD.out.2.2.1
  go_upto_region 11 with fail
  go_cut [45] (fun s wx => s = .bool (lcp || (!pfc || decide (255 < n))) ∧ wc = wx)
  case first =>
    cases lcp
    · cases pfc
      · go_wp2_with fail
        go_meet
        exact ⟨by simp, rfl⟩
      · by_cases h255 : 255 < n
        · go_wp2_with fail
          go_meet
          exact ⟨by simp [h255], rfl⟩
        · go_wp2_with fail
          go_meet
          exact ⟨by simp; omega, rfl⟩
    · go_wp2_with fail
      go_meet
      exact ⟨by simp, rfl⟩
  case rest =>
  obtain ⟨rfl, rfl⟩ := hcut
  go_upto_if 45 with fail
  have hlen1 : (hd1 lcp acfc).length ≤ 2 := by unfold hd1; split <;> simp
  go_cut [6] (fun v wx => Hid (Below W0.heap.size W0 wx) ∧ Hid (Row wx W0.heap.size 5 1 v (hd1 lcp acfc ++ hd2 n lcp pfc).length ((hd1 lcp acfc ++ hd2 n lcp pfc).map b8)))
  case first =>
    cases hb : (lcp || (!pfc || decide (255 < n)))
    · have HH := Lib.hid (show hd2 n lcp pfc = [] by unfold hd2; rw [hb]; rfl)
      clear hb
      go_wp2_with fail
      go_meet
      exact ⟨HB1, Lib.hid (by rw [HH.out, List.append_nil]; exact HR1.out)⟩
    · have HH := Lib.hid (show hd2 n lcp pfc = [bt (n / 256)] by unfold hd2; rw [hb]; rfl)
      clear hb
      have hwb := wrap_bt (n / 256)
      have hb1 : Below wc.heap.size wc (wc.alloc (.cells #[.int .u8 (v8 (bt (n / 256)))] 5)) := (Below.refl _ wc).alloc (Nat.le_refl _) _
      have HBx := Lib.hid hb1
      have hz1 := Nat.le_trans HB1.out.size hb1.size
      have HR0 := Lib.hid (HR1.out.below hb1)
      clear hb1
      have s1 : (hd1 lcp acfc).length + 1 ≤ maxLen := by unfold maxLen; omega
      have hwb2 : n / 256 % 256 = v8 (bt (n / 256)) := by rw [← hwb]; simp [IntKind.wrap, IntKind.bits, IntKind.signed]
      go_wp2_with (at_builtin; refine wpList_row elB rfl _ _ rfl W0.heap.size _ _ _ rfl HR0.out _ 1 _ rfl (src_one wc (.int .u8 (v8 (bt (n / 256)))) 5 rfl) s1 (by omega) hz1 ?_)
      intro v4 w4 hr4
      have H4 := Lib.hid hr4.row
      have HB4 := Lib.hid (row_more HB1.out HBx.out HR1.out hr4)
      clear hr4
      go_wp2_with fail
      go_meet
      exact ⟨HB4, Lib.hid (by rw [HH.out, List.length_append, List.map_append]; exact H4.out)⟩
  case rest =>
  obtain ⟨HB2, HR2⟩ := hcut
  clear dn dp HB1 HR1
  have dn := (HB2.out.cell (p := ⟨w.heap.size, 0, none⟩) hl0).trans HD.out.1
  have hlen2 : (hd1 lcp acfc ++ hd2 n lcp pfc).length ≤ 3 := by
    rw [List.length_append]
    have : (hd2 n lcp pfc).length ≤ 1 := by unfold hd2; split <;> simp
    omega
  obtain ⟨H2, hH2⟩ : ∃ H2, H2 = hd1 lcp acfc ++ hd2 n lcp pfc := ⟨_, rfl⟩
  have HH2 := Lib.hid hH2.symm
  rw [← hH2] at HR2 hlen2
  clear hH2
  have hwb := wrap_bt n
  have hwb2 : n % 256 = v8 (bt n) := by rw [← hwb]; simp [IntKind.wrap, IntKind.bits, IntKind.signed]
  have hb1 : Below wc.heap.size wc (wc.alloc (.cells #[.int .u8 (v8 (bt n))] 5)) := (Below.refl _ wc).alloc (Nat.le_refl _) _
  have HBx := Lib.hid hb1
  have hz1 := Nat.le_trans HB2.out.size hb1.size
  have HR0 := Lib.hid (HR2.out.below hb1)
  clear hb1
  have s1 : H2.length + 1 ≤ maxLen := by unfold maxLen; omega
  go_wp2_with (at_builtin; refine wpList_row elB rfl _ _ rfl W0.heap.size _ _ _ rfl HR0.out _ 1 _ rfl (src_one wc (.int .u8 (v8 (bt n))) 5 rfl) s1 (by omega) hz1 ?_)
  intro v4 w4 hr4
  have H4 := Lib.hid hr4.row
  have HB4 := Lib.hid (row_more HB2.out HBx.out HR2.out hr4)
  have dv4 := (HB4.out.cell (p := ⟨w.heap.size, 1, none⟩) hl0).trans HD.out.2.1
  have hz4 := HB4.out.size
  have HI4 := Lib.hid ((HI.out.below HB.out).below HB4.out)
  have hsrc := Lib.hid HI4.out.src
  clear hr4 dn HR0 HBx
  have s4 : H2.length + 1 + info.length ≤ maxLen := by unfold maxLen; omega
  have s5 : (H2.length + 1 + info.length) * 1 ≤ 140737488355328 := by omega
  go_wp2_with (at_builtin; refine wpList_row elB rfl _ _ rfl W0.heap.size _ _ _ rfl H4.out _ _ _ rfl hsrc.out s4 s5 hz4 ?_)
  intro v5 w5 hr5
  have HB5 := Lib.hid (row_more HB4.out (Below.refl _ w4) H4.out hr5)
  have H5 : Hid (RowB w5 v5 (H2 ++ [bt n] ++ info)) := Lib.hid (by
    have h8 := hr5.row.weak (Nat.zero_le _)
    rw [show H2.length + 1 + info.length = H2.length + (info.length + 1) by omega] at h8
    simpa [RowB, b8] using h8)
  have hl5 : (H2 ++ [bt n] ++ info).length ≤ 140737488351232 := by simp; omega
  have hP := Lib.hid (put16 _ v5 w5 H5.out.bytes hl5)
  clear hr5 dv4 hsrc H4
  go_wp2_with fail
  refine hP.out.mono ?_
  rintro e w6 ⟨u, rfl, ho, hb6⟩
  have H6 := Lib.hid ho
  have HB6 := Lib.hid (below_then HB.out (below_then HB5.out hb6))
  have hz6 := Nat.le_trans HB.out.size (HB5.out.size)
  clear ho hb6 hP
  go_wp2_with fail
  go_ret2
  refine ⟨u, rfl, ?_, HB6.out⟩
  have hbare : bareL n ⟨accm, pfc, acfc⟩ info = H2 ++ [bt n] ++ info := by
    unfold bareL
    rw [← HLCP.out, HH2.out]
  rw [hbare]
  have h7 := (row_of_own H6.out).weak hz6
  unfold sumL
  have hsb : (sb ((s16 (H2 ++ [bt n] ++ info)).setWidth 32) 2).length = 2 := by simp [sb]
  rw [List.length_append (bs := sb _ 2), hsb]
  exact h7
end Go.Proofs.Ytedhldcoddbbdaa.F
