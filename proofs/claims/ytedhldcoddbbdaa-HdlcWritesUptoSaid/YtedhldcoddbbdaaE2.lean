import Derived.Test.YtedhldcoddbbdaaVA
set_option linter.unusedVariables false
set_option linter.unusedSimpArgs false
set_option linter.unnecessarySimpa false
namespace Go.Proofs.Ytedhldcoddbbdaa.F
open Go.RowKit Go.Proofs.Ytedhldcoddbbdaa.K
theorem rbody_bad (n : Int) (s : Sn) (info : List (BitVec 8)) (v : Value) (w : World) (h : BytesAt w v info) (he : bodyE n s info ≠ 0) : Calls Try.prog 15 #[.agg #[.int .i64 n, v], s.val] w fun e w' => e = .returned (.tuple #[.slice none 0 0, .int .i64 (bodyE n s info)]) ∧ Below w.heap.size w w' := by
  obtain ⟨A, cap, rfl, k1, k2, -, -⟩ := h.at_
  obtain ⟨accm, pfc, acfc⟩ := s
  unfold Sn.val
  unfold maxLen at k2
  clear h
  have HP := Lib.hid (fun W => proto39 n W)
  have HM := Lib.hid (fun W => map25 accm W)
  have hb : Below w.heap.size w ((w.alloc (.cells #[.int .i64 n, .slice A info.length cap] 24)).alloc (.cells #[.int .i64 accm, .bool pfc, .bool acfc] 26)) := ((Below.refl _ w).alloc (Nat.le_refl _) _).alloc (by simp) _
  have HB := Lib.hid hb
  clear hb
  unfold bodyE at *
  cases hp : protoB n
  · rw [hp] at HP he
    simp only [if_neg (show ¬ (false = true) by decide)]
    clear he
    go_enter Try.func15, Try.ntmps15
    go_wp2_with fail
    refine (HP.out _).mono ?_
    rintro e w1 ⟨rfl, rfl⟩
    go_wp2_with fail
    go_ret2
    exact ⟨rfl, HB.out⟩
  · rw [hp] at HP he
    simp only [if_true] at he ⊢
    by_cases hl : 16384 < info.length
    · rw [if_pos hl]
      have hl2 : (16384 : Int) < (info.length : Int) := by omega
      clear he
      go_enter Try.func15, Try.ntmps15
      go_wp2_with fail
      refine (HP.out _).mono ?_
      rintro e w1 ⟨rfl, rfl⟩
      go_wp2_with fail
      go_ret2
      exact ⟨rfl, HB.out⟩
    · have hl2 : ¬ (16384 : Int) < (info.length : Int) := by omega
      rw [if_neg hl] at he ⊢
      cases hm : mapB accm
      · rw [hm] at HM
        simp only [if_neg (show ¬ (false = true) by decide)]
        clear he
        go_enter Try.func15, Try.ntmps15
        go_wp2_with fail
        refine (HP.out _).mono ?_
        rintro e w1 ⟨rfl, rfl⟩
        go_wp2_with fail
        refine (HM.out _).mono ?_
        rintro e w1 ⟨rfl, rfl⟩
        go_wp2_with fail
        go_ret2
        exact ⟨rfl, HB.out⟩
      · rw [hm] at he
        simp at he
set_option maxHeartbeats 4000000 in
set_option maxRecDepth 100000 in
theorem rbody15 (n : Int) (s : Sn) (info : List (BitVec 8)) (v : Value) (w : World) (h : BytesAt w v info) (he : bodyE n s info = 0) : Calls Try.prog 15 #[.agg #[.int .i64 n, v], s.val] w (BodyR n s info w) := by
  have HI := Lib.hid h
  obtain ⟨A, cap, rfl, k1, k2, -, -⟩ := h.at_
  obtain ⟨accm, pfc, acfc⟩ := s
  unfold Sn.val
  unfold maxLen at k2
  clear h
  have hall : protoB n = true ∧ info.length ≤ 16384 ∧ mapB accm = true := by
    unfold bodyE at he
    split at he
    · rename_i hp
      split at he
      · omega
      · rename_i hl
        split at he
        · rename_i hm
          exact ⟨hp, by omega, hm⟩
        · omega
    · omega
  obtain ⟨hp, hl, hm⟩ := hall
  have HP := Lib.hid (fun W => proto39 n W)
  have HM := Lib.hid (fun W => map25 accm W)
  rw [hp] at HP
  rw [hm] at HM
  have hpn : 1 ≤ n ∧ n ≤ 65535 := by unfold protoB at hp; simp at hp; omega
  have hl2 : ¬ (16384 : Int) < (info.length : Int) := by omega
  have hb : Below w.heap.size w ((w.alloc (.cells #[.int .i64 n, .slice A info.length cap] 24)).alloc (.cells #[.int .i64 accm, .bool pfc, .bool acfc] 26)) := ((Below.refl _ w).alloc (Nat.le_refl _) _).alloc (by simp) _
  have HB := Lib.hid hb
  have hf1 : ((w.alloc (.cells #[.int .i64 n, .slice A info.length cap] 24)).alloc (.cells #[.int .i64 accm, .bool pfc, .bool acfc] 26)).heap[w.heap.size]? = some (.cells #[.int .i64 n, .slice A info.length cap] 24 (0, 0)) := by
    rw [Below.heap_alloc _ _ _ (by simp)]
    exact heap_alloc_new w _
  have hf2 : ((w.alloc (.cells #[.int .i64 n, .slice A info.length cap] 24)).alloc (.cells #[.int .i64 accm, .bool pfc, .bool acfc] 26)).heap[w.heap.size + 1]? = some (.cells #[.int .i64 accm, .bool pfc, .bool acfc] 26 (0, 0)) := by
    have := heap_alloc_new (w.alloc (.cells #[.int .i64 n, .slice A info.length cap] 24)) (.cells #[.int .i64 accm, .bool pfc, .bool acfc] 26)
    simpa using this
  have HF1 := Lib.hid hf1
  have HF2 := Lib.hid hf2
  clear hb hp hm he hf1 hf2
  go_enter Try.func15, Try.ntmps15
  go_wp2_with fail
  refine (HP.out _).mono ?_
  rintro e w1 ⟨rfl, rfl⟩
  go_wp2_with fail
  refine (HM.out _).mono ?_
  rintro e w1 ⟨rfl, rfl⟩
  go_upto_region 9 with fail
  generalize ((w.alloc (.cells #[.int .i64 n, .slice A info.length cap] 24)).alloc (.cells #[.int .i64 accm, .bool pfc, .bool acfc] 26)) = W0 at *
  have hl0 := (Array.getElem?_eq_some_iff.1 HF1.out).1
  have hl1 := (Array.getElem?_eq_some_iff.1 HF2.out).1
  have hlc : (n == 49185) = lcpB n := by unfold lcpB; rw [Bool.eq_iff_iff]; simp
  rw [hlc]
  obtain ⟨lcp, hlcp⟩ : ∃ lcp, lcp = lcpB n := ⟨_, rfl⟩
  have HLCP := Lib.hid hlcp
  rw [← hlcp]
  clear hlc hlcp
  have dn : W0.cell? ⟨w.heap.size, 0, none⟩ = some (.int .i64 n) := (cell_of_row _ _ _ _ _ _ HF1.out).trans rfl
  have dv : W0.cell? ⟨w.heap.size, 1, none⟩ = some (.slice A info.length cap) := (cell_of_row _ _ _ _ _ _ HF1.out).trans rfl
  have dp : W0.cell? ⟨w.heap.size + 1, 1, none⟩ = some (.bool pfc) := (cell_of_row _ _ _ _ _ _ HF2.out).trans rfl
  have da : W0.cell? ⟨w.heap.size + 1, 2, none⟩ = some (.bool acfc) := (cell_of_row _ _ _ _ _ _ HF2.out).trans rfl
  have HD := Lib.hid (And.intro dn (And.intro dv (And.intro dp da)))
  go_cut [29] (fun s wx => s = .bool (lcp || !acfc) ∧ W0 = wx)
  case first =>
    cases lcp
    · go_wp2_with fail
      go_meet
      exact ⟨by simp, rfl⟩
    · go_wp2_with fail
      go_meet
      exact ⟨by simp, rfl⟩
  case rest =>
  obtain ⟨rfl, rfl⟩ := hcut
  go_upto_if 29 with fail
  go_cut [6] (fun v wx => Hid (Below W0.heap.size W0 wx) ∧ Hid (Row wx W0.heap.size 5 1 v (hd1 lcp acfc).length ((hd1 lcp acfc).map b8)))
  case first =>
    cases hb : (lcp || !acfc)
    · have HH := Lib.hid (show hd1 lcp acfc = [] by unfold hd1; rw [hb]; rfl)
      clear hb
      go_wp2_with fail
      go_meet
      exact ⟨Lib.hid (Below.refl _ _), Lib.hid (by rw [HH.out]; exact Row.nil _ _ _ _)⟩
    · have HH := Lib.hid (show hd1 lcp acfc = [255#8, 3#8] by unfold hd1; rw [hb]; rfl)
      clear hb
      have hb1 : Below W0.heap.size W0 (W0.alloc (.cells #[.int .u8 255, .int .u8 3] 5)) := (Below.refl _ W0).alloc (Nat.le_refl _) _
      have HB1 := Lib.hid hb1
      have hz1 := hb1.size
      have HR0 := Lib.hid (Row.nil (W0.alloc (.cells #[.int .u8 255, .int .u8 3] 5)) W0.heap.size 5 1)
      clear hb1
      have s1 : 0 + 2 ≤ maxLen := by unfold maxLen; omega
      go_wp2_with (at_builtin; refine wpList_row elB rfl _ _ rfl W0.heap.size _ _ _ rfl HR0.out _ 2 _ rfl (src_two W0 (.int .u8 255) (.int .u8 3) 5 rfl rfl) s1 (by omega) hz1 ?_)
      intro v4 w4 hr4
      have H4 := Lib.hid hr4.row
      have HB4 := Lib.hid (row_more (Below.refl _ W0) HB1.out (Row.nil _ _ _ _) hr4)
      clear hr4
      go_wp2_with fail
      go_meet
      exact ⟨HB4, Lib.hid (by rw [HH.out]; exact H4.out)⟩
  case rest =>
  obtain ⟨HB1, HR1⟩ := hcut
  clear dn dv dp da
  have dn := (HB1.out.cell (p := ⟨w.heap.size, 0, none⟩) hl0).trans HD.out.1
  have dp := (HB1.out.cell (p := ⟨w.heap.size + 1, 1, none⟩) hl1).trans HD.out.2.2.1
  go_upto_region 11 with fail
  go_cut [43] (fun s wx => s = .bool (lcp || (!pfc || decide (255 < n))) ∧ wc = wx)
  case first =>
    cases lcp
    · cases pfc
      · go_wp2_with fail
        go_meet
        exact ⟨by simp, rfl⟩
      · by_cases h255 : 255 < n
        · go_wp2_with fail
          go_meet
          exact ⟨by simp [h255], rfl⟩
        · go_wp2_with fail
          go_meet
          exact ⟨by simp; omega, rfl⟩
    · go_wp2_with fail
      go_meet
      exact ⟨by simp, rfl⟩
  case rest =>
  obtain ⟨rfl, rfl⟩ := hcut
  go_upto_if 43 with fail
  have hlen1 : (hd1 lcp acfc).length ≤ 2 := by unfold hd1; split <;> simp
  go_cut [6] (fun v wx => Hid (Below W0.heap.size W0 wx) ∧ Hid (Row wx W0.heap.size 5 1 v (hd1 lcp acfc ++ hd2 n lcp pfc).length ((hd1 lcp acfc ++ hd2 n lcp pfc).map b8)))
  case first =>
    cases hb : (lcp || (!pfc || decide (255 < n)))
    · have HH := Lib.hid (show hd2 n lcp pfc = [] by unfold hd2; rw [hb]; rfl)
      clear hb
      go_wp2_with fail
      go_meet
      exact ⟨HB1, Lib.hid (by rw [HH.out, List.append_nil]; exact HR1.out)⟩
    · have HH := Lib.hid (show hd2 n lcp pfc = [bt (n / 256)] by unfold hd2; rw [hb]; rfl)
      clear hb
      have hwb := wrap_bt (n / 256)
      have hb1 : Below wc.heap.size wc (wc.alloc (.cells #[.int .u8 (v8 (bt (n / 256)))] 5)) := (Below.refl _ wc).alloc (Nat.le_refl _) _
      have HBx := Lib.hid hb1
      have hz1 := Nat.le_trans HB1.out.size hb1.size
      have HR0 := Lib.hid (HR1.out.below hb1)
      clear hb1
      have s1 : (hd1 lcp acfc).length + 1 ≤ maxLen := by unfold maxLen; omega
      have hwb2 : n / 256 % 256 = v8 (bt (n / 256)) := by rw [← hwb]; simp [IntKind.wrap, IntKind.bits, IntKind.signed]
      have t1 : n.tdiv 256 = n / 256 := Int.tdiv_eq_ediv_of_nonneg (by omega)
      have t2 : IntKind.i64.wrap (n / 256) = n / 256 := IntWalk.i64_in _ (by omega)
      go_wp2_with (at_builtin; refine wpList_row elB rfl _ _ rfl W0.heap.size _ _ _ rfl HR0.out _ 1 _ rfl (src_one wc (.int .u8 (v8 (bt (n / 256)))) 5 rfl) s1 (by omega) hz1 ?_)
      intro v4 w4 hr4
      have H4 := Lib.hid hr4.row
      have HB4 := Lib.hid (row_more HB1.out HBx.out HR1.out hr4)
      clear hr4
      go_wp2_with fail
      go_meet
      exact ⟨HB4, Lib.hid (by rw [HH.out, List.length_append, List.map_append]; exact H4.out)⟩
  case rest =>
  obtain ⟨HB2, HR2⟩ := hcut
  clear dn dp HB1 HR1
  have dn := (HB2.out.cell (p := ⟨w.heap.size, 0, none⟩) hl0).trans HD.out.1
  have hlen2 : (hd1 lcp acfc ++ hd2 n lcp pfc).length ≤ 3 := by
    rw [List.length_append]
    have : (hd2 n lcp pfc).length ≤ 1 := by unfold hd2; split <;> simp
    omega
  obtain ⟨H2, hH2⟩ : ∃ H2, H2 = hd1 lcp acfc ++ hd2 n lcp pfc := ⟨_, rfl⟩
  have HH2 := Lib.hid hH2.symm
  rw [← hH2] at HR2 hlen2
  clear hH2
  have hwb := wrap_bt n
  have hwb2 : n % 256 = v8 (bt n) := by rw [← hwb]; simp [IntKind.wrap, IntKind.bits, IntKind.signed]
  have t3 : n.tmod 256 = v8 (bt n) := by rw [Int.tmod_eq_emod_of_nonneg (by omega), hwb2]
  have n3 : ∀ c : BitVec 8, IntKind.u8.wrap (v8 c) = v8 c := fun c => by have := v8_range c; simp [IntKind.wrap, IntKind.bits, IntKind.signed]; omega
  have hb1 : Below wc.heap.size wc (wc.alloc (.cells #[.int .u8 (v8 (bt n))] 5)) := (Below.refl _ wc).alloc (Nat.le_refl _) _
  have HBx := Lib.hid hb1
  have hz1 := Nat.le_trans HB2.out.size hb1.size
  have HR0 := Lib.hid (HR2.out.below hb1)
  clear hb1
  have s1 : H2.length + 1 ≤ maxLen := by unfold maxLen; omega
  go_wp2_with (at_builtin; refine wpList_row elB rfl _ _ rfl W0.heap.size _ _ _ rfl HR0.out _ 1 _ rfl (src_one wc (.int .u8 (v8 (bt n))) 5 rfl) s1 (by omega) hz1 ?_)
  intro v4 w4 hr4
  have H4 := Lib.hid hr4.row
  have HB4 := Lib.hid (row_more HB2.out HBx.out HR2.out hr4)
  have dv4 := (HB4.out.cell (p := ⟨w.heap.size, 1, none⟩) hl0).trans HD.out.2.1
  have hz4 := HB4.out.size
  have HI4 := Lib.hid ((HI.out.below HB.out).below HB4.out)
  have hsrc := Lib.hid HI4.out.src
  clear hr4 dn HR0 HBx
  have s4 : H2.length + 1 + info.length ≤ maxLen := by unfold maxLen; omega
  have s5 : (H2.length + 1 + info.length) * 1 ≤ 140737488355328 := by omega
  go_wp2_with (at_builtin; refine wpList_row elB rfl _ _ rfl W0.heap.size _ _ _ rfl H4.out _ _ _ rfl hsrc.out s4 s5 hz4 ?_)
  intro v5 w5 hr5
  have HB5 := Lib.hid (row_more HB4.out (Below.refl _ w4) H4.out hr5)
  have H5 : Hid (RowB w5 v5 (H2 ++ [bt n] ++ info)) := Lib.hid (by
    have h8 := hr5.row.weak (Nat.zero_le _)
    rw [show H2.length + 1 + info.length = H2.length + (info.length + 1) by omega] at h8
    simpa [RowB, b8] using h8)
  have hl5 : (H2 ++ [bt n] ++ info).length ≤ 140737488351232 := by simp; omega
  have hz5 := HB5.out.size
  obtain ⟨A5, c5, hv5, -, -⟩ := Row.slice hr5.row
  subst hv5
  have hbare : bareL n ⟨accm, pfc, acfc⟩ info = H2 ++ [bt n] ++ info := by
    unfold bareL
    rw [← HLCP.out, HH2.out]
  have HBA := Lib.hid hbare
  have HL5 := Lib.hid (show (H2 ++ [bt n] ++ info).length = H2.length + 1 + info.length by simp; omega)
  have hP := Lib.hid (sum40 _ _ w5 H5.out.bytes)
  have H5r := Lib.hid (show Row w5 W0.heap.size 5 1 (.slice A5 (H2.length + 1 + info.length) c5) (H2.length + 1 + info.length) ((H2 ++ [bt n] ++ info).map b8) by
    have h8 := hr5.row
    simpa [b8] using h8)
  clear hr5 dv4 hsrc H4 hbare hl5
  generalize H2 ++ [bt n] ++ info = BL at *
  go_wp2_with fail
  refine hP.out.mono ?_
  rintro e w6 ⟨rfl, rfl⟩
  generalize hS : s16 BL = S at *
  have HS := Lib.hid hS
  clear hS hP
  have n1 : (v16 S).tmod 256 = v8 (S.setWidth 8) := by
    rw [Int.tmod_eq_emod_of_nonneg (v16_range S).1]
    simp only [v16, v8, BitVec.toNat_setWidth]
    omega
  have n2 : (v16 S).tdiv 256 = v8 ((S >>> 8).setWidth 8) := by
    rw [Int.tdiv_eq_ediv_of_nonneg (v16_range S).1]
    simp only [v16, v8, BitVec.toNat_setWidth, BitVec.toNat_ushiftRight, Nat.shiftRight_eq_div_pow]
    have := S.isLt
    omega
  have n4 : ∀ c : BitVec 8, IntKind.u16.wrap (v8 c) = v8 c := fun c => by have := v8_range c; simp [IntKind.wrap, IntKind.bits, IntKind.signed]; omega
  have hsb : sb (S.setWidth 32) 2 = [S.setWidth 8, (S >>> 8).setWidth 8] := by
    show [((S.setWidth 32) >>> 0).setWidth 8, ((S.setWidth 32) >>> 8).setWidth 8] = _
    congr 1
  have HSB := Lib.hid hsb
  clear hsb
  generalize S.setWidth 8 = lo at *
  generalize (S >>> 8).setWidth 8 = hi at *
  have hb7 : Below w5.heap.size w5 (w5.alloc (.cells #[.int .u8 (v8 lo), .int .u8 (v8 hi)] 5)) := (Below.refl _ w5).alloc (Nat.le_refl _) _
  have HB7 := Lib.hid hb7
  have HR7 := Lib.hid (H5r.out.below hb7)
  have hz7 : W0.heap.size ≤ (w5.alloc (.cells #[.int .u8 (v8 lo), .int .u8 (v8 hi)] 5)).heap.size := Nat.le_trans hz5 hb7.size
  have s6 : H2.length + 1 + info.length + 2 ≤ maxLen := by unfold maxLen; omega
  have s7 : (H2.length + 1 + info.length + 2) * 1 ≤ 140737488355328 := by omega
  clear hb7
  go_wp2_with (at_builtin; refine wpList_row elB rfl _ _ rfl W0.heap.size _ _ _ rfl HR7.out _ 2 _ rfl (src_two w5 (.int .u8 (v8 lo)) (.int .u8 (v8 hi)) 5 rfl rfl) s6 s7 hz7 ?_)
  intro v8' w8 hr8
  have HB8 := Lib.hid (below_then HB.out (row_more HB5.out HB7.out H5r.out hr8))
  have H8 := Lib.hid hr8.row
  have hz0 := HB.out.size
  clear hr8 HR7
  go_wp2_with fail
  go_ret2
  refine ⟨v8', rfl, ?_, HB8.out⟩
  rw [HBA.out]
  unfold sumL
  rw [HS.out, HSB.out, List.length_append, List.map_append, HL5.out]
  exact H8.out.weak hz0
end Go.Proofs.Ytedhldcoddbbdaa.F
