import Derived.Test.YtedhldcoddbbdaaVA
set_option linter.unusedVariables false
set_option linter.unusedSimpArgs false
set_option linter.unnecessarySimpa false
namespace Go.Proofs.Ytedhldcoddbbdaa.F
open Go.RowKit Go.Proofs.Ytedhldcoddbbdaa.K
theorem resc_bad (a : Int) (v : Value) (w : World) (h : mapB a = false) : Calls Try.prog 17 #[v, .int .i64 a] w fun e w' => e = .returned (.tuple #[.slice none 0 0, .int .i64 1]) ∧ w = w' := by
  have HR := Lib.hid (map25 a w)
  rw [h] at HR
  go_enter Try.func17, Try.ntmps17
  go_wp2_with fail
  refine HR.out.mono ?_
  rintro e w1 ⟨rfl, rfl⟩
  go_wp2_with fail
  go_ret2
  exact ⟨rfl, rfl⟩
set_option maxHeartbeats 4000000 in
set_option maxRecDepth 100000 in
theorem rescape17 (a : Int) (l : List (BitVec 8)) (v : Value) (w : World) (hm : mapB a = true) (h : BytesAt w v l) (hl : 2 * l.length + 8 ≤ 140737488351232) : Calls Try.prog 17 #[v, .int .i64 a] w (EscR a l w) := by
  have HB := Lib.hid h
  obtain ⟨A, cap, rfl, k1, k2, -, -⟩ := h.at_
  unfold maxLen at k2
  have HR := Lib.hid (map25 a w)
  rw [hm] at HR
  have hm2 := hm
  unfold mapB at hm2
  simp only [Bool.and_eq_true, decide_eq_true_eq] at hm2
  obtain ⟨ha0, ha1⟩ := hm2
  have H00 := Lib.hid (Row.nil w w.heap.size 5 1)
  have HR00 := Lib.hid (Below.refl w.heap.size w)
  clear h hm
  go_enter Try.func17, Try.ntmps17
  go_wp2_with fail
  refine HR.out.mono ?_
  rintro e w1 ⟨rfl, rfl⟩
  go_wp2_with fail
  go_loopw [6, 7] (fun ov i wr => ∃ (k : Nat), k ≤ l.length ∧ i = .int .i64 k ∧ Hid (Below w.heap.size w wr) ∧ Hid (Row wr w.heap.size 5 1 ov (escL a (l.take k)).length ((escL a (l.take k)).map b8))) (fun _ i _ => l.length - (intOf i).toNat)
  case atStart => exact ⟨0, by omega, rfl, HR00, H00⟩
  case round =>
    clear HR00 H00
    obtain ⟨k, hk, rfl, HBr, HO⟩ := hrel
    by_cases hkl : k < l.length
    · obtain ⟨bk, o, rfl, d0⟩ := BytesAt.get (HB.out.below HBr.out) hkl
      have HS := Lib.hid (show escL a (l.take (k + 1)) = escL a (l.take k) ++ esc1 a l[k] by rw [List.take_succ_eq_append_getElem hkl, escL_snoc])
      have hlen := escL_len a (l.take k)
      rw [List.length_take] at hlen
      generalize l[k] = c at *
      have i0 : (0 : Int) ≤ (k : Int) := by omega
      have i1 : (k : Int) < (l.length : Int) := by omega
      have hv := v8_range c
      have hx := xor8 c 32#8
      rw [show v8 32#8 = 32 from rfl] at hx
      have hbs := HBr.out.size
      go_upto_region 8 with fail
      go_cut [39] (fun s wx => s = .bool (mk a c.toNat) ∧ wr = wx)
      case first =>
        have hto : (v8 c).toNat = c.toNat := by unfold v8; omega
        have hc32 : v8 c < 32 ↔ c.toNat < 32 := by unfold v8; omega
        have hwu : IntKind.u64.wrap (v8 c) = v8 c := by simp [IntKind.wrap, IntKind.bits, IntKind.signed]; omega
        by_cases h125 : c = 125#8
        · have HM : Hid (mk a c.toNat = true) := Lib.hid (by subst h125; unfold mk; simp)
          have z : (v8 c == 125) = true := by rw [h125]; rfl
          clear h125 hc32
          go_wp2_with fail
          go_meet
          exact ⟨by rw [HM.out], rfl⟩
        by_cases h126 : c = 126#8
        · have HM : Hid (mk a c.toNat = true) := Lib.hid (by subst h126; unfold mk; simp)
          have z : (v8 c == 125) = false := v8_ne (b := 125#8) h125
          have z2 : (v8 c == 126) = true := by rw [h126]; rfl
          clear h125 h126 hc32
          go_wp2_with fail
          go_meet
          exact ⟨by rw [HM.out], rfl⟩
        have z : (v8 c == 125) = false := v8_ne (b := 125#8) h125
        have z2 : (v8 c == 126) = false := v8_ne (b := 126#8) h126
        have hmk : mk a c.toNat = (decide (c.toNat < 32) && bitB a c.toNat) := by
          unfold mk
          have q1 : ¬ c.toNat = 125 := fun e => h125 (BitVec.eq_of_toNat_eq e)
          have q2 : ¬ c.toNat = 126 := fun e => h126 (BitVec.eq_of_toNat_eq e)
          simp [q1, q2]
        by_cases h32 : v8 c < 32
        · have a1 := and1 (a / 2 ^ c.toNat) (Int.ediv_nonneg ha0 (by exact Int.le_of_lt (Int.pow_pos (by omega)))) (Int.le_trans (Int.ediv_le_self _ ha0) (by omega))
          have hzb : (a / 2 ^ c.toNat % 2 == 1) = bitB a c.toNat := by unfold bitB; rw [Bool.eq_iff_iff]; simp
          have HM : Hid (mk a c.toNat = bitB a c.toNat) := Lib.hid (by rw [hmk, decide_eq_true (hc32.1 h32), Bool.true_and])
          generalize bitB a c.toNat = dd at *
          clear h125 h126 hmk hc32
          cases dd
          · go_wp2_with fail
            go_meet
            exact ⟨by rw [HM.out], rfl⟩
          · go_wp2_with fail
            go_meet
            exact ⟨by rw [HM.out], rfl⟩
        · have HM : Hid (mk a c.toNat = false) := Lib.hid (by rw [hmk, decide_eq_false (fun e => h32 (hc32.2 e)), Bool.false_and])
          clear h125 h126 hmk hc32
          go_wp2_with fail
          go_meet
          exact ⟨by rw [HM.out], rfl⟩
      case rest =>
      obtain ⟨rfl, rfl⟩ := hcut
      cases hmc : mk a c.toNat
      · have HS2 := Lib.hid (show esc1 a c = [c] by unfold esc1; rw [hmc]; rfl)
        clear hmc
        have hb1 : Below wr.heap.size wr (wr.alloc (.cells #[.int .u8 (v8 c)] 5)) := (Below.refl _ wr).alloc (Nat.le_refl _) _
        have HBa := Lib.hid hb1
        have HOa := Lib.hid (HO.out.below hb1)
        have hbs2 : w.heap.size ≤ (wr.alloc (.cells #[.int .u8 (v8 c)] 5)).heap.size := Nat.le_trans hbs hb1.size
        clear hb1
        have s1 : (escL a (l.take k)).length + 1 ≤ maxLen := by unfold maxLen; omega
        have s2 : ((escL a (l.take k)).length + 1) * 1 ≤ 140737488355328 := by omega
        go_wp2_with (at_builtin; refine wpList_row elB rfl _ _ rfl w.heap.size _ _ _ rfl HOa.out _ 1 _ rfl (src_one wr (.int .u8 (v8 c)) 5 rfl) s1 s2 hbs2 ?_)
        intro v4 w4 hr4
        have H4 := Lib.hid hr4.row
        have HB4 := Lib.hid (row_more HBr.out HBa.out HO.out hr4)
        clear hr4 HOa HBa HO HBr
        go_wp2_with fail
        go_roundw
        case rel => exact ⟨k + 1, by omega, by go_num, HB4, Lib.hid (by rw [HS.out, HS2.out, List.length_append, List.map_append]; exact H4.out)⟩
        case measure => simp [intOf]; omega
      · have HS2 := Lib.hid (show esc1 a c = [125#8, c ^^^ 32#8] by unfold esc1; rw [hmc]; rfl)
        clear hmc
        have hb1 : Below wr.heap.size wr (wr.alloc (.cells #[.int .u8 125, .int .u8 (v8 (c ^^^ 32#8))] 5)) := (Below.refl _ wr).alloc (Nat.le_refl _) _
        have HBa := Lib.hid hb1
        have HOa := Lib.hid (HO.out.below hb1)
        have hbs2 : w.heap.size ≤ (wr.alloc (.cells #[.int .u8 125, .int .u8 (v8 (c ^^^ 32#8))] 5)).heap.size := Nat.le_trans hbs hb1.size
        clear hb1
        have s1 : (escL a (l.take k)).length + 2 ≤ maxLen := by unfold maxLen; omega
        have s2 : ((escL a (l.take k)).length + 2) * 1 ≤ 140737488355328 := by omega
        go_wp2_with (at_builtin; refine wpList_row elB rfl _ _ rfl w.heap.size _ _ _ rfl HOa.out _ 2 _ rfl (src_two wr (.int .u8 125) (.int .u8 (v8 (c ^^^ 32#8))) 5 rfl rfl) s1 s2 hbs2 ?_)
        intro v4 w4 hr4
        have H4 := Lib.hid hr4.row
        have HB4 := Lib.hid (row_more HBr.out HBa.out HO.out hr4)
        clear hr4 HOa HBa HO HBr
        go_wp2_with fail
        go_roundw
        case rel => exact ⟨k + 1, by omega, by go_num, HB4, Lib.hid (by rw [HS.out, HS2.out, List.length_append, List.map_append]; exact H4.out)⟩
        case measure => simp [intOf]; omega
    · obtain rfl : k = l.length := by omega
      have i1 : ¬ (l.length : Int) < (l.length : Int) := by omega
      go_wp2_with fail
      go_ret2
      exact ⟨_, rfl, by have := HO.out; rwa [List.take_length] at this, HBr.out⟩
end Go.Proofs.Ytedhldcoddbbdaa.F
