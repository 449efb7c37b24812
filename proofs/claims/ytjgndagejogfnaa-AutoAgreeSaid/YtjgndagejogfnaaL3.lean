import Derived.Test.YtjgndagejogfnaaL2
set_option linter.unusedVariables false
set_option linter.unusedSimpArgs false
namespace Go.Proofs.Ytjgndagejogfnaa.F
open Go.RowKit Go.Proofs.Ytjgndagejogfnaa.K
theorem sends_succ (l : List Int) (k : Nat) (hk : k < l.length) : sends (l.take (k + 1)) = sends (l.take k) ++ (send1 l[k]).toList := by
  unfold sends
  rw [List.take_succ_eq_append_getElem hk, List.filterMap_append]
  cases h : send1 l[k] <;> simp [List.filterMap_cons, h]
theorem sends_len (l : List Int) (k : Nat) : (sends (l.take k)).length ≤ k := by
  unfold sends
  have := List.length_filterMap_le send1 (l.take k)
  have h2 := List.length_take_le k l
  omega
structure SendsR (l : List Int) (w : World) (e : Ending) (w' : World) : Prop where
  ret : ∃ v, e = .returned v ∧ Own w.heap.size w' v (sends l)
  bel : Below w.heap.size w w'
set_option maxHeartbeats 2000000 in
theorem sends24 (l : List Int) (v : Value) (w : World) (h : IntsAt w v l) (hl : l.length ≤ 17592186043904) : Calls Try.prog 24 #[v] w (SendsR l w) := by
  obtain ⟨A, ca, rfl, k1, k2, k3, k4⟩ := h
  unfold maxLen at k2
  go_enter Try.func24, Try.ntmps24
  go_wp2
  go_loopw [3, 5, 8] (fun o _ i wr => ∃ k : Nat, k ≤ l.length ∧ i = .int .i64 k ∧ Hid (Own w.heap.size wr o (sends (l.take k))) ∧ Below w.heap.size w wr) (fun _ _ i _ => l.length - (intOf i).toNat)
  case atStart => exact ⟨0, by omega, rfl, Lib.hid (own_nil _ _), Below.refl _ _⟩
  case round =>
    obtain ⟨k, hk, rfl, ho, hB⟩ := hrel
    by_cases hlt : k < l.length
    · obtain ⟨ad, rfl⟩ := some_of k3 hlt
      obtain ⟨ba, oa, rfl, c1⟩ := k4 ad rfl k hlt
      have c1' := (hB.cell (World.block_lt_of_cell? w _ c1)).trans c1
      have hi0 : (0 : Int) ≤ (k : Int) := by omega
      have hi1 : (k : Int) < (l.length : Int) := by omega
      have hsl := sends_len l k
      have hss := Lib.hid (sends_succ l k hlt)
      have hBs := hB.size
      clear k3 k4 c1
      obtain ⟨x, hx⟩ : ∃ x, x = l[k] := ⟨_, rfl⟩
      rw [← hx] at c1' hss
      clear hx
      have hcase : x = 7 ∨ x = 8 ∨ x = 9 ∨ x = 10 ∨ x = 11 ∨ x = 12 ∨ x = 13 ∨ (x ≠ 7 ∧ x ≠ 8 ∧ x ≠ 9 ∧ x ≠ 10 ∧ x ≠ 11 ∧ x ≠ 12 ∧ x ≠ 13) := by omega
      rcases hcase with rfl | rfl | rfl | rfl | rfl | rfl | rfl | ⟨n7, n8, n9, n10, n11, n12, n13⟩
      · have hss2 : Hid (sends (l.take (k + 1)) = sends (l.take k) ++ [1]) := hss
        clear hss
        have ho1 := ho.out
        unfold Own at ho1
        have ho2 := World.ownsRow.alloc ho1 (.cells #[.int .i64 1] 3)
        have hl2 : (sends (l.take k)).length = (sends (l.take k)).length := rfl
        clear ho1
        generalize sends (l.take k) = L at *
        clear hl2
        go_wp2_with (at_builtin; refine wpList_app elI rfl _ _ rfl w.heap.size _ _ _ rfl ho2 _ _ _ rfl (src_one _ _ _ rfl) (by simp [maxLen]; omega) (by omega) (by simp; omega) ?_)
        intro v3 w3 ho3 hg3 hn3
        have hB3 := (hB.alloc hB.size (.cells #[.int .i64 1] 3)).grown hg3 (by simp; omega) (fun k hk => (ho2.lt k hk).1)
        have HO : Hid (Own w.heap.size w3 v3 (L ++ [1])) := Lib.hid (by unfold Own; simpa using ho3)
        clear hg3 hn3 ho3 ho2
        go_wp2
        go_roundw
        case rel => exact ⟨k + 1, by omega, by go_num, by rw [hss2.out]; exact HO, hB3⟩
        case measure => simp [intOf]; omega
      · have hss2 : Hid (sends (l.take (k + 1)) = sends (l.take k) ++ [2]) := hss
        clear hss
        have ho1 := ho.out
        unfold Own at ho1
        have ho2 := World.ownsRow.alloc ho1 (.cells #[.int .i64 2] 3)
        have hl2 : (sends (l.take k)).length = (sends (l.take k)).length := rfl
        clear ho1
        generalize sends (l.take k) = L at *
        clear hl2
        go_wp2_with (at_builtin; refine wpList_app elI rfl _ _ rfl w.heap.size _ _ _ rfl ho2 _ _ _ rfl (src_one _ _ _ rfl) (by simp [maxLen]; omega) (by omega) (by simp; omega) ?_)
        intro v3 w3 ho3 hg3 hn3
        have hB3 := (hB.alloc hB.size (.cells #[.int .i64 2] 3)).grown hg3 (by simp; omega) (fun k hk => (ho2.lt k hk).1)
        have HO : Hid (Own w.heap.size w3 v3 (L ++ [2])) := Lib.hid (by unfold Own; simpa using ho3)
        clear hg3 hn3 ho3 ho2
        go_wp2
        go_roundw
        case rel => exact ⟨k + 1, by omega, by go_num, by rw [hss2.out]; exact HO, hB3⟩
        case measure => simp [intOf]; omega
      · have hss2 : Hid (sends (l.take (k + 1)) = sends (l.take k) ++ [3]) := hss
        clear hss
        have ho1 := ho.out
        unfold Own at ho1
        have ho2 := World.ownsRow.alloc ho1 (.cells #[.int .i64 3] 3)
        have hl2 : (sends (l.take k)).length = (sends (l.take k)).length := rfl
        clear ho1
        generalize sends (l.take k) = L at *
        clear hl2
        go_wp2_with (at_builtin; refine wpList_app elI rfl _ _ rfl w.heap.size _ _ _ rfl ho2 _ _ _ rfl (src_one _ _ _ rfl) (by simp [maxLen]; omega) (by omega) (by simp; omega) ?_)
        intro v3 w3 ho3 hg3 hn3
        have hB3 := (hB.alloc hB.size (.cells #[.int .i64 3] 3)).grown hg3 (by simp; omega) (fun k hk => (ho2.lt k hk).1)
        have HO : Hid (Own w.heap.size w3 v3 (L ++ [3])) := Lib.hid (by unfold Own; simpa using ho3)
        clear hg3 hn3 ho3 ho2
        go_wp2
        go_roundw
        case rel => exact ⟨k + 1, by omega, by go_num, by rw [hss2.out]; exact HO, hB3⟩
        case measure => simp [intOf]; omega
      · have hss2 : Hid (sends (l.take (k + 1)) = sends (l.take k) ++ [5]) := hss
        clear hss
        have ho1 := ho.out
        unfold Own at ho1
        have ho2 := World.ownsRow.alloc ho1 (.cells #[.int .i64 5] 3)
        have hl2 : (sends (l.take k)).length = (sends (l.take k)).length := rfl
        clear ho1
        generalize sends (l.take k) = L at *
        clear hl2
        go_wp2_with (at_builtin; refine wpList_app elI rfl _ _ rfl w.heap.size _ _ _ rfl ho2 _ _ _ rfl (src_one _ _ _ rfl) (by simp [maxLen]; omega) (by omega) (by simp; omega) ?_)
        intro v3 w3 ho3 hg3 hn3
        have hB3 := (hB.alloc hB.size (.cells #[.int .i64 5] 3)).grown hg3 (by simp; omega) (fun k hk => (ho2.lt k hk).1)
        have HO : Hid (Own w.heap.size w3 v3 (L ++ [5])) := Lib.hid (by unfold Own; simpa using ho3)
        clear hg3 hn3 ho3 ho2
        go_wp2
        go_roundw
        case rel => exact ⟨k + 1, by omega, by go_num, by rw [hss2.out]; exact HO, hB3⟩
        case measure => simp [intOf]; omega
      · have hss2 : Hid (sends (l.take (k + 1)) = sends (l.take k) ++ [6]) := hss
        clear hss
        have ho1 := ho.out
        unfold Own at ho1
        have ho2 := World.ownsRow.alloc ho1 (.cells #[.int .i64 6] 3)
        have hl2 : (sends (l.take k)).length = (sends (l.take k)).length := rfl
        clear ho1
        generalize sends (l.take k) = L at *
        clear hl2
        go_wp2_with (at_builtin; refine wpList_app elI rfl _ _ rfl w.heap.size _ _ _ rfl ho2 _ _ _ rfl (src_one _ _ _ rfl) (by simp [maxLen]; omega) (by omega) (by simp; omega) ?_)
        intro v3 w3 ho3 hg3 hn3
        have hB3 := (hB.alloc hB.size (.cells #[.int .i64 6] 3)).grown hg3 (by simp; omega) (fun k hk => (ho2.lt k hk).1)
        have HO : Hid (Own w.heap.size w3 v3 (L ++ [6])) := Lib.hid (by unfold Own; simpa using ho3)
        clear hg3 hn3 ho3 ho2
        go_wp2
        go_roundw
        case rel => exact ⟨k + 1, by omega, by go_num, by rw [hss2.out]; exact HO, hB3⟩
        case measure => simp [intOf]; omega
      · have hss2 : Hid (sends (l.take (k + 1)) = sends (l.take k) ++ [7]) := hss
        clear hss
        have ho1 := ho.out
        unfold Own at ho1
        have ho2 := World.ownsRow.alloc ho1 (.cells #[.int .i64 7] 3)
        have hl2 : (sends (l.take k)).length = (sends (l.take k)).length := rfl
        clear ho1
        generalize sends (l.take k) = L at *
        clear hl2
        go_wp2_with (at_builtin; refine wpList_app elI rfl _ _ rfl w.heap.size _ _ _ rfl ho2 _ _ _ rfl (src_one _ _ _ rfl) (by simp [maxLen]; omega) (by omega) (by simp; omega) ?_)
        intro v3 w3 ho3 hg3 hn3
        have hB3 := (hB.alloc hB.size (.cells #[.int .i64 7] 3)).grown hg3 (by simp; omega) (fun k hk => (ho2.lt k hk).1)
        have HO : Hid (Own w.heap.size w3 v3 (L ++ [7])) := Lib.hid (by unfold Own; simpa using ho3)
        clear hg3 hn3 ho3 ho2
        go_wp2
        go_roundw
        case rel => exact ⟨k + 1, by omega, by go_num, by rw [hss2.out]; exact HO, hB3⟩
        case measure => simp [intOf]; omega
      · have hss2 : Hid (sends (l.take (k + 1)) = sends (l.take k) ++ [10]) := hss
        clear hss
        have ho1 := ho.out
        unfold Own at ho1
        have ho2 := World.ownsRow.alloc ho1 (.cells #[.int .i64 10] 3)
        have hl2 : (sends (l.take k)).length = (sends (l.take k)).length := rfl
        clear ho1
        generalize sends (l.take k) = L at *
        clear hl2
        go_wp2_with (at_builtin; refine wpList_app elI rfl _ _ rfl w.heap.size _ _ _ rfl ho2 _ _ _ rfl (src_one _ _ _ rfl) (by simp [maxLen]; omega) (by omega) (by simp; omega) ?_)
        intro v3 w3 ho3 hg3 hn3
        have hB3 := (hB.alloc hB.size (.cells #[.int .i64 10] 3)).grown hg3 (by simp; omega) (fun k hk => (ho2.lt k hk).1)
        have HO : Hid (Own w.heap.size w3 v3 (L ++ [10])) := Lib.hid (by unfold Own; simpa using ho3)
        clear hg3 hn3 ho3 ho2
        go_wp2
        go_roundw
        case rel => exact ⟨k + 1, by omega, by go_num, by rw [hss2.out]; exact HO, hB3⟩
        case measure => simp [intOf]; omega
      · have hss2 : Hid (sends (l.take (k + 1)) = sends (l.take k)) := Lib.hid (by
          rw [hss.out]
          unfold send1
          rw [if_neg n7, if_neg n8, if_neg n9, if_neg n10, if_neg n11, if_neg n12, if_neg n13]
          simp)
        have q7 : (x == 7) = false := beq_eq_false_iff_ne.2 n7
        have q8 : (x == 8) = false := beq_eq_false_iff_ne.2 n8
        have q9 : (x == 9) = false := beq_eq_false_iff_ne.2 n9
        have q10 : (x == 10) = false := beq_eq_false_iff_ne.2 n10
        have q11 : (x == 11) = false := beq_eq_false_iff_ne.2 n11
        have q12 : (x == 12) = false := beq_eq_false_iff_ne.2 n12
        have q13 : (x == 13) = false := beq_eq_false_iff_ne.2 n13
        clear hss n7 n8 n9 n10 n11 n12 n13
        go_wp2
        go_roundw
        case rel => exact ⟨k + 1, by omega, by go_num, by rw [hss2.out]; exact ho, hB⟩
        case measure => simp [intOf]; omega
    · obtain rfl : k = l.length := by omega
      rw [List.take_of_length_le (Nat.le_refl _)] at ho
      go_wp2
      go_ret
      exact ⟨⟨_, rfl, ho.out⟩, hB⟩
set_option maxHeartbeats 2000000 in
theorem sends25 (l : List Int) (v : Value) (w : World) (h : IntsAt w v l) (hl : l.length ≤ 17592186043904) : Calls Try.prog 25 #[v] w (SendsR l w) := by
  obtain ⟨A, ca, rfl, k1, k2, k3, k4⟩ := h
  unfold maxLen at k2
  go_enter Try.func25, Try.ntmps25
  go_wp2
  go_loopw [3, 5, 8] (fun o _ i wr => ∃ k : Nat, k ≤ l.length ∧ i = .int .i64 k ∧ Hid (Own w.heap.size wr o (sends (l.take k))) ∧ Below w.heap.size w wr) (fun _ _ i _ => l.length - (intOf i).toNat)
  case atStart => exact ⟨0, by omega, rfl, Lib.hid (own_nil _ _), Below.refl _ _⟩
  case round =>
    obtain ⟨k, hk, rfl, ho, hB⟩ := hrel
    by_cases hlt : k < l.length
    · obtain ⟨ad, rfl⟩ := some_of k3 hlt
      obtain ⟨ba, oa, rfl, c1⟩ := k4 ad rfl k hlt
      have c1' := (hB.cell (World.block_lt_of_cell? w _ c1)).trans c1
      have hi0 : (0 : Int) ≤ (k : Int) := by omega
      have hi1 : (k : Int) < (l.length : Int) := by omega
      have hsl := sends_len l k
      have hss := Lib.hid (sends_succ l k hlt)
      have hBs := hB.size
      clear k3 k4 c1
      obtain ⟨x, hx⟩ : ∃ x, x = l[k] := ⟨_, rfl⟩
      rw [← hx] at c1' hss
      clear hx
      have hcase : x = 7 ∨ x = 8 ∨ x = 9 ∨ x = 10 ∨ x = 11 ∨ x = 12 ∨ x = 13 ∨ (x ≠ 7 ∧ x ≠ 8 ∧ x ≠ 9 ∧ x ≠ 10 ∧ x ≠ 11 ∧ x ≠ 12 ∧ x ≠ 13) := by omega
      rcases hcase with rfl | rfl | rfl | rfl | rfl | rfl | rfl | ⟨n7, n8, n9, n10, n11, n12, n13⟩
      · have hss2 : Hid (sends (l.take (k + 1)) = sends (l.take k) ++ [1]) := hss
        clear hss
        have ho1 := ho.out
        unfold Own at ho1
        have ho2 := World.ownsRow.alloc ho1 (.cells #[.int .i64 1] 3)
        have hl2 : (sends (l.take k)).length = (sends (l.take k)).length := rfl
        clear ho1
        generalize sends (l.take k) = L at *
        clear hl2
        go_wp2_with (at_builtin; refine wpList_app elI rfl _ _ rfl w.heap.size _ _ _ rfl ho2 _ _ _ rfl (src_one _ _ _ rfl) (by simp [maxLen]; omega) (by omega) (by simp; omega) ?_)
        intro v3 w3 ho3 hg3 hn3
        have hB3 := (hB.alloc hB.size (.cells #[.int .i64 1] 3)).grown hg3 (by simp; omega) (fun k hk => (ho2.lt k hk).1)
        have HO : Hid (Own w.heap.size w3 v3 (L ++ [1])) := Lib.hid (by unfold Own; simpa using ho3)
        clear hg3 hn3 ho3 ho2
        go_wp2
        go_roundw
        case rel => exact ⟨k + 1, by omega, by go_num, by rw [hss2.out]; exact HO, hB3⟩
        case measure => simp [intOf]; omega
      · have hss2 : Hid (sends (l.take (k + 1)) = sends (l.take k) ++ [2]) := hss
        clear hss
        have ho1 := ho.out
        unfold Own at ho1
        have ho2 := World.ownsRow.alloc ho1 (.cells #[.int .i64 2] 3)
        have hl2 : (sends (l.take k)).length = (sends (l.take k)).length := rfl
        clear ho1
        generalize sends (l.take k) = L at *
        clear hl2
        go_wp2_with (at_builtin; refine wpList_app elI rfl _ _ rfl w.heap.size _ _ _ rfl ho2 _ _ _ rfl (src_one _ _ _ rfl) (by simp [maxLen]; omega) (by omega) (by simp; omega) ?_)
        intro v3 w3 ho3 hg3 hn3
        have hB3 := (hB.alloc hB.size (.cells #[.int .i64 2] 3)).grown hg3 (by simp; omega) (fun k hk => (ho2.lt k hk).1)
        have HO : Hid (Own w.heap.size w3 v3 (L ++ [2])) := Lib.hid (by unfold Own; simpa using ho3)
        clear hg3 hn3 ho3 ho2
        go_wp2
        go_roundw
        case rel => exact ⟨k + 1, by omega, by go_num, by rw [hss2.out]; exact HO, hB3⟩
        case measure => simp [intOf]; omega
      · have hss2 : Hid (sends (l.take (k + 1)) = sends (l.take k) ++ [3]) := hss
        clear hss
        have ho1 := ho.out
        unfold Own at ho1
        have ho2 := World.ownsRow.alloc ho1 (.cells #[.int .i64 3] 3)
        have hl2 : (sends (l.take k)).length = (sends (l.take k)).length := rfl
        clear ho1
        generalize sends (l.take k) = L at *
        clear hl2
        go_wp2_with (at_builtin; refine wpList_app elI rfl _ _ rfl w.heap.size _ _ _ rfl ho2 _ _ _ rfl (src_one _ _ _ rfl) (by simp [maxLen]; omega) (by omega) (by simp; omega) ?_)
        intro v3 w3 ho3 hg3 hn3
        have hB3 := (hB.alloc hB.size (.cells #[.int .i64 3] 3)).grown hg3 (by simp; omega) (fun k hk => (ho2.lt k hk).1)
        have HO : Hid (Own w.heap.size w3 v3 (L ++ [3])) := Lib.hid (by unfold Own; simpa using ho3)
        clear hg3 hn3 ho3 ho2
        go_wp2
        go_roundw
        case rel => exact ⟨k + 1, by omega, by go_num, by rw [hss2.out]; exact HO, hB3⟩
        case measure => simp [intOf]; omega
      · have hss2 : Hid (sends (l.take (k + 1)) = sends (l.take k) ++ [5]) := hss
        clear hss
        have ho1 := ho.out
        unfold Own at ho1
        have ho2 := World.ownsRow.alloc ho1 (.cells #[.int .i64 5] 3)
        have hl2 : (sends (l.take k)).length = (sends (l.take k)).length := rfl
        clear ho1
        generalize sends (l.take k) = L at *
        clear hl2
        go_wp2_with (at_builtin; refine wpList_app elI rfl _ _ rfl w.heap.size _ _ _ rfl ho2 _ _ _ rfl (src_one _ _ _ rfl) (by simp [maxLen]; omega) (by omega) (by simp; omega) ?_)
        intro v3 w3 ho3 hg3 hn3
        have hB3 := (hB.alloc hB.size (.cells #[.int .i64 5] 3)).grown hg3 (by simp; omega) (fun k hk => (ho2.lt k hk).1)
        have HO : Hid (Own w.heap.size w3 v3 (L ++ [5])) := Lib.hid (by unfold Own; simpa using ho3)
        clear hg3 hn3 ho3 ho2
        go_wp2
        go_roundw
        case rel => exact ⟨k + 1, by omega, by go_num, by rw [hss2.out]; exact HO, hB3⟩
        case measure => simp [intOf]; omega
      · have hss2 : Hid (sends (l.take (k + 1)) = sends (l.take k) ++ [6]) := hss
        clear hss
        have ho1 := ho.out
        unfold Own at ho1
        have ho2 := World.ownsRow.alloc ho1 (.cells #[.int .i64 6] 3)
        have hl2 : (sends (l.take k)).length = (sends (l.take k)).length := rfl
        clear ho1
        generalize sends (l.take k) = L at *
        clear hl2
        go_wp2_with (at_builtin; refine wpList_app elI rfl _ _ rfl w.heap.size _ _ _ rfl ho2 _ _ _ rfl (src_one _ _ _ rfl) (by simp [maxLen]; omega) (by omega) (by simp; omega) ?_)
        intro v3 w3 ho3 hg3 hn3
        have hB3 := (hB.alloc hB.size (.cells #[.int .i64 6] 3)).grown hg3 (by simp; omega) (fun k hk => (ho2.lt k hk).1)
        have HO : Hid (Own w.heap.size w3 v3 (L ++ [6])) := Lib.hid (by unfold Own; simpa using ho3)
        clear hg3 hn3 ho3 ho2
        go_wp2
        go_roundw
        case rel => exact ⟨k + 1, by omega, by go_num, by rw [hss2.out]; exact HO, hB3⟩
        case measure => simp [intOf]; omega
      · have hss2 : Hid (sends (l.take (k + 1)) = sends (l.take k) ++ [7]) := hss
        clear hss
        have ho1 := ho.out
        unfold Own at ho1
        have ho2 := World.ownsRow.alloc ho1 (.cells #[.int .i64 7] 3)
        have hl2 : (sends (l.take k)).length = (sends (l.take k)).length := rfl
        clear ho1
        generalize sends (l.take k) = L at *
        clear hl2
        go_wp2_with (at_builtin; refine wpList_app elI rfl _ _ rfl w.heap.size _ _ _ rfl ho2 _ _ _ rfl (src_one _ _ _ rfl) (by simp [maxLen]; omega) (by omega) (by simp; omega) ?_)
        intro v3 w3 ho3 hg3 hn3
        have hB3 := (hB.alloc hB.size (.cells #[.int .i64 7] 3)).grown hg3 (by simp; omega) (fun k hk => (ho2.lt k hk).1)
        have HO : Hid (Own w.heap.size w3 v3 (L ++ [7])) := Lib.hid (by unfold Own; simpa using ho3)
        clear hg3 hn3 ho3 ho2
        go_wp2
        go_roundw
        case rel => exact ⟨k + 1, by omega, by go_num, by rw [hss2.out]; exact HO, hB3⟩
        case measure => simp [intOf]; omega
      · have hss2 : Hid (sends (l.take (k + 1)) = sends (l.take k) ++ [10]) := hss
        clear hss
        have ho1 := ho.out
        unfold Own at ho1
        have ho2 := World.ownsRow.alloc ho1 (.cells #[.int .i64 10] 3)
        have hl2 : (sends (l.take k)).length = (sends (l.take k)).length := rfl
        clear ho1
        generalize sends (l.take k) = L at *
        clear hl2
        go_wp2_with (at_builtin; refine wpList_app elI rfl _ _ rfl w.heap.size _ _ _ rfl ho2 _ _ _ rfl (src_one _ _ _ rfl) (by simp [maxLen]; omega) (by omega) (by simp; omega) ?_)
        intro v3 w3 ho3 hg3 hn3
        have hB3 := (hB.alloc hB.size (.cells #[.int .i64 10] 3)).grown hg3 (by simp; omega) (fun k hk => (ho2.lt k hk).1)
        have HO : Hid (Own w.heap.size w3 v3 (L ++ [10])) := Lib.hid (by unfold Own; simpa using ho3)
        clear hg3 hn3 ho3 ho2
        go_wp2
        go_roundw
        case rel => exact ⟨k + 1, by omega, by go_num, by rw [hss2.out]; exact HO, hB3⟩
        case measure => simp [intOf]; omega
      · have hss2 : Hid (sends (l.take (k + 1)) = sends (l.take k)) := Lib.hid (by
          rw [hss.out]
          unfold send1
          rw [if_neg n7, if_neg n8, if_neg n9, if_neg n10, if_neg n11, if_neg n12, if_neg n13]
          simp)
        have q7 : (x == 7) = false := beq_eq_false_iff_ne.2 n7
        have q8 : (x == 8) = false := beq_eq_false_iff_ne.2 n8
        have q9 : (x == 9) = false := beq_eq_false_iff_ne.2 n9
        have q10 : (x == 10) = false := beq_eq_false_iff_ne.2 n10
        have q11 : (x == 11) = false := beq_eq_false_iff_ne.2 n11
        have q12 : (x == 12) = false := beq_eq_false_iff_ne.2 n12
        have q13 : (x == 13) = false := beq_eq_false_iff_ne.2 n13
        clear hss n7 n8 n9 n10 n11 n12 n13
        go_wp2
        go_roundw
        case rel => exact ⟨k + 1, by omega, by go_num, by rw [hss2.out]; exact ho, hB⟩
        case measure => simp [intOf]; omega
    · obtain rfl : k = l.length := by omega
      rw [List.take_of_length_le (Nat.le_refl _)] at ho
      go_wp2
      go_ret
      exact ⟨⟨_, rfl, ho.out⟩, hB⟩
end Go.Proofs.Ytjgndagejogfnaa.F
