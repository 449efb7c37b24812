import Derived.Test.YtibdaonhldlmbaaB2
set_option linter.unusedVariables false
set_option linter.unusedSimpArgs false
namespace Go.Proofs.Ytibdaonhldlmbaa.F
open Go.RowKit Go.Proofs.Ytibdaonhldlmbaa.K
theorem why_e0 : (whyS 0).toList.isEmpty = true := by decide +kernel
theorem why_e1 : (whyS 1).toList.isEmpty = false := by decide +kernel
theorem why_e2 : (whyS 2).toList.isEmpty = false := by decide +kernel
def tir (se id now up la : Int) : Nat := if decide (0 < se) && ovr now up se then 1 else if decide (0 < id) && ovr now la id then 2 else 0
theorem tir_le (se id now up la : Int) : tir se id now up la ≤ 2 := by unfold tir; split <;> (try split) <;> omega
set_option maxHeartbeats 1000000 in
theorem tired59 (de pe : Bool) (ho id se mf now up la : Int) (w : World) : Calls Try.prog 59 #[.agg #[.bool de, .bool pe, .int .i64 ho, .int .i64 id, .int .i64 se, .int .i64 mf], .int .i64 now, .int .i64 up, .int .i64 la] w fun e w' => e = .returned (.string (whyS (tir se id now up la))) ∧ Below w.heap.size w w' := by
  have hb : Below w.heap.size w (w.alloc (.cells #[.bool de, .bool pe, .int .i64 ho, .int .i64 id, .int .i64 se, .int .i64 mf] 55)) := (Below.refl _ _).alloc (Nat.le_refl _) _
  have two : ∀ u, tir se id now up la = u → (Ending.returned (Value.string (whyS u))) = .returned (.string (whyS (tir se id now up la))) := fun u h => by rw [h]
  have O1 := Lib.hid (over49 now up se)
  have O2 := Lib.hid (over49 now la id)
  by_cases h1 : 0 < se
  · cases ho1 : ovr now up se
    · rw [ho1] at O1
      by_cases h2 : 0 < id
      · cases ho2 : ovr now la id
        · rw [ho2] at O2
          have ht : tir se id now up la = 0 := by simp [tir, ho1, ho2]
          clear ho1 ho2 two
          go_enter Try.func59, Try.ntmps59
          go_wp2_with fail
          refine (O1.out _).mono ?_
          rintro e w1 ⟨rfl, rfl⟩
          go_wp2_with fail
          refine (O2.out _).mono ?_
          rintro e w1 ⟨rfl, rfl⟩
          go_wp2
          go_ret
          exact ⟨by first | (rw [ht]; rfl) | rfl, hb⟩
        · rw [ho2] at O2
          have ht : tir se id now up la = 2 := by simp [tir, ho1, ho2, h2]
          clear ho1 ho2 two
          go_enter Try.func59, Try.ntmps59
          go_wp2_with fail
          refine (O1.out _).mono ?_
          rintro e w1 ⟨rfl, rfl⟩
          go_wp2_with fail
          refine (O2.out _).mono ?_
          rintro e w1 ⟨rfl, rfl⟩
          go_wp2
          go_ret
          exact ⟨by first | (rw [ht]; rfl) | rfl, hb⟩
      · have ht : tir se id now up la = 0 := by simp [tir, ho1, h2]
        clear ho1 two
        go_enter Try.func59, Try.ntmps59
        go_wp2_with fail
        refine (O1.out _).mono ?_
        rintro e w1 ⟨rfl, rfl⟩
        go_wp2
        go_ret
        exact ⟨by first | (rw [ht]; rfl) | rfl, hb⟩
    · rw [ho1] at O1
      have ht : tir se id now up la = 1 := by simp [tir, ho1, h1]
      clear ho1 two
      go_enter Try.func59, Try.ntmps59
      go_wp2_with fail
      refine (O1.out _).mono ?_
      rintro e w1 ⟨rfl, rfl⟩
      go_wp2
      go_ret
      exact ⟨by first | (rw [ht]; rfl) | rfl, hb⟩
  · by_cases h2 : 0 < id
    · cases ho2 : ovr now la id
      · rw [ho2] at O2
        have ht : tir se id now up la = 0 := by simp [tir, ho2, h1]
        clear ho2 two
        go_enter Try.func59, Try.ntmps59
        go_wp2_with fail
        refine (O2.out _).mono ?_
        rintro e w1 ⟨rfl, rfl⟩
        go_wp2
        go_ret
        exact ⟨by first | (rw [ht]; rfl) | rfl, hb⟩
      · rw [ho2] at O2
        have ht : tir se id now up la = 2 := by simp [tir, ho2, h1, h2]
        clear ho2 two
        go_enter Try.func59, Try.ntmps59
        go_wp2_with fail
        refine (O2.out _).mono ?_
        rintro e w1 ⟨rfl, rfl⟩
        go_wp2
        go_ret
        exact ⟨by first | (rw [ht]; rfl) | rfl, hb⟩
    · have ht : tir se id now up la = 0 := by simp [tir, h1, h2]
      clear two
      go_enter Try.func59, Try.ntmps59
      go_wp2_with fail
      go_ret
      exact ⟨by first | (rw [ht]; rfl) | rfl, hb⟩
variable (g : Nat) (p : Pol) (w : World)
theorem due58 (h : PolAt w g p) : Calls Try.prog 58 #[.pointer (some ⟨g, 0, none⟩)] w (ActR g p.due1 w) := by
  have c0 := h.cde
  have c1 := h.cpe
  have c2 := h.cho
  have c3 := h.cid
  have c4 := h.cse
  have c5 := h.cmf
  have c6 := h.cnow
  have c7 := h.cup
  have c8 := h.cla
  have T := Lib.hid (fun W => tired59 p.de p.pe p.ho p.id p.se p.mf p.now p.up p.la W)
  have ht := tir_le p.se p.id p.now p.up p.la
  have hd : p.due1 = if tir p.se p.id p.now p.up p.la = 0 then (p, []) else p.hang (tir p.se p.id p.now p.up p.la) := rfl
  rw [hd]
  clear hd
  generalize tir p.se p.id p.now p.up p.la = k at *
  have hk : k = 0 ∨ k = 1 ∨ k = 2 := by omega
  clear ht
  rcases hk with rfl | rfl | rfl
  · have e0 := why_e0
    rw [if_pos rfl]
    go_enter Try.func58 , Try.ntmps58
    go_wp2_with fail
    go_still_tail 19, (by kernel_rfl)
    go_wp2_with fail
    refine (T.out _).mono ?_
    rintro e w1 ⟨rfl, hb⟩
    have hB : Below w.heap.size w w1 := below_then (below_drewN (Below.refl _ w) 1) hb
    have h1 := h.below hB
    go_wp2_with fail
    go_ret
    exact ⟨⟨_, rfl, own_nil _ _⟩, h1, below_grown0 hB _⟩
  · have e0 := why_e1
    rw [if_neg (by decide)]
    go_enter Try.func58 , Try.ntmps58
    go_wp2_with fail
    go_still_tail 19, (by kernel_rfl)
    go_wp2_with fail
    refine (T.out _).mono ?_
    rintro e w1 ⟨rfl, hb⟩
    have hB : Below w.heap.size w w1 := below_then (below_drewN (Below.refl _ w) 1) hb
    have h1 := h.below hB
    go_wp2_with fail
    refine (hang51 g p _ 1 h1).mono ?_
    rintro e w2 ⟨⟨v, rfl, q1⟩, q2, q3⟩
    go_wp2
    go_ret
    exact ⟨⟨_, rfl, q1.weak hB.size⟩, q2, grown_trans (below_grown0 hB _) q3⟩
  · have e0 := why_e2
    rw [if_neg (by decide)]
    go_enter Try.func58 , Try.ntmps58
    go_wp2_with fail
    go_still_tail 19, (by kernel_rfl)
    go_wp2_with fail
    refine (T.out _).mono ?_
    rintro e w1 ⟨rfl, hb⟩
    have hB : Below w.heap.size w w1 := below_then (below_drewN (Below.refl _ w) 1) hb
    have h1 := h.below hB
    go_wp2_with fail
    refine (hang51 g p _ 2 h1).mono ?_
    rintro e w2 ⟨⟨v, rfl, q1⟩, q2, q3⟩
    go_wp2
    go_ret
    exact ⟨⟨_, rfl, q1.weak hB.size⟩, q2, grown_trans (below_grown0 hB _) q3⟩
theorem due60 (h : PolAt w g p) : Calls Try.prog 60 #[.pointer (some ⟨g, 0, none⟩)] w (ActR g p.due2 w) := by
  have c2 := h.cho
  have c6 := h.cnow
  have c9 := h.cen
  have O := Lib.hid (over49 p.now p.en p.ho)
  unfold Pol.due2
  by_cases ho : ovr p.now p.en p.ho = true
  · rw [if_pos ho]
    rw [ho] at O
    clear ho
    go_enter Try.func60, Try.ntmps60
    go_wp2_with fail
    go_still_tail 15, (by kernel_rfl)
    go_wp2_with fail
    refine (O.out _).mono ?_
    rintro e w1 ⟨rfl, rfl⟩
    have hB : Below w.heap.size w w.drew := below_drewN (Below.refl _ w) 1
    go_wp2_with fail
    refine (held45 g p _ (h.below hB)).mono ?_
    rintro e w2 ⟨⟨v, rfl, q1⟩, q2, q3⟩
    go_wp2
    go_ret
    exact ⟨⟨_, rfl, q1.weak hB.size⟩, q2, grown_trans (below_grown0 hB _) q3⟩
  · rw [if_neg ho]
    simp only [Bool.not_eq_true] at ho
    rw [ho] at O
    clear ho
    go_enter Try.func60, Try.ntmps60
    go_wp2_with fail
    go_still_tail 15, (by kernel_rfl)
    go_wp2_with fail
    refine (O.out _).mono ?_
    rintro e w1 ⟨rfl, rfl⟩
    have hB : Below w.heap.size w w.drew := below_drewN (Below.refl _ w) 1
    go_wp2_with fail
    go_ret
    exact ⟨⟨_, rfl, own_nil _ _⟩, h.below hB, below_grown0 hB _⟩
end Go.Proofs.Ytibdaonhldlmbaa.F
