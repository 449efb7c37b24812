import Derived.Test.YtibdaonhldlmbaaH5
import Derived.Deep.QuietTactic
import Derived.BigQuiet
import Derived.Deep.Upon
set_option linter.unusedVariables false
set_option linter.unusedSimpArgs false
namespace Go.Proofs.Ytibdaonhldlmbaa.F
open Go.RowKit Go.Proofs.Ytibdaonhldlmbaa.K
/-- the times are times -/
structure Tk (p : Pol) : Prop where
  now : 0 ≤ p.now ∧ p.now ≤ 1099511627776
  up : 0 ≤ p.up ∧ p.up ≤ 1099511627776
  la : 0 ≤ p.la ∧ p.la ≤ 1099511627776
  en : 0 ≤ p.en ∧ p.en ≤ 1099511627776
  ho : 0 ≤ p.ho ∧ p.ho ≤ 2147483648
  id : 0 ≤ p.id ∧ p.id ≤ 2147483648
  se : 0 ≤ p.se ∧ p.se ≤ 2147483648
theorem wr_add2 {a b : Int} (h : 0 ≤ a ∧ a ≤ 1099511627776) (h2 : 0 ≤ b ∧ b ≤ 2147483648) : wrap64 (a + b) = a + b := by unfold wrap64; omega
theorem lst1 {x : Int} (h : 0 ≤ x) : lst [x] = x := by
  show lstI (-1) x = x
  exact lst_step (.inl (by omega))
theorem lst2 {x y : Int} (h : 0 ≤ x) (h2 : 0 ≤ y) : lst [x, y] = min x y := by
  show lstI (lstI (-1) x) y = _
  rw [lst_step (a := -1) (t := x) (.inl (by omega))]
  unfold lstI
  split <;> omega
theorem ats_w {p : Pol} (h : Tk p) : ats p = (one (b1 p) (p.up + p.se) ++ one (b2 p) (p.la + p.id)) ++ one (b3 p) (p.en + p.ho) := by
  unfold ats at2 at1
  rw [wr_add2 h.up h.se, wr_add2 h.la h.id, wr_add2 h.en h.ho]
theorem nx_w {p : Pol} (h : Tk p) : nx p = if p.st = 1 then (min 1099511627776 (p.en + p.ho), 0) else if p.st = 3 then (if 0 < p.se then (if 0 < p.id then (min 1099511627776 (min (p.up + p.se) (p.la + p.id)), 0) else (min 1099511627776 (p.up + p.se), 0)) else if 0 < p.id then (min 1099511627776 (p.la + p.id), 0) else (0, 5)) else (0, 5) := by
  unfold nx
  rw [wr_add2 h.up h.se, wr_add2 h.la h.id, wr_add2 h.en h.ho]
theorem nx_rnx {p : Pol} (h : Tk p) : rnx p = nx p := by
  rw [nx_w h]
  have ha := ats_w h
  have h2 := h.up
  have h3 := h.la
  have h4 := h.en
  have h5 := h.ho
  have h6 := h.id
  have h7 := h.se
  unfold rnx
  by_cases s1 : p.st = 1
  · rw [show b1 p = false by simp [b1, s1], show b2 p = false by simp [b2, s1], show b3 p = true by simp [b3, s1]] at ha
    rw [show ats p = [p.en + p.ho] from ha, lst1 (by omega), if_pos s1, if_neg (by omega)]
  · rw [show b3 p = false by simp [b3, s1]] at ha
    rw [if_neg s1]
    by_cases s3 : p.st = 3
    · rw [if_pos s3]
      by_cases a1 : 0 < p.se
      · rw [show b1 p = true by simp [b1, s3, a1]] at ha
        rw [if_pos a1]
        by_cases a2 : 0 < p.id
        · rw [show b2 p = true by simp [b2, s3, a2]] at ha
          rw [if_pos a2, show ats p = [p.up + p.se, p.la + p.id] from ha, lst2 (by omega) (by omega), if_neg (by omega)]
        · rw [show b2 p = false by simp [b2, a2]] at ha
          rw [if_neg a2, show ats p = [p.up + p.se] from ha, lst1 (by omega), if_neg (by omega)]
      · rw [show b1 p = false by simp [b1, a1]] at ha
        rw [if_neg a1]
        by_cases a2 : 0 < p.id
        · rw [show b2 p = true by simp [b2, s3, a2]] at ha
          rw [if_pos a2, show ats p = [p.la + p.id] from ha, lst1 (by omega), if_neg (by omega)]
        · rw [show b2 p = false by simp [b2, a2]] at ha
          rw [if_neg a2, show ats p = [] from ha]
          rfl
    · rw [show b1 p = false by simp [b1, s3], show b2 p = false by simp [b2, s3]] at ha
      rw [if_neg s3, show ats p = [] from ha]
      rfl
theorem held_tk {p : Pol} (h : Tk p) : Tk p.held.1 := by
  obtain ⟨h1, h2, h3, h4, h5, h6, h7⟩ := h
  unfold Pol.held
  split <;> exact ⟨h1, h2, h3, h4, h5, h6, h7⟩
theorem due_tk {p : Pol} (h : Tk p) : Tk p.due.1 := by
  have h0 := h
  obtain ⟨h1, h2, h3, h4, h5, h6, h7⟩ := h
  unfold Pol.due Pol.due1 Pol.due2
  split
  · split <;> exact ⟨h1, h2, h3, h4, h5, h6, h7⟩
  · split
    · split
      · exact held_tk h0
      · exact h0
    · exact h0
theorem fin_tk {p : Pol} (h : Tk p) : Tk p.fin.1 := by
  obtain ⟨h1, h2, h3, h4, h5, h6, h7⟩ := h
  unfold Pol.fin
  split
  · exact held_tk ⟨h1, h2, h3, h4, h5, h6, h7⟩
  · exact ⟨h1, h2, h3, h4, h5, h6, h7⟩
theorem mv_tk {p : Pol} (k : Int) (m : Bool) (h : Tk p) : Tk (mv k m p).1 := by
  have h0 := h
  obtain ⟨h1, h2, h3, h4, h5, h6, h7⟩ := h
  unfold mv
  split
  · split
    · unfold Pol.start1; split <;> exact ⟨h1, h2, h3, h4, h5, h6, h7⟩
    · exact h0
  · split
    · split
      · split
        · exact ⟨h1, h2, h1, h4, h5, h6, h7⟩
        · split
          · unfold Pol.packet2; split
            · split <;> exact ⟨h1, h2, h3, h4, h5, h6, h7⟩
            · exact h0
          · exact h0
      · exact h0
    · split
      · split
        · unfold Pol.up1; split
          · exact ⟨h1, h2, h3, h4, h5, h6, h7⟩
          · split
            · split
              · exact held_tk ⟨h1, h2, h3, h4, h5, h6, h7⟩
              · exact ⟨h1, h2, h3, h4, h5, h6, h7⟩
            · exact ⟨h1, h2, h3, h4, h5, h6, h7⟩
        · exact h0
      · split
        · split
          · exact ⟨h1, h2, h3, h4, h5, h6, h7⟩
          · split
            · exact ⟨h1, h2, h3, h4, h5, h6, h7⟩
            · exact h0
        · split
          · split
            · exact ⟨h1, h1, h1, h4, h5, h6, h7⟩
            · exact h0
          · split
            · split
              · unfold Pol.ldown1; split
                · split
                  · exact ⟨h1, h2, h3, h1, h5, h6, h7⟩
                  · exact fin_tk ⟨h1, h2, h3, h1, h5, h6, h7⟩
                · split
                  · exact fin_tk ⟨h1, h2, h3, h1, h5, h6, h7⟩
                  · split <;> exact fin_tk ⟨h1, h2, h3, h1, h5, h6, h7⟩
              · exact h0
            · exact h0
theorem atC_tk {p : Pol} (k : Int) (m : Bool) (t : Int) (h : Tk p) (hs : StR p) : Tk (atC (csOf k m) t p).1 ∧ StR (atC (csOf k m) t p).1 := by
  rw [atC_mv]
  split
  · exact ⟨h, hs⟩
  · rename_i hn
    have ht : Tk ({ p with now := t } : Pol) := by
      obtain ⟨h1, h2, h3, h4, h5, h6, h7⟩ := h
      exact ⟨by simp only; omega, h2, h3, h4, h5, h6, h7⟩
    exact ⟨mv_tk _ _ (due_tk ht), mv_st _ _ (due_st (p := { p with now := t }) hs)⟩
variable (g r : Nat) (c : Cf) (p : Pol) (w : World)
set_option maxHeartbeats 8000000 in
set_option maxRecDepth 100000 in
theorem alike17 (h : PolAt w g p) (h2 : RefAt w r c p) (ht : Tk p) : Calls Try.prog 17 #[.pointer (some ⟨g, 0, none⟩), .pointer (some ⟨r, 0, none⟩)] w fun e w' => e = .returned (.bool true) ∧ Below w.heap.size w w' := by
  have HT := Lib.hid ht
  clear ht
  go_enter Try.func17, Try.ntmps17
  go_wp2_with fail
  refine (next18 g p _ h).mono ?_
  rintro e w1 ⟨rfl, b1⟩
  have P1 := h.below b1
  have R1 := h2.below b1
  clear h h2
  go_wp2_with fail
  refine (rnext37 r c p _ R1).mono ?_
  rintro e w2 ⟨rfl, b2⟩
  rw [nx_rnx HT.out]
  have P2 := P1.below b2
  have R2 := R1.below b2
  have B2 := below_then b1 b2
  clear P1 R1 b1 b2
  generalize nx p = nn at *
  obtain ⟨na, nb⟩ := nn
  have c1 := R2.cst
  have c2 := R2.cfa
  have c3 := R2.cwy
  go_wp2_with fail
  have z1 : (p.st == p.st) = true := beq_self_eq_true _
  have z2 : (p.fa == p.fa) = true := beq_self_eq_true _
  have z3 : ((whyS p.wy).toList == (whyS p.wy).toList) = true := beq_self_eq_true _
  have z4 : (na == na) = true := beq_self_eq_true _
  have z5 : (nb == nb) = true := beq_self_eq_true _
  go_quiet ((first | (go_at_call 11; exact Calls.quiet_of_same ((state11 g p _ (P2.drewN _)).mono fun _ _ ⟨x, y⟩ => ⟨x, y.symm⟩)) | (go_at_call 20; exact Calls.quiet_of_same ((failures20 g p _ (P2.drewN _)).mono fun _ _ ⟨x, y⟩ => ⟨x, y.symm⟩)) | (go_at_call 21; exact Calls.quiet_of_same ((why21 g p _ (P2.drewN _)).mono fun _ _ ⟨x, y⟩ => ⟨x, y.symm⟩))))
  go_wp2
  go_ret
  exact ⟨rfl, below_drewN B2 _⟩
end Go.Proofs.Ytibdaonhldlmbaa.F
