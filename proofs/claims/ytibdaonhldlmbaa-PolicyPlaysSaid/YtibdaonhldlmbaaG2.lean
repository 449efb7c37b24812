import Derived.Test.YtibdaonhldlmbaaG1
import Derived.Test.YtibdaonhldlmbaaE4
import Derived.Deep.QuietTactic
import Derived.BigQuiet
set_option linter.unusedVariables false
set_option linter.unusedSimpArgs false
namespace Go.Proofs.Ytibdaonhldlmbaa.F
open Go.RowKit Go.Proofs.Ytibdaonhldlmbaa.K
theorem ints_len {w : World} {v : Value} {l : List Int} (h : IntsAt w v l) : l.length ≤ maxLen := by obtain ⟨A, cap, -, h1, h2, -⟩ := h; omega
/-- a slice that holds something has an array -/
theorem some_of {A : Option Addr} {l : List Int} {k : Nat} (h : A = none → l = []) (hk : k < l.length) : ∃ ad, A = some ad := by
  cases A with
  | none => rw [h rfl] at hk; cases hk
  | some ad => exact ⟨ad, rfl⟩
theorem take_eq_succ {a b : List Int} {k : Nat} (ha : k < a.length) (hb : k < b.length) (h : a.take k = b.take k) (he : a[k] = b[k]) : a.take (k + 1) = b.take (k + 1) := by
  rw [List.take_succ_eq_append_getElem ha, List.take_succ_eq_append_getElem hb, h, he]
theorem numbers16 (a b : List Int) (va vb : Value) (w : World) (h : IntsAt w va a) (h' : IntsAt w vb b) : Calls Try.prog 16 #[va, vb] w fun e w' => e = .returned (.bool (decide (a = b))) ∧ ∃ n, w' = w.drewN n := by
  obtain ⟨A, ca, rfl, k1, k2, k3, k4⟩ := h
  obtain ⟨B, cb, rfl, j1, j2, j3, j4⟩ := h'
  unfold maxLen at k2 j2
  by_cases hl : a.length = b.length
  · have hd : ((a.length : Int) != (b.length : Int)) = false := by simp [hl]
    have HL := Lib.hid hl
    clear hl
    go_enter Try.func16, Try.ntmps16
    go_wp2
    go_loopw [5, 13] (fun _ i wr => ∃ k : Nat, k ≤ a.length ∧ i = .int .i64 k ∧ Hid (a.take k = b.take k) ∧ ∃ n, wr = w.drewN n) (fun _ i _ => a.length - (intOf i).toNat)
    case atStart => exact ⟨0, by omega, rfl, Lib.hid rfl, 0, rfl⟩
    case round =>
      obtain ⟨k, hk, rfl, he, n, rfl⟩ := hrel
      by_cases hlt : k < a.length
      · have hlt' : k < b.length := by rw [← HL.out]; exact hlt
        obtain ⟨ad, rfl⟩ := some_of k3 hlt
        obtain ⟨bd, rfl⟩ := some_of j3 hlt'
        obtain ⟨ba, oa, rfl, c1⟩ := k4 ad rfl k hlt
        obtain ⟨bb, ob, rfl, c2⟩ := j4 bd rfl k hlt'
        have hi0 : (0 : Int) ≤ (k : Int) := by omega
        have hi1 : (k : Int) < (a.length : Int) := by omega
        have hi2 : (k : Int) < (b.length : Int) := by omega
        clear k3 k4 j3 j4
        by_cases hq : a[k] = b[k]
        · have q : (a[k] != b[k]) = false := by simp [hq]
          have HE := Lib.hid (take_eq_succ hlt hlt' he.out hq)
          clear hq
          go_wp2
          go_quiet (fail)
          go_wp2
          go_roundw
          case rel => exact ⟨k + 1, by omega, by go_num, HE, _, rfl⟩
          case measure => simp [intOf]; omega
        · have q : (a[k] != b[k]) = true := by simp [hq]
          have hn : decide (a = b) = false := by
            rw [decide_eq_false_iff_not]
            intro e
            subst e
            exact hq rfl
          have HN := Lib.hid hn
          clear hq hn
          go_wp2
          go_quiet (fail)
          go_wp2
          go_ret
          exact ⟨by rw [HN.out]; rfl, _, World.drewN_drewN _ _ _⟩
      · obtain rfl : k = a.length := by omega
        have hn : decide (a = b) = true := by
          rw [decide_eq_true_eq]
          have := he.out
          rw [List.take_of_length_le (Nat.le_refl _), HL.out, List.take_of_length_le (Nat.le_refl _)] at this
          exact this
        have HN := Lib.hid hn
        clear hn
        go_wp2
        go_ret
        exact ⟨by rw [HN.out]; rfl, _, rfl⟩
  · have hd : ((a.length : Int) != (b.length : Int)) = true := by rw [bne_iff_ne]; omega
    have hn : decide (a = b) = false := by
      rw [decide_eq_false_iff_not]
      intro e
      exact hl (by rw [e])
    have HN := Lib.hid hn
    clear hn hl
    go_enter Try.func16, Try.ntmps16
    go_wp2
    go_ret
    exact ⟨by rw [HN.out]; rfl, 0, rfl⟩
theorem numbers_same (a : List Int) (va vb : Value) (w : World) (h : IntsAt w va a) (h' : IntsAt w vb a) : Calls Try.prog 16 #[va, vb] w fun e w' => e = .returned (.bool true) ∧ Below w.heap.size w w' :=
  (numbers16 a a va vb w h h').mono fun e w' ⟨h1, n, h2⟩ => ⟨by rw [h1]; simp, by rw [h2]; exact below_drewN (Below.refl _ _) n⟩
/-! ### PolicyIdles: the plain law -/
theorem nx_er (p : Pol) : (nx p).2 = 0 ∨ (nx p).2 = 5 := by
  unfold nx
  split
  · exact .inl rfl
  · split
    · split
      · split <;> exact .inl rfl
      · split
        · exact .inl rfl
        · exact .inr rfl
    · exact .inr rfl
theorem wr_add {a b : Int} (h : 0 ≤ a ∧ a ≤ 2000000) (h2 : 0 ≤ b ∧ b ≤ 2147483648) : wrap64 (a + b) = a + b := by unfold wrap64; omega
theorem nx_due {p : Pol} {now b l e t : Int} (h : Ti p now b l e) (h1 : now ≤ t) (h2 : t ≤ 2000000) (hn : (nx p).2 = 5 ∨ t < (nx p).1) : ({ p with now := t } : Pol).due = ({ p with now := t }, []) := by
  obtain ⟨c1, c2, c3, c4, c5, c6, c7, c8, c9, c10, -⟩ := h
  unfold nx at hn
  rw [wr_add (by omega) c8, wr_add (by omega) c9, wr_add (by omega) c10] at hn
  unfold Pol.due
  by_cases s3 : p.st = 3
  · rw [if_pos s3]
    rw [if_neg (by omega), if_pos s3] at hn
    unfold Pol.due1
    have ht : ({ p with now := t } : Pol).tired = 0 := by
      unfold Pol.tired
      rw [ovr_eq (by simp only; omega) (by simp only; omega), ovr_eq (by simp only; omega) (by simp only; omega)]
      by_cases a1 : 0 < p.se
      · rw [if_pos a1] at hn
        by_cases a2 : 0 < p.id
        · rw [if_pos a2] at hn
          have q1 : ¬ p.se ≤ t - p.up := by simp only at hn; omega
          have q2 : ¬ p.id ≤ t - p.la := by simp only at hn; omega
          simp [q1, q2]
        · rw [if_neg a2] at hn
          have q1 : ¬ p.se ≤ t - p.up := by simp only at hn; omega
          simp [q1, a2]
      · rw [if_neg a1] at hn
        by_cases a2 : 0 < p.id
        · rw [if_pos a2] at hn
          have q2 : ¬ p.id ≤ t - p.la := by simp only at hn; omega
          simp [a1, q2]
        · simp [a1, a2]
    rw [if_pos ht]
  · rw [if_neg s3]
    by_cases s1 : p.st = 1
    · rw [if_pos s1]
      rw [if_pos s1] at hn
      unfold Pol.due2
      have ho : ovr t p.en p.ho = false := by
        rw [ovr_eq (by omega) (by omega)]
        simp only at hn
        simp only [decide_eq_false_iff_not]
        omega
      simp only [ho]
      rfl
    · rw [if_neg s1]
theorem tick_idle {p : Pol} {now b l e t : Int} (h : Ti p now b l e) (h1 : now ≤ t) (h2 : t ≤ 2000000) (hn : (nx p).2 = 5 ∨ t < (nx p).1) : atC [] t p = ({ p with now := t }, [], 0) := by
  have hd := nx_due h h1 h2 hn
  have hc := h.clock
  have hl := h.lo
  unfold atC
  rw [if_neg (by omega)]
  simp only [hd]
  rfl
theorem atC_clock (cs : List (List Int × Nat)) {p : Pol} {a t : Int} (h0 : 0 ≤ t ∧ t ≤ 2000000) (h1 : p.now ≤ t) (h2 : a ≤ t) : atC cs t { p with now := a } = atC cs t p := by
  unfold atC
  rw [if_neg (by simp only; omega), if_neg (by omega)]
end Go.Proofs.Ytibdaonhldlmbaa.F
