import Derived.Test.YtjgndagejogfnaaU4
set_option linter.unusedVariables false
set_option linter.unusedSimpArgs false
namespace Go.Proofs.Ytjgndagejogfnaa.F
open Go.RowKit Go.Proofs.Ytjgndagejogfnaa.K
/-- A slice of integers reads as a list. -/
structure IntsAt (w : World) (v : Value) (l : List Int) : Prop where
  at_ : ∃ A cap, v = .slice A l.length cap ∧ l.length ≤ cap ∧ cap ≤ maxLen ∧ (A = none → l = []) ∧
    ∀ ad, A = some ad → ∀ j (h : j < l.length), ∃ b o, ad = ⟨b, o, none⟩ ∧ w.cell? ⟨b, o + j, none⟩ = some (.int .i64 l[j])
theorem IntsAt.nil (w : World) : IntsAt w (.slice none 0 0) [] := ⟨none, 0, rfl, by simp, by decide, fun _ => rfl, fun _ h => by cases h⟩
theorem IntsAt.mono {w w' : World} {v : Value} {l : List Int} (h : IntsAt w v l) (hc : ∀ b o u, w.cell? ⟨b, o, none⟩ = some u → some b = v.ownBlock → w'.cell? ⟨b, o, none⟩ = some u) : IntsAt w' v l := by
  obtain ⟨A, cap, rfl, h1, h2, h3, h4⟩ := h
  refine ⟨A, cap, rfl, h1, h2, h3, fun ad e j hj => ?_⟩
  obtain ⟨b, o, rfl, hcell⟩ := h4 ad e j hj
  subst e
  exact ⟨b, o, rfl, hc _ _ _ hcell rfl⟩
theorem IntsAt.below {w w' : World} {v : Value} {l : List Int} (h : IntsAt w v l) (hb : Below w.heap.size w w') : IntsAt w' v l :=
  h.mono fun _ _ _ hc _ => (hb.cell (World.block_lt_of_cell? w _ hc)).trans hc
theorem IntsAt.grown {w w' : World} {v : Value} {l : List Int} (h : IntsAt w v l) {row : Option Nat} (hg : w.grownBy w' row) (hne : v.ownBlock = none ∨ v.ownBlock ≠ row) : IntsAt w' v l :=
  h.mono fun b o u hc hb => hg.cell hc (by
    rcases hne with hne | hne
    · rw [hne] at hb; cases hb
    · rw [← hb] at hne; exact hne)
theorem IntsAt.src {w : World} {v : Value} {l : List Int} (h : IntsAt w v l) : SrcR w 1 v l.length (l.map (Value.int .i64)) := by
  obtain ⟨A, cap, rfl, h1, h2, h3, h4⟩ := h
  refine ⟨by simp, fun u hu => ?_, A, cap, rfl, fun e => by simp [h3 e], fun ad e j u hj => ?_⟩
  · obtain ⟨x, _, rfl⟩ := List.mem_map.1 hu; rfl
  · have hj' : j < l.length := by have := (List.getElem?_eq_some_iff.1 hj).1; simpa using this
    obtain ⟨b, o, rfl, hc⟩ := h4 ad e j hj'
    rw [show (⟨b, o, none⟩ : Addr).add j = ⟨b, o + j, none⟩ from add_mid b o j, hc]
    simp [List.getElem?_eq_getElem hj'] at hj
    rw [← hj]
theorem Own.ints {w : World} {B : Nat} {v : Value} {l : List Int} (h : Own B w v l) : IntsAt w v l := by
  unfold Own at h
  rcases h.2 with ⟨rfl, h0⟩ | ⟨g, cap, cur, rfl, hb, hg, hnc, hcm, hcs, htake⟩
  · obtain rfl := List.eq_nil_of_length_eq_zero h0
    exact .nil w
  · refine ⟨_, cap, rfl, hnc, hcm, fun e => by (cases e), fun ad e j hj => ?_⟩
    cases e
    refine ⟨g, 0, rfl, ?_⟩
    have := h.cells (g := g) rfl j (.int .i64 l[j]) (by simp [List.getElem?_eq_getElem hj])
    rwa [show (⟨g, 0, none⟩ : Addr).add j = ⟨g, 0 + j, none⟩ from add_mid g 0 j] at this
theorem ints_len {w : World} {v : Value} {l : List Int} (h : IntsAt w v l) : l.length ≤ maxLen := by obtain ⟨A, cap, -, h1, h2, -⟩ := h; omega
/-- a slice that holds something has an array -/
theorem some_of {A : Option Addr} {l : List Int} {k : Nat} (h : A = none → l = []) (hk : k < l.length) : ∃ ad, A = some ad := by
  cases A with
  | none => rw [h rfl] at hk; cases hk
  | some ad => exact ⟨ad, rfl⟩
theorem take_eq_succ {a b : List Int} {k : Nat} (ha : k < a.length) (hb : k < b.length) (h : a.take k = b.take k) (he : a[k] = b[k]) : a.take (k + 1) = b.take (k + 1) := by
  rw [List.take_succ_eq_append_getElem ha, List.take_succ_eq_append_getElem hb, h, he]
theorem numbers14 (a b : List Int) (va vb : Value) (w : World) (h : IntsAt w va a) (h' : IntsAt w vb b) : Calls Try.prog 14 #[va, vb] w fun e w' => e = .returned (.bool (decide (a = b))) ∧ ∃ n, w' = w.drewN n := by
  obtain ⟨A, ca, rfl, k1, k2, k3, k4⟩ := h
  obtain ⟨B, cb, rfl, j1, j2, j3, j4⟩ := h'
  unfold maxLen at k2 j2
  by_cases hl : a.length = b.length
  · have hd : ((a.length : Int) != (b.length : Int)) = false := by simp [hl]
    have HL := Lib.hid hl
    clear hl
    go_enter Try.func14, Try.ntmps14
    go_wp2
    go_loopw [5, 13] (fun _ i wr => ∃ k : Nat, k ≤ a.length ∧ i = .int .i64 k ∧ Hid (a.take k = b.take k) ∧ ∃ n, wr = w.drewN n) (fun _ i _ => a.length - (intOf i).toNat)
    case atStart => exact ⟨0, by omega, rfl, Lib.hid rfl, 0, rfl⟩
    case round =>
      obtain ⟨k, hk, rfl, he, n, rfl⟩ := hrel
      by_cases hlt : k < a.length
      · have hlt' : k < b.length := by rw [← HL.out]; exact hlt
        obtain ⟨ad, rfl⟩ := some_of k3 hlt
        obtain ⟨bd, rfl⟩ := some_of j3 hlt'
        obtain ⟨ba, oa, rfl, c1⟩ := k4 ad rfl k hlt
        obtain ⟨bb, ob, rfl, c2⟩ := j4 bd rfl k hlt'
        have hi0 : (0 : Int) ≤ (k : Int) := by omega
        have hi1 : (k : Int) < (a.length : Int) := by omega
        have hi2 : (k : Int) < (b.length : Int) := by omega
        clear k3 k4 j3 j4
        by_cases hq : a[k] = b[k]
        · have q : (a[k] != b[k]) = false := by simp [hq]
          have HE := Lib.hid (take_eq_succ hlt hlt' he.out hq)
          clear hq
          go_wp2
          go_quiet (fail)
          go_wp2
          go_roundw
          case rel => exact ⟨k + 1, by omega, by go_num, HE, _, rfl⟩
          case measure => simp [intOf]; omega
        · have q : (a[k] != b[k]) = true := by simp [hq]
          have hn : decide (a = b) = false := by
            rw [decide_eq_false_iff_not]
            intro e
            subst e
            exact hq rfl
          have HN := Lib.hid hn
          clear hq hn
          go_wp2
          go_quiet (fail)
          go_wp2
          go_ret
          exact ⟨by rw [HN.out]; rfl, _, World.drewN_drewN _ _ _⟩
      · obtain rfl : k = a.length := by omega
        have hn : decide (a = b) = true := by
          rw [decide_eq_true_eq]
          have := he.out
          rw [List.take_of_length_le (Nat.le_refl _), HL.out, List.take_of_length_le (Nat.le_refl _)] at this
          exact this
        have HN := Lib.hid hn
        clear hn
        go_wp2
        go_ret
        exact ⟨by rw [HN.out]; rfl, _, rfl⟩
  · have hd : ((a.length : Int) != (b.length : Int)) = true := by rw [bne_iff_ne]; omega
    have hn : decide (a = b) = false := by
      rw [decide_eq_false_iff_not]
      intro e
      exact hl (by rw [e])
    have HN := Lib.hid hn
    clear hn hl
    go_enter Try.func14, Try.ntmps14
    go_wp2
    go_ret
    exact ⟨by rw [HN.out]; rfl, 0, rfl⟩
theorem contains_not_succ {l : List Int} {x : Int} {k : Nat} (hk : k < l.length) (h : ∀ j (hj : j < l.length), j < k → l[j] ≠ x) (he : l[k] ≠ x) : ∀ j (hj : j < l.length), j < k + 1 → l[j] ≠ x := by
  intro j hj hjk
  by_cases e : j = k
  · subst e; exact he
  · exact h j hj (by omega)
theorem contains_no {l : List Int} {x : Int} (h : ∀ j (hj : j < l.length), j < l.length → l[j] ≠ x) : l.contains x = false := by
  rw [Bool.eq_false_iff]
  intro hc
  rw [List.contains_iff_mem] at hc
  obtain ⟨j, hj, e⟩ := List.mem_iff_getElem.1 hc
  exact h j hj hj e
def hasI (l : List Int) (x : Int) : Bool := l.contains x
theorem has43 (l : List Int) (x : Int) (v : Value) (w : World) (h : IntsAt w v l) : Calls Try.prog 43 #[v, .int .i64 x] w fun e w' => e = .returned (.bool (hasI l x)) ∧ w = w' := by
  obtain ⟨A, ca, rfl, k1, k2, k3, k4⟩ := h
  unfold maxLen at k2
  go_enter Try.func43, Try.ntmps43
  go_wp2
  go_loop [6, 9] (fun _ i => ∃ k : Nat, k ≤ l.length ∧ i = .int .i64 k ∧ Hid (∀ j (hj : j < l.length), j < k → l[j] ≠ x)) (fun _ i => l.length - (intOf i).toNat)
  case atStart => exact ⟨0, by omega, rfl, Lib.hid (fun j hj h => by omega)⟩
  case round =>
    obtain ⟨k, hk, rfl, he⟩ := hrel
    by_cases hlt : k < l.length
    · obtain ⟨ad, rfl⟩ := some_of k3 hlt
      obtain ⟨ba, oa, rfl, c1⟩ := k4 ad rfl k hlt
      have hi0 : (0 : Int) ≤ (k : Int) := by omega
      have hi1 : (k : Int) < (l.length : Int) := by omega
      clear k3 k4
      by_cases hq : l[k] = x
      · have q : (l[k] == x) = true := by simp [hq]
        have HN := Lib.hid (show hasI l x = true by unfold hasI; rw [List.contains_iff_mem, ← hq]; exact List.getElem_mem hlt)
        clear hq
        go_wp2
        go_ret
        exact ⟨by rw [HN.out]; rfl, rfl⟩
      · have q : (l[k] == x) = false := by simp [hq]
        have HE := Lib.hid (contains_not_succ hlt he.out hq)
        clear hq
        go_wp2
        go_round
        case rel => exact ⟨k + 1, by omega, by go_num, HE⟩
        case measure => simp [intOf]; omega
    · obtain rfl : k = l.length := by omega
      have HN := Lib.hid (show hasI l x = false from contains_no he.out)
      go_wp2
      go_ret
      exact ⟨by rw [HN.out]; rfl, rfl⟩
end Go.Proofs.Ytjgndagejogfnaa.F
