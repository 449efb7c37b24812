import Derived.Test.YtmfncddgbapocaaX2
import Derived.Outline
set_option linter.unusedVariables false
set_option linter.unusedSimpArgs false
namespace Go.Proofs.Ytmfncddgbapocaa.F
open Go.RowKit Go.Proofs.Ytmfncddgbapocaa.K
attribute [local go_sem high] shrN32 cv8_32 cv8_32' good16_eq good32_eq
theorem refPut (l : List (BitVec 8)) (v : Value) (s : BitVec 32) (n : Nat) (w : World) (h : BytesAt w v l) (hl : l.length ≤ 140737488351232) (hn : n ≤ 4) :
  Calls Try.prog 30 #[v, .int .u32 (v32 s), .int .i64 n] w fun e w' => ∃ u, e = .returned u ∧ w'.ownsRow w.heap.size 5 1 u (l.length + n) ((l ++ sb s n).map b8) ∧ Below w.heap.size w w' := by
  have hsrc := h.src
  obtain ⟨A, cap, rfl, h1, h2, h3, h4⟩ := h
  clear h4
  have h0 := World.ownsRow_nil w w.heap.size 5 1
  go_enter Try.func30, Try.ntmps30
  go_wp2_with (at_builtin; refine wpList_app elB rfl _ _ rfl w.heap.size _ 0 [] rfl h0 _ _ _ rfl hsrc (by simp [maxLen]; omega) (by omega) (Nat.le_refl _) ?_)
  intro v1 w1 ho1 hg1 hn1
  have hb1 : Below w.heap.size w w1 := (Below.refl _ w).grown hg1 (Nat.le_refl _) (by simp [Value.ownBlock])
  clear hn1 hg1 h0
  go_wp2
  go_loopw [7, 8] (fun o i wr => ∃ k : Nat, k ≤ n ∧ i = .int .i64 k ∧ wr.ownsRow w.heap.size 5 1 o (l.length + k) ((l ++ sb s k).map b8) ∧ Below w.heap.size w wr) (fun _ i _ => n - (intOf i).toNat)
  case atStart => exact ⟨0, Nat.zero_le _, rfl, by simpa [sb] using ho1, hb1⟩
  case round =>
    obtain ⟨k, hk, rfl, ho, hb⟩ := hrel
    have hbs := hb.size
    by_cases hlt : k < n
    · go_wp2_with (at_builtin; refine wpList_app elB rfl _ _ rfl w.heap.size _ _ _ rfl (ho.alloc _) _ _ _ rfl (src_one _ _ _ rfl) (by simp [maxLen]; omega) (by omega) (by simp; omega) ?_)
      intro v2 w2 ho2 hg2 hn2
      have b3 := (hb.alloc hbs _).grown hg2 (by simp; omega) (fun k hk => (ho.lt k hk).1)
      clear hg2 hb ho hn2
      go_wp2
      go_roundw
      case rel =>
        refine ⟨k + 1, by omega, by go_num, ?_, b3⟩
        rw [sb_succ, ← Nat.add_assoc]
        simpa [b8] using ho2
      case measure => simp [intOf]; omega
    · obtain rfl : k = n := by omega
      go_wp2
      go_ret
      exact ⟨_, rfl, ho, hb⟩
theorem refGood (l : List (BitVec 8)) (v : Value) (wide : Bool) (w : World) (h : BytesAt w v l) :
  Calls Try.prog 37 #[v, .bool wide] w fun e w' => e = .returned (.bool (if wide then decide (4 ≤ l.length) && good32 l else decide (2 ≤ l.length) && good16 l)) ∧ w' = w := by
  have hh := h
  obtain ⟨A, cap, rfl, -⟩ := h
  cases wide with
  | true =>
    by_cases hn : 4 ≤ l.length
    · have hd : decide ((4 : Int) ≤ (l.length : Int)) = true := by simp; omega
      go_enter Try.func37, Try.ntmps37
      go_wp2_with (go_at_call 32; refine (refOn32 0xffffffff#32 l _ _ hh).mono ?_; rintro e w1 ⟨rfl, rfl⟩)
      go_ret
      exact ⟨by simp [hn], rfl⟩
    · have hd : decide ((4 : Int) ≤ (l.length : Int)) = false := by simp; omega
      go_enter Try.func37, Try.ntmps37
      go_wp2
      go_ret
      exact ⟨by simp [hn], rfl⟩
  | false =>
    by_cases hn : 2 ≤ l.length
    · have hd : decide ((2 : Int) ≤ (l.length : Int)) = true := by simp; omega
      go_enter Try.func37, Try.ntmps37
      go_wp2_with (go_at_call 31; refine (refOn16 0xffff#16 l _ _ hh).mono ?_; rintro e w1 ⟨rfl, rfl⟩)
      go_ret
      exact ⟨by simp [hn], rfl⟩
    · have hd : decide ((2 : Int) ≤ (l.length : Int)) = false := by simp; omega
      go_enter Try.func37, Try.ntmps37
      go_wp2
      go_ret
      exact ⟨by simp [hn], rfl⟩
end Go.Proofs.Ytmfncddgbapocaa.F
