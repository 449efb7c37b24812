import Derived.Test.YtcgihilcjijckaaD2
import Derived.BigQuiet
import Derived.WalkSmall
set_option linter.unusedVariables false
set_option linter.unusedSimpArgs false
namespace Go.Proofs.Ytcgihilcjijckaa.F
open Go.RowKit Go.Proofs.Ytcgihilcjijckaa.K
variable (g : Nat) (w : World)
theorem FirstAt.one {R : List On} {n : Nat} {k : Int} (h : FirstAt R n k) : (k < 0 ∧ k = -1 ∧ n = 0) ∨ ∃ (j : Nat) (hj : j < R.length), k = j := by
  rcases h with ⟨h1, h2⟩ | ⟨j, hj, t, h1, h2, h3⟩
  · exact .inl ⟨by omega, h2, h1⟩
  · exact .inr ⟨j, hj, h1⟩
def FirstR (l : List On) (w : World) (e : Ending) (w' : World) : Prop := ∃ k : Int, e = .returned (.int .i64 k) ∧ FirstAt l l.length k ∧ Below w.heap.size w w'
set_option maxHeartbeats 4000000 in
theorem first36 (v : Value) (l : List On) (h : RAt w g v l) : Calls Try.prog 36 #[.pointer (some ⟨g, 0, none⟩)] w (FirstR l w) := by
  have HQ := Lib.hid h
  have c0 := h.c0
  obtain ⟨A, cap, rfl, k1, k2, k3⟩ := h.form
  clear h k3
  unfold maxLen at k2
  go_enter Try.func36, Try.ntmps36
  go_wp2_with fail
  clear c0
  go_loopw [3, 4, 5, 11] (fun kv _ _ i wr => ∃ (n : Nat) (k : Int), n ≤ l.length ∧ i = .int .i64 n ∧ kv = .int .i64 k ∧ Hid (FirstAt l n k) ∧ Below w.heap.size w wr) (fun _ _ _ i _ => l.length - (intOf i).toNat)
  case atStart => exact ⟨0, -1, by omega, rfl, rfl, Lib.hid (first_none _), Below.refl _ _⟩
  case round =>
    obtain ⟨n, k, hn, rfl, rfl, HF, hB⟩ := hrel
    by_cases hnl : n < l.length
    · have QB := Lib.hid (HQ.out.below hB)
      obtain ⟨b, rfl, hbg, d0, d1⟩ := QB.out.cell hnl
      have c0 := QB.out.c0
      obtain ⟨t, htt⟩ : ∃ t, t = l[n] := ⟨_, rfl⟩
      have HS := Lib.hid htt
      rw [← htt] at d0 d1
      clear htt
      obtain ⟨ti, ta⟩ := t
      simp only at d0 d1
      have hi0 : (0 : Int) ≤ (n : Int) := by omega
      have hia : (n : Int) < (l.length : Int) := by omega
      have HB := Lib.hid hB
      have hbl := World.block_lt_of_cell? wr _ d0
      have hgl := World.block_lt_of_cell? wr _ c0
      clear hB
      rcases HF.out.one with ⟨hk, rfl, rfl⟩ | ⟨j, hj, rfl⟩
      · have HN := Lib.hid (first_new HF.out hnl (.inl (by omega)))
        go_upto_region 5 with fail
        go_quiet (fail)
        go_wp2_with fail
        go_roundw
        case rel => exact ⟨0 + 1, 0, by omega, by go_num, rfl, HN, Go.below_drewN (HB.out.alloc HB.out.size _) _⟩
        case measure => simp [intOf]; omega
      · obtain ⟨b', hb', -, -, e1⟩ := QB.out.cell hj
        cases hb'
        obtain ⟨x, hxx⟩ : ∃ x, x = l[j].at_ := ⟨_, rfl⟩
        have HX := Lib.hid hxx
        rw [← hxx] at e1
        clear hxx
        have hj0 : (0 : Int) ≤ (j : Int) := by omega
        have hjl : (j : Int) < (l.length : Int) := by omega
        have hjn : ¬ (j : Int) < 0 := by omega
        by_cases hlt : ta < x
        · have HN := Lib.hid (first_new HF.out hnl (.inr (fun j' hj' e => by obtain rfl : j = j' := (by omega); rw [← HS.out, ← HX.out]; exact hlt)))
          go_upto_region 5 with fail
          go_quiet (fail)
          go_wp2_with fail
          go_roundw
          case rel => exact ⟨n + 1, n, by omega, by go_num, rfl, HN, Go.below_drewN (HB.out.alloc HB.out.size _) _⟩
          case measure => simp [intOf]; omega
        · have HN := Lib.hid (first_keep HF.out hnl hj0 (fun j' hj' e => by obtain rfl : j = j' := (by omega); rw [← HS.out, ← HX.out]; exact hlt))
          go_upto_region 5 with fail
          go_quiet (fail)
          go_wp2_with fail
          go_roundw
          case rel => exact ⟨n + 1, j, by omega, by go_num, rfl, HN, Go.below_drewN (HB.out.alloc HB.out.size _) _⟩
          case measure => simp [intOf]; omega
    · obtain rfl : n = l.length := by omega
      go_wp2_with fail
      go_ret
      exact ⟨_, rfl, HF.out, hB⟩
end Go.Proofs.Ytcgihilcjijckaa.F
