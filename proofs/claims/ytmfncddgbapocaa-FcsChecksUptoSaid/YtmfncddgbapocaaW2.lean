import Derived.Test.YtmfncddgbapocaaProg
import Derived.Test.YtmfncddgbapocaaV
import Derived.Test.YtmfncddgbapocaaW0
import Derived.WalkKit
import Derived.Tactics2
import Derived.RegionTactic
import Derived.Deep.QuietTactic
import Derived.BigQuiet
import Derived.Outline
import Derived.StillTailTactics
import Derived.Deep.LoopGhost
import Derived.Deep.WholeRow
set_option linter.unusedVariables false
set_option linter.unusedSimpArgs false
namespace Go.Proofs.Ytmfncddgbapocaa.F
open Go.RowKit Go.Proofs.Ytmfncddgbapocaa.K
attribute [local go_sem] xor32 and32 shr32 cvw32
theorem on32 (r : BitVec 32) (l : List (BitVec 8)) (A : Option Addr) (cap : Nat) (w : World) (h : ReadsB w A l) (hl : l.length ≤ maxLen) :
  Calls Try.prog 16 #[.int .u32 (v32 r), .slice A l.length cap] w fun e w' => e = .returned (.int .u32 (v32 (crc P32 r l))) ∧ Below w.heap.size w w' := by
  unfold maxLen at hl
  go_enter Try.func16, Try.ntmps16
  go_wp2_with (first | (go_at_call 42; refine (half32 _).mono ?_; rintro e w' ⟨rfl, rfl⟩) | (refine wpList_store_row rfl 61 (.tmp 5) (.tmp 8) rfl _ tab32 rfl rfl 61 _ (heap_alloc2_new _ _ _) (by kernel_rfl) (by kernel_rfl) (by kernel_rfl) ?_))
  generalize hW : World.setRow _ _ _ = W
  have hrow : W.heap[w.heap.size + 1]? = some (.cells tab32 61 (0, 0)) := by rw [← hW]; exact setRow_heap _ _ _ _ _ _ (heap_alloc2_new _ _ _)
  have hbel : Below w.heap.size w W := by
    rw [← hW]
    exact ⟨rfl, rfl, rfl, by simp; omega, fun k hk => by rw [setRow_other _ _ _ _ (by omega), heap_alloc_old _ _ (by simp; omega), heap_alloc_old _ _ hk]⟩
  have htab : ∀ x : BitVec 32, W.cell? ⟨w.heap.size + 1, (v32 (x &&& 15#32)).toNat, none⟩ = some (.int .u32 (v32 (stN P32 4 (x &&& 15#32)))) := fun x => tab32_cell hrow x
  have hx0 : ∀ x : BitVec 32, 0 ≤ v32 (x &&& 15#32) := fun x => (le15_32 x).1
  have hx1 : ∀ x : BitVec 32, v32 (x &&& 15#32) < 16 := fun x => (le15_32 x).2
  clear hW hrow
  go_loop [0, 11] (fun r' i => ∃ k : Nat, k ≤ l.length ∧ i = .int .i64 k ∧ r' = .int .u32 (v32 (crc P32 r (l.take k)))) (fun _ i => l.length - (intOf i).toNat)
  case atStart => exact ⟨0, Nat.zero_le _, rfl, rfl⟩
  case round =>
    obtain ⟨k, hk, rfl, rfl⟩ := hrel
    by_cases hlt : k < l.length
    · obtain ⟨b, o, rfl, hc⟩ := h k hlt
      have hc' : W.cell? ⟨b, o + k, none⟩ = some (.int .u8 (v8 l[k])) := (hbel.cell (World.block_lt_of_cell? w _ hc)).trans hc
      clear hc
      go_wp2
      go_round
      case rel => exact ⟨k + 1, by omega, by go_num, by rw [crc_snoc32 r l k hlt]⟩
      case measure => simp [intOf]; omega
    · go_wp2
      go_ret
      exact ⟨by rw [List.take_of_length_le (by omega)]; rfl, hbel⟩
theorem on32_at (r : BitVec 32) (l : List (BitVec 8)) (v : Value) (w : World) (h : BytesAt w v l) :
  Calls Try.prog 16 #[.int .u32 (v32 r), v] w fun e w' => e = .returned (.int .u32 (v32 (crc P32 r l))) ∧ Below w.heap.size w w' := by
  obtain ⟨A, cap, rfl, h1, h2, h3, h4⟩ := h
  exact on32 r l A cap w (fun j hj => by
    cases A with
    | none => rw [h3 rfl] at hj; cases hj
    | some ad => obtain ⟨b, o, rfl, hc⟩ := h4 ad rfl j hj; exact ⟨b, o, rfl, hc⟩) (Nat.le_trans h1 h2)
end Go.Proofs.Ytmfncddgbapocaa.F
