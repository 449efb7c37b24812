import Derived.Test.YtmfncddgbapocaaX5
import Derived.Outline
import Derived.Lib.Hide
import Derived.Laws.BitsLemmas
set_option linter.unusedVariables false
set_option linter.unusedSimpArgs false
namespace Go.Proofs.Ytmfncddgbapocaa.F
open Go.RowKit Go.Proofs.Ytmfncddgbapocaa.K
theorem mat0_set (p : BitVec 32) (k : Nat) (h0 : 0 < k) (hk : k < 32) : (mcells (mat0 p k)).setIfInBounds k (.int .u32 (v32 (1#32 <<< (k - 1)))) = mcells (mat0 p (k + 1)) := by
  apply Array.ext
  · simp [mcells, mat0]
  · intro i h1 h2
    have hi : i < 32 := by simpa [mcells, mat0] using h2
    rw [Array.getElem_setIfInBounds]
    · by_cases h : k = i
      · subst h; simp [mcells, mat0]; rw [if_neg (by omega)]
      · have e : (i < k + 1) ↔ (i < k) := by omega
        simp [mcells, mat0, h, e]
    · simpa [mcells, mat0] using hi
theorem pow_v32 (j : Nat) (h : j < 32) : (2 : Int) ^ j % 4294967296 = v32 (1#32 <<< j) := by
  have : ∀ i : Fin 32, (2 : Int) ^ i.val % 4294967296 = v32 (1#32 <<< i.val) := by decide +kernel
  exact this ⟨j, h⟩
theorem mat0_one (p : BitVec 32) : mcells (mat0 p 1) = #[Value.int .u32 (v32 p), .int .u32 0, .int .u32 0, .int .u32 0, .int .u32 0, .int .u32 0, .int .u32 0, .int .u32 0, .int .u32 0, .int .u32 0, .int .u32 0, .int .u32 0, .int .u32 0, .int .u32 0, .int .u32 0, .int .u32 0, .int .u32 0, .int .u32 0, .int .u32 0, .int .u32 0, .int .u32 0, .int .u32 0, .int .u32 0, .int .u32 0, .int .u32 0, .int .u32 0, .int .u32 0, .int .u32 0, .int .u32 0, .int .u32 0, .int .u32 0, .int .u32 0] := by rfl
theorem odd_beq (N : Nat) (hN : N ≤ 9223372036854775807) : (bits .and .i64 (N : Int) 1 == 1) = decide (N % 2 = 1) := by
  have h := bits_mask .i64 63 (by decide) (fun n h0 h1 => by simp [IntKind.wrap, IntKind.bits, IntKind.signed]; omega) 1 (by omega) (N : Int) (by omega) (by omega)
  rw [show ((2 : Int) ^ 1 - 1) = 1 from rfl, show ((2 : Int) ^ 1) = 2 from rfl] at h
  rw [h, Bool.eq_iff_iff, beq_iff_eq, decide_eq_true_iff]
  omega
theorem mat0_len (p : BitVec 32) (k : Nat) : (mat0 p k).length = 32 := by simp [mat0]
theorem far (p mask r : BitVec 32) (n b : Nat) (w : World) (hb1 : 1 ≤ b) (hb2 : b ≤ 32) (hn : n ≤ 9223372036854775807) (hm : Mask p mask) (hr : r &&& mask = r) (h0 : isMat (mat0 p b) (fj p mask 1)) :
  Calls Try.prog 44 #[.int .u32 (v32 r), .int .i64 n, .int .u32 (v32 p), .int .i64 b] w fun e w' => e = .returned (.int .u32 (v32 (stN p (8 * n) r))) ∧ Below w.heap.size w w' := by
  have HM := Lib.hid hm
  have HR := Lib.hid hr
  clear hr
  go_enter Try.func44, Try.ntmps44
  go_wp2
  generalize hW : World.alloc _ _ = W
  have hbW : Below w.heap.size w W := by rw [← hW]; exact (Below.refl _ w).alloc (Nat.le_refl _) _
  have H1 : Hid (W.heap[w.heap.size]? = some (.cells (mcells (mat0 p 1)) 68 (0, 0))) := by rw [← hW, mat0_one]; exact Lib.hid (heap_alloc_new _ _)
  clear hW
  go_loopw [10] (fun i wr => ∃ k : Nat, 1 ≤ k ∧ k ≤ b ∧ i = .int .i64 k ∧ Hid (wr.heap[w.heap.size]? = some (.cells (mcells (mat0 p k)) 68 (0, 0))) ∧ Below w.heap.size w wr) (fun i _ => b - (intOf i).toNat)
  case atStart => exact ⟨1, by omega, hb1, rfl, H1, hbW⟩
  case round =>
    clear H1 hbW W
    obtain ⟨k, hk0, hk, rfl, H1, hb⟩ := hrel
    by_cases hlt : k < b
    · have hc2 : wr.cell? ⟨w.heap.size, k, none⟩ = some ((mcells (mat0 p k))[k]'(by simp [mcells, mat0]; omega)) := by rw [cell_of_row _ _ _ _ _ _ H1.out]; exact Array.getElem?_eq_getElem _
      have hf := frozen_of_row wr w.heap.size k _ 68 H1.out
      go_wp2
      go_roundw
      case rel =>
        refine ⟨k + 1, by omega, by omega, by go_num, ?_, hb.setCell (Nat.le_refl _) _⟩
        have := heap_setCell_same wr w.heap.size k _ 68 (.int .u32 (v32 (1#32 <<< (k - 1)))) H1.out
        rw [mat0_set p k (by omega) (by omega)] at this
        rw [pow_v32 (k - 1) (by omega)]
        exact Lib.hid this
      case measure => simp [intOf]; omega
    · obtain rfl : k = b := by omega
      go_wp2
      go_loopw [23] (fun i wr => ∃ j : Nat, ∃ M, j ≤ 3 ∧ i = .int .i64 j ∧ Hid (isMat M (fj p mask (2 ^ j)) ∧ wr.heap[w.heap.size]? = some (.cells (mcells M) 68 (0, 0))) ∧ Below w.heap.size w wr) (fun i _ => 3 - (intOf i).toNat)
      case atStart => exact ⟨0, _, by omega, rfl, Lib.hid ⟨h0, H1.out⟩, hb⟩
      case round =>
        clear hb H1
        obtain ⟨j, M, hj, rfl, H1, hb⟩ := hrel
        by_cases hlt3 : j < 3
        · go_wp2_with (first | (go_at_call 47; refine (square M w.heap.size _ H1.out.1.1 H1.out.2).mono ?_; rintro e w1 ⟨rfl, hb1'⟩) | ((with_reducible show wpList _ _ _ (⟨none, .store 68 (.tmp 9) (.tmp 25), _, _, _, _⟩ :: _) _ _); refine wpList_store_row rfl 68 (.tmp 9) (.tmp 25) rfl w.heap.size (mcells (sq M)) (by rfl) (by rfl) 68 (mcells M) ((hb1'.block _ (Array.getElem?_eq_some_iff.1 H1.out.2).1).trans H1.out.2) (info68_of (by simp [sq, H1.out.1.1])) (by simp [mcells_size, sq]) (mcells_one _) ?_))
          go_roundw
          case rel =>
            refine ⟨j + 1, sq M, by omega, by go_num, Lib.hid ⟨?_, setRow_heap _ _ _ _ _ _ ((hb1'.block _ (Array.getElem?_eq_some_iff.1 H1.out.2).1).trans H1.out.2)⟩, below_setRow' (below_then hb hb1') (Nat.le_refl _) _⟩
            have := sq_mat HM.out H1.out.1
            rwa [show 2 * 2 ^ j = 2 ^ (j + 1) by rw [Nat.pow_succ, Nat.mul_comm]] at this
          case measure => simp [intOf]; omega
        · have hj3 : j = 3 := by omega
          have h8 : isMat M (fj p mask (8 * 2 ^ 0)) := by have := H1.out.1; rw [hj3] at this; exact this
          have H8 := Lib.hid h8
          clear hj3 h8
          go_wp2
          go_loopw [0, 1] (fun x i wr => ∃ N t : Nat, ∃ V M, N ≤ n ∧ i = .int .i64 N ∧ x = .int .u32 (v32 V) ∧ Hid (isMat M (fj p mask (8 * 2 ^ t)) ∧ wr.heap[w.heap.size]? = some (.cells (mcells M) 68 (0, 0)) ∧ V &&& mask = V ∧ stN p (8 * 2 ^ t * N) V = stN p (8 * n) r) ∧ Below w.heap.size w wr) (fun _ i _ => (intOf i).toNat)
          case atStart => exact ⟨n, 0, r, M, Nat.le_refl _, rfl, rfl, Lib.hid ⟨H8.out, H1.out.2, HR.out, by simp⟩, hb⟩
          case round =>
            clear hb H1 H8 M
            obtain ⟨N, t, V, M, hN, rfl, rfl, H1, hb⟩ := hrel
            by_cases hN0 : N = 0
            · have e : V = stN p (8 * n) r := by rw [← H1.out.2.2.2, hN0]; rfl
              have E := Lib.hid e
              clear e
              subst hN0
              go_wp2
              go_ret
              exact ⟨by rw [← E.out]; rfl, hb⟩
            · have hpos : 0 < N := by omega
              have hob := odd_beq N (by omega)
              have hsq := sq_mat HM.out H1.out.1
              rw [show 2 * (8 * 2 ^ t) = 8 * 2 ^ (t + 1) by rw [Nat.pow_succ]; omega] at hsq
              have HS := Lib.hid hsq
              clear hsq
              by_cases hodd : N % 2 = 1
              · have hl : (bits .and .i64 (N : Int) 1 == 1) = true := by rw [hob]; simp [hodd]
                clear hob
                have hV : tms M V = stN p (8 * 2 ^ t) V := by rw [tms_lin (fj_lin _ _ _) H1.out.1, stN_fixed _ _ H1.out.2.2.1]
                have HV := Lib.hid hV
                clear hV
                go_wp2_with (first | (go_at_call 48; refine (times M V w.heap.size _ H1.out.1.1 H1.out.2.1).mono ?_; rintro e w1 ⟨rfl, rfl⟩) | (go_at_call 47; refine (square M w.heap.size _ H1.out.1.1 H1.out.2.1).mono ?_; rintro e w2 ⟨rfl, hb1'⟩) | ((with_reducible show wpList _ _ _ (⟨none, .store 68 (.tmp 9) (.tmp 36), _, _, _, _⟩ :: _) _ _); refine wpList_store_row rfl 68 (.tmp 9) (.tmp 36) rfl w.heap.size (mcells (sq M)) (by rfl) (by rfl) 68 (mcells M) ((hb1'.block _ (Array.getElem?_eq_some_iff.1 H1.out.2.1).1).trans H1.out.2.1) (info68_of (by simp [sq, H1.out.1.1])) (by simp [mcells_size, sq]) (mcells_one _) ?_))
                go_roundw
                case rel =>
                  refine ⟨N / 2, t + 1, tms M V, sq M, by omega, by go_num, rfl, Lib.hid ⟨HS.out, setRow_heap _ _ _ _ _ _ ((hb1'.block _ (Array.getElem?_eq_some_iff.1 H1.out.2.1).1).trans H1.out.2.1), ?_, ?_⟩, below_setRow' (below_then hb hb1') (Nat.le_refl _) _⟩
                  · rw [HV.out]; exact HM.out.steps _ _ H1.out.2.2.1
                  · rw [HV.out, ← stN_add, ← H1.out.2.2.2]
                    congr 1
                    have e : N = 2 * (N / 2) + 1 := by omega
                    generalize N / 2 = h at e
                    subst e
                    rw [Nat.pow_succ, Nat.mul_add, ← Nat.mul_assoc, ← Nat.mul_assoc, Nat.mul_one]
                    omega
                case measure => simp [intOf]; omega
              · have hl : (bits .and .i64 (N : Int) 1 == 1) = false := by rw [hob]; simp [hodd]
                clear hob
                go_wp2_with (first | (go_at_call 47; refine (square M w.heap.size _ H1.out.1.1 H1.out.2.1).mono ?_; rintro e w2 ⟨rfl, hb1'⟩) | ((with_reducible show wpList _ _ _ (⟨none, .store 68 (.tmp 9) (.tmp 36), _, _, _, _⟩ :: _) _ _); refine wpList_store_row rfl 68 (.tmp 9) (.tmp 36) rfl w.heap.size (mcells (sq M)) (by rfl) (by rfl) 68 (mcells M) ((hb1'.block _ (Array.getElem?_eq_some_iff.1 H1.out.2.1).1).trans H1.out.2.1) (info68_of (by simp [sq, H1.out.1.1])) (by simp [mcells_size, sq]) (mcells_one _) ?_))
                go_roundw
                case rel =>
                  refine ⟨N / 2, t + 1, V, sq M, by omega, by go_num, rfl, Lib.hid ⟨HS.out, setRow_heap _ _ _ _ _ _ ((hb1'.block _ (Array.getElem?_eq_some_iff.1 H1.out.2.1).1).trans H1.out.2.1), H1.out.2.2.1, ?_⟩, below_setRow' (below_then hb hb1') (Nat.le_refl _) _⟩
                  rw [← H1.out.2.2.2]
                  congr 1
                  have e : N = 2 * (N / 2) := by omega
                  generalize N / 2 = h at e
                  subst e
                  rw [Nat.pow_succ, ← Nat.mul_assoc, ← Nat.mul_assoc]
                case measure => simp [intOf]; omega
end Go.Proofs.Ytmfncddgbapocaa.F
