import Derived.Test.YtedhldcoddbbdaaU3
set_option linter.unusedVariables false
set_option linter.unusedSimpArgs false
set_option linter.unnecessarySimpa false
namespace Go.Proofs.Ytedhldcoddbbdaa.F
open Go.RowKit Go.Proofs.Ytedhldcoddbbdaa.K
/-- 256 of them -/
def MK (f : Nat → Bool) : Array Value := ((List.range 256).map (fun i => Value.bool (f i))).toArray
theorem info74 : (Try.prog.info? 74).map (fun i => i.zero) = some (some (.agg (MK fun _ => false))) := by kernel_rfl
theorem zero_of {P : Program} {t : TypeId} {v : Value} (h : (P.info? t).map (fun i => i.zero) = some (some v)) (w : World) : (zeroValue t).run P w = .ok v w := by
  cases hi : P.info? t with
  | none => rw [hi] at h; cases h
  | some i =>
    rw [hi] at h
    simp only [Option.map_some, Option.some.injEq] at h
    simp [zeroValue, run_typeInfo w hi, h]
theorem zero74 (w : World) : (zeroValue 74).run Try.prog w = .ok (.agg (MK fun _ => false)) w := zero_of info74 w
theorem MK_size (f : Nat → Bool) : (MK f).size = 256 := by simp [MK]
theorem MK_get (f : Nat → Bool) (i : Nat) (h : i < 256) : (MK f)[i]? = some (.bool (f i)) := by simp [MK, h]
theorem MK_set (f : Nat → Bool) (i : Nat) (h : i < 256) (b : Bool) : (MK f).setIfInBounds i (.bool b) = MK (fun j => if j = i then b else f j) := by
  apply Array.ext_getElem?
  intro j
  by_cases hj : j < 256
  · rw [MK_get _ j hj, Array.getElem?_setIfInBounds]
    by_cases e : i = j
    · subst e; simp [MK_size, h]
    · rw [if_neg e, MK_get _ j hj, if_neg (fun q => e q.symm)]
  · rw [Array.getElem?_eq_none (by rw [Array.size_setIfInBounds, MK_size]; omega), Array.getElem?_eq_none (by rw [MK_size]; omega)]
def bitB (a : Int) (i : Nat) : Bool := decide (a / 2 ^ i % 2 = 1)
/-- which bytes are escaped -/
def mk (a : Int) (i : Nat) : Bool := (decide (i < 32) && bitB a i) || (decide (i = 125) || decide (i = 126))
theorem marks41 (a : Int) (h0 : 0 ≤ a) (h1 : a ≤ 4294967295) (w : World) : Calls Try.prog 41 #[.int .i64 a] w fun e w' => e = .returned (.agg (MK (mk a))) ∧ Below w.heap.size w w' := by
  have hz := zero74
  have B0 : Hid (Below w.heap.size w ((w.alloc (.cells (MK fun _ => false) 74)).alloc (.cells (MK fun _ => false) 74)) ∧ ((w.alloc (.cells (MK fun _ => false) 74)).alloc (.cells (MK fun _ => false) 74)).heap[w.heap.size]? = some (.cells (MK fun _ => false) 74 (0, 0)) ∧ ((w.alloc (.cells (MK fun _ => false) 74)).alloc (.cells (MK fun _ => false) 74)).heap[w.heap.size + 1]? = some (.cells (MK fun _ => false) 74 (0, 0))) := Lib.hid (by
    refine ⟨((Below.refl _ w).alloc (Nat.le_refl _) _).alloc (by simp) _, ?_, ?_⟩
    · rw [Below.heap_alloc _ _ _ (by simp)]
      exact heap_alloc_new w _
    · have := heap_alloc_new (w.alloc (.cells (MK fun _ => false) 74)) (.cells (MK fun _ => false) 74)
      rwa [World.size_alloc] at this)
  go_enter Try.func41, Try.ntmps41
  go_wp2_with fail
  generalize (w.alloc (.cells (MK fun _ => false) 74)).alloc (.cells (MK fun _ => false) 74) = W0 at *
  clear hz
  go_loopw [4, 5] (fun _ i wr => ∃ (k : Nat), k ≤ 32 ∧ i = .int .i64 k ∧ Hid (Below w.heap.size w wr) ∧ Hid (wr.heap[w.heap.size]? = some (.cells (MK fun _ => false) 74 (0, 0))) ∧ Hid (wr.heap[w.heap.size + 1]? = some (.cells (MK fun j => decide (j < k) && bitB a j) 74 (0, 0)))) (fun _ i _ => 32 - (intOf i).toNat)
  case atStart => exact ⟨0, by omega, rfl, Lib.hid B0.out.1, Lib.hid B0.out.2.1, Lib.hid (by simpa using B0.out.2.2)⟩
  case round =>
    clear B0
    obtain ⟨k, hk, rfl, HB, HR, HM⟩ := hrel
    by_cases hkl : k < 32
    · have d0 : wr.cell? ⟨w.heap.size + 1, k, none⟩ = some (.bool (decide (k < k) && bitB a k)) := (cell_of_row _ _ _ _ _ _ HM.out).trans (MK_get _ k (by omega))
      have f0 : wr.frozen? ⟨w.heap.size + 1, k, none⟩ = false := frozen_of_row _ _ _ _ _ HM.out
      have i0 : (0 : Int) ≤ (k : Int) := by omega
      have i1 : (k : Int) < 256 := by omega
      have i2 : (k : Int) < 32 := by omega
      have a1 := and1 (a / 2 ^ k) (Int.ediv_nonneg h0 (by exact Int.le_of_lt (Int.pow_pos (by omega)))) (Int.le_trans (Int.ediv_le_self _ h0) (by omega))
      have hz : (a / 2 ^ k % 2 == 1) = bitB a k := by unfold bitB; rw [Bool.eq_iff_iff]; simp
      go_wp2_with fail
      go_roundw
      case rel =>
        refine ⟨k + 1, by omega, by go_num, Lib.hid (HB.out.setCell (p := ⟨w.heap.size + 1, k, none⟩) (by simp) _), Lib.hid ((heap_setCell_other _ _ _ _ (by simp)).trans HR.out), Lib.hid ?_⟩
        refine (heap_setCell_same _ _ _ _ _ _ HM.out).trans ?_
        rw [MK_set _ k (by omega)]
        congr 3
        funext j
        by_cases e : j = k
        · subst e
          simp [hz]
        · simp only [if_neg e]
          by_cases h : j < k
          · simp [h, show j < k + 1 by omega]
          · simp [h, show ¬ j < k + 1 by omega]
      case measure => simp [intOf]; omega
    · obtain rfl : k = 32 := by omega
      have d1 : wr.cell? ⟨w.heap.size + 1, 126, none⟩ = some (.bool (decide (126 < 32) && bitB a 126)) := (cell_of_row _ _ _ _ _ _ HM.out).trans (MK_get _ 126 (by omega))
      have d2 : wr.cell? ⟨w.heap.size + 1, 125, none⟩ = some (.bool (decide (125 < 32) && bitB a 125)) := (cell_of_row _ _ _ _ _ _ HM.out).trans (MK_get _ 125 (by omega))
      have f1 : wr.frozen? ⟨w.heap.size + 1, 126, none⟩ = false := frozen_of_row _ _ _ _ _ HM.out
      have f2 : wr.frozen? ⟨w.heap.size + 1, 125, none⟩ = false := frozen_of_row _ _ _ _ _ HM.out
      go_upto_region 8 with fail
      have HB2 := Lib.hid ((HB.out.setCell (p := ⟨w.heap.size + 1, 126, none⟩) (by simp) (.bool true)).setCell (p := ⟨w.heap.size + 1, 125, none⟩) (by simp) (.bool true))
      have HR2 : Hid (((wr.setCell ⟨w.heap.size + 1, 126, none⟩ (.bool true)).setCell ⟨w.heap.size + 1, 125, none⟩ (.bool true)).heap[w.heap.size]? = some (.cells (MK fun _ => false) 74 (0, 0))) := Lib.hid ((heap_setCell_other _ _ _ _ (by simp)).trans ((heap_setCell_other _ _ _ _ (by simp)).trans HR.out))
      have hm2 := heap_setCell_same _ _ 125 _ _ (.bool true) (heap_setCell_same _ _ 126 _ _ (.bool true) HM.out)
      rw [MK_set _ 126 (by omega), MK_set _ 125 (by omega)] at hm2
      have hmk : (fun j => if j = 125 then true else if j = 126 then true else decide (j < 32) && bitB a j) = mk a := by
        funext j
        unfold mk
        by_cases e : j = 125
        · simp [e]
        · by_cases e2 : j = 126
          · simp [e2]
          · simp [e, e2]
      rw [hmk] at hm2
      have HM2 := Lib.hid hm2
      clear d1 d2 f1 f2 hm2 hmk HB HR HM
      generalize (wr.setCell ⟨w.heap.size + 1, 126, none⟩ (.bool true)).setCell ⟨w.heap.size + 1, 125, none⟩ (.bool true) = w2 at *
      have hi74 : (Try.prog.info? 74).map (·.size) = some (MK (mk a)).size := by rw [MK_size]; kernel_rfl
      go_wp2_with (first | (refine wpList_load_row rfl 74 (.tmp 3) rfl (w.heap.size + 1) rfl 74 (MK (mk a)) (0, 0) _ HM2.out Try.underlying74 rfl hi74 ?_) | (refine wpList_store_row rfl 74 (.tmp 2) (.tmp 18) rfl w.heap.size (MK (mk a)) (by rfl) (by rfl) 74 _ HR2.out hi74 (by rw [MK_size, MK_size]) (by simp [MK, Value.oneCell']) ?_))
      refine bodyPost_ret (v := .agg (MK (mk a))) (results_cell_row rfl _ _ w.heap.size 74 (MK (mk a)) (0, 0) _ rfl (setRow_heap _ _ _ _ _ _ HR2.out) Try.underlying74 rfl hi74) rfl ⟨rfl, ?_⟩
      refine ⟨HB2.out.os, HB2.out.tape, HB2.out.output, by have := HB2.out.size; simpa [World.setRow] using this, fun k hk => ?_⟩
      rw [setRow_other _ _ _ _ (by omega)]
      exact HB2.out.block k hk
end Go.Proofs.Ytedhldcoddbbdaa.F
