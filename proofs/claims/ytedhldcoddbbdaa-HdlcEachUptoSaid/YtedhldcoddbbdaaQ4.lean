import Derived.Test.YtedhldcoddbbdaaQ3
set_option linter.unusedVariables false
set_option linter.unusedSimpArgs false
set_option linter.unnecessarySimpa false
namespace Go.Proofs.Ytedhldcoddbbdaa.F
open Go.RowKit Go.Proofs.Ytedhldcoddbbdaa.K
def Ln.zero : Ln := ⟨0, fun _ => false, false, false, [], false, false, 0#8, 0, 0, 0, 0, 0, 0⟩
theorem info78 : (Try.prog.info? 78).map (fun i => i.zero) = some (some (.agg (LC Ln.zero (.slice none 0 0)))) := by kernel_rfl
theorem zero78 (w : World) : (zeroValue 78).run Try.prog w = .ok (.agg (LC Ln.zero (.slice none 0 0))) w := zero_of info78 w
def newOk (m a : Int) : Bool := decide (64 ≤ m) && (decide (m ≤ 16384) && mapB a)
theorem new_bad (m a : Int) (p q : Bool) (w : World) (h : newOk m a = false) : Calls Try.prog 26 #[.int .i64 m, .int .i64 a, .bool p, .bool q] w fun e w' => e = .returned (.pointer none) ∧ w = w' := by
  have HR := Lib.hid (fun W => right37 a W)
  unfold newOk at h
  by_cases h1 : 64 ≤ m
  · by_cases h2 : m ≤ 16384
    · have h3 : mapB a = false := by simpa [h1, h2] using h
      rw [h3] at HR
      clear h h3
      go_enter Try.func26, Try.ntmps26
      go_wp2_with fail
      refine (HR.out _).mono ?_
      rintro e w1 ⟨rfl, rfl⟩
      go_wp2_with fail
      go_ret
      exact ⟨rfl, rfl⟩
    · clear h
      go_enter Try.func26, Try.ntmps26
      go_wp2_with fail
      go_ret
      exact ⟨rfl, rfl⟩
  · clear h
    go_enter Try.func26, Try.ntmps26
    go_wp2_with fail
    go_ret
    exact ⟨rfl, rfl⟩
def Ln.start (m : Int) (f : Nat → Bool) (p q : Bool) : Ln := ⟨m, f, p, q, [], false, false, 0#8, 0, 0, 0, 0, 0, 0⟩
theorem built78 (m : Int) (p q : Bool) : Try.prog.built 78 [(0, .int .i64 m), (2, .bool p), (3, .bool q)] = some (LC (Ln.start m (fun _ => false) p q) (.slice none 0 0)) := by kernel_rfl
theorem LC_setdrop (d : Ln) (v : Value) (i : Nat) (h : i < 256) (b : Bool) : (LC d v).setIfInBounds (1 + i) (.bool b) = LC { d with drop := fun j => if j = i then b else d.drop j } v := by
  apply Array.ext_getElem?
  intro j
  rw [Array.getElem?_setIfInBounds]
  by_cases e : 1 + i = j
  · subst e
    rw [if_pos rfl, if_pos (by rw [LC_size]; omega), LC_drop _ _ _ h]
    simp
  · rw [if_neg e]
    by_cases h0 : j = 0
    · subst h0
      rw [LC_mru, LC_mru]
    · by_cases h2 : j < 257
      · obtain ⟨k, rfl⟩ : ∃ k, j = 1 + k := ⟨j - 1, by omega⟩
        rw [LC_drop _ _ _ (by omega), LC_drop _ _ _ (by omega)]
        simp only [if_neg (show ¬ k = i by omega)]
      · by_cases h3 : j < 269
        · obtain ⟨k, rfl⟩ : ∃ k, j = 257 + k := ⟨j - 257, by omega⟩
          rw [LC_tail _ _ _ (by omega), LC_tail _ _ _ (by omega)]
          rfl
        · rw [Array.getElem?_eq_none (by rw [LC_size]; omega), Array.getElem?_eq_none (by rw [LC_size]; omega)]
theorem upon_val {o : Oper} {a : Act} {w : World} {next : Act → World → Prop} {Q : Exit → Act → World → Prop} {r : Result Next} {v : Value} (hr : r = .ok (.value v) w) (h : next (a.put o.dst v) w) : Oper.upon Try.prog o a next Q r := by rw [hr]; exact h
def dropF (a : Int) (i : Nat) : Bool := decide (i < 32) && bitB a i
set_option maxHeartbeats 4000000 in
set_option maxRecDepth 100000 in
theorem new26 (m a : Int) (p q : Bool) (w : World) (h : newOk m a = true) : Calls Try.prog 26 #[.int .i64 m, .int .i64 a, .bool p, .bool q] w fun e w' => e = .returned (.pointer (some ⟨w.heap.size, 0, none⟩)) ∧ LnAt w' w.heap.size (Ln.start m (dropF a) p q) (.slice none 0 0) ∧ Below w.heap.size w w' := by
  have HR := Lib.hid (fun W => right37 a W)
  unfold newOk at h
  simp only [Bool.and_eq_true, decide_eq_true_eq] at h
  obtain ⟨h1, h2, h3⟩ := h
  have h4 := h3
  unfold mapB at h4
  simp only [Bool.and_eq_true, decide_eq_true_eq] at h4
  obtain ⟨h5, h6⟩ := h4
  rw [h3] at HR
  clear h3
  have hb := (Below.refl w.heap.size w).alloc (Nat.le_refl _) (.cells (LC (Ln.start m (fun _ => false) p q) (.slice none 0 0)) 78)
  have HB := Lib.hid hb
  have HN := Lib.hid (heap_alloc_new w (.cells (LC (Ln.start m (fun _ => false) p q) (.slice none 0 0)) 78))
  clear hb
  go_enter Try.func26, Try.ntmps26
  go_wp2_with fail
  refine (HR.out _).mono ?_
  rintro e w1 ⟨rfl, rfl⟩
  have HBd := Lib.hid (built78 m p q)
  generalize hLC : LC (Ln.start m (fun _ => false) p q) (.slice none 0 0) = lc at *
  go_upto_region 4 with (refine upon_val (v := .agg lc) (w := w) (by rw [zero78, ← hLC]; kernel_rfl) ?_)
  clear HR HBd
  subst hLC
  generalize w.alloc (.cells (LC (Ln.start m (fun _ => false) p q) (.slice none 0 0)) 78) = W0 at *
  go_wp2_with fail
  go_loopw [10, 27] (fun _ i wr => ∃ (k : Nat), k ≤ 32 ∧ i = .int .i64 k ∧ Hid (Below w.heap.size w wr) ∧ Hid (wr.heap[w.heap.size]? = some (.cells (LC (Ln.start m (fun j => decide (j < k) && bitB a j) p q) (.slice none 0 0)) 78 (0, 0)))) (fun _ i _ => 32 - (intOf i).toNat)
  case atStart => exact ⟨0, by omega, rfl, HB, Lib.hid (by simpa using HN.out)⟩
  case round =>
    clear HB HN
    obtain ⟨k, hk, rfl, HB, HM⟩ := hrel
    by_cases hkl : k < 32
    · have d0 : wr.cell? ⟨w.heap.size, 1 + k, none⟩ = some (.bool (decide (k < k) && bitB a k)) := (cell_of_row _ _ _ _ _ _ HM.out).trans (LC_drop _ _ k (by omega))
      have f0 : wr.frozen? ⟨w.heap.size, 1 + k, none⟩ = false := frozen_of_row _ _ _ _ _ HM.out
      have i0 : (0 : Int) ≤ (k : Int) := by omega
      have i1 : (k : Int) < 256 := by omega
      have i2 : (k : Int) < 32 := by omega
      have a1 := and1 (a / 2 ^ k) (Int.ediv_nonneg h5 (by exact Int.le_of_lt (Int.pow_pos (by omega)))) (Int.le_trans (Int.ediv_le_self _ h5) (by omega))
      have hz : (a / 2 ^ k % 2 == 1) = bitB a k := by unfold bitB; rw [Bool.eq_iff_iff]; simp
      go_wp2_with fail
      go_region
      go_wp2_with fail
      go_roundw
      case rel =>
        refine ⟨k + 1, by omega, by go_num, Lib.hid (HB.out.setCell (p := ⟨w.heap.size, 1 + k, none⟩) (by simp) _).drew, Lib.hid ?_⟩
        refine (heap_setCell_same _ _ _ _ _ _ HM.out).trans ?_
        rw [LC_setdrop _ _ k (by omega)]
        congr 3
        unfold Ln.start
        congr 1
        funext j
        by_cases e : j = k
        · subst e
          simp [hz]
        · simp only [if_neg e]
          by_cases h : j < k
          · simp [h, show j < k + 1 by omega]
          · simp [h, show ¬ j < k + 1 by omega]
      case measure => simp [intOf]; omega
    · obtain rfl : k = 32 := by omega
      go_wp2_with fail
      go_ret
      exact ⟨rfl, ⟨HM.out, Row.nil _ _ _ _, by simp [Value.ownBlock]⟩, HB.out⟩
end Go.Proofs.Ytedhldcoddbbdaa.F
