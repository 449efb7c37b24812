import Derived.Test.YtmfncddgbapocaaX4
import Derived.Outline
import Derived.Lib.Hide
set_option linter.unusedVariables false
set_option linter.unusedSimpArgs false
namespace Go.Proofs.Ytmfncddgbapocaa.F
open Go.RowKit Go.Proofs.Ytmfncddgbapocaa.K
/-- the first k squared, the others 0 -/
def part (M : List (BitVec 32)) (k : Nat) : List (BitVec 32) := (List.range 32).map fun i => if i < k then tms M (M.getD i 0#32) else 0#32
theorem part_set (M : List (BitVec 32)) (k : Nat) (hk : k < 32) : (mcells (part M k)).setIfInBounds k (.int .u32 (v32 (tms M (M.getD k 0#32)))) = mcells (part M (k + 1)) := by
  apply Array.ext
  · simp [mcells, part]
  · intro i h1 h2
    have hi : i < 32 := by simpa [mcells, part] using h2
    rw [Array.getElem_setIfInBounds]
    · by_cases h : k = i
      · subst h; simp [mcells, part]
      · have e : (i < k + 1) ↔ (i < k) := by omega
        simp [mcells, part, h, e]
    · simpa [mcells, part] using hi
theorem part_all (M : List (BitVec 32)) (hM : M.length = 32) : part M 32 = sq M := by
  apply List.ext_getElem
  · simp [part, sq, hM]
  · intro i h1 h2
    have hi : i < 32 := by simpa [part] using h1
    simp [part, sq, hi, List.getElem?_eq_getElem (show i < M.length by omega)]
theorem below_setRow' {B g : Nat} {w0 w : World} (hb : Below B w0 w) (hBg : B ≤ g) (cs : Array Value) : Below B w0 (w.setRow g cs) :=
  hb.trans ⟨rfl, rfl, rfl, by simp [World.setRow], fun k hk => setRow_other w g k cs (by omega)⟩
theorem info68 : (Try.prog.info? 68).map (·.size) = some 32 := by kernel_rfl
theorem info68_of {M : List (BitVec 32)} (h : M.length = 32) : (Try.prog.info? 68).map (·.size) = some (mcells M).size := by rw [mcells_size, h]; exact info68
theorem square (M : List (BitVec 32)) (g : Nat) (w : World) (hM : M.length = 32) (hg : w.heap[g]? = some (.cells (mcells M) 68 (0, 0))) :
  Calls Try.prog 47 #[.pointer (some ⟨g, 0, none⟩)] w fun e w' => e = .returned (.agg (mcells (sq M))) ∧ Below w.heap.size w w' := by
  have hglt : g < w.heap.size := (Array.getElem?_eq_some_iff.1 hg).1
  have Hg := Lib.hid hg
  clear hg
  go_enter Try.func47, Try.ntmps47
  go_wp2
  generalize hW : World.alloc (World.alloc _ _) _ = W
  have hb0 : Below w.heap.size w W := by rw [← hW]; exact ((Below.refl _ w).alloc (Nat.le_refl _) _).alloc (by simp) _
  have H0 : Hid (∃ Z, Z.size = 32 ∧ W.heap[w.heap.size]? = some (.cells Z 68 (0, 0))) := by rw [← hW]; exact Lib.hid ⟨_, rfl, heap_alloc2_old _ _ _⟩
  have H1 : Hid (W.heap[w.heap.size + 1]? = some (.cells (mcells (part M 0)) 68 (0, 0))) := by rw [← hW]; exact Lib.hid (heap_alloc2_new _ _ _)
  clear hW
  go_loopw [5] (fun i wr => ∃ k : Nat, k ≤ 32 ∧ i = .int .i64 k ∧ Hid (∃ Z, Z.size = 32 ∧ wr.heap[w.heap.size]? = some (.cells Z 68 (0, 0))) ∧ Hid (wr.heap[w.heap.size + 1]? = some (.cells (mcells (part M k)) 68 (0, 0))) ∧ Below w.heap.size w wr) (fun i _ => 32 - (intOf i).toNat)
  case atStart => exact ⟨0, by omega, rfl, H0, H1, hb0⟩
  case round =>
    clear H0 H1 hb0 W
    obtain ⟨k, hk, rfl, H0, H1, hb⟩ := hrel
    by_cases hlt : k < 32
    · have hg' : Hid (wr.heap[g]? = some (.cells (mcells M) 68 (0, 0))) := by rw [hb.block g hglt]; exact Hg
      have hc := mcell hg'.out k (by omega)
      obtain ⟨m, hm⟩ : ∃ m, m = M.getD k 0#32 := ⟨_, rfl⟩
      rw [← hm] at hc
      have Hm := Lib.hid hm
      clear hm
      have hc2 : wr.cell? ⟨w.heap.size + 1, k, none⟩ = some ((mcells (part M k))[k]'(by simp [mcells, part]; omega)) := by rw [cell_of_row _ _ _ _ _ _ H1.out]; exact Array.getElem?_eq_getElem _
      have hf := frozen_of_row wr (w.heap.size + 1) k _ 68 H1.out
      go_wp2_with (go_at_call 48; refine (times M m g wr hM hg'.out).mono ?_; rintro e w1 ⟨rfl, rfl⟩)
      go_roundw
      case rel =>
        refine ⟨k + 1, by omega, by go_num, ?_, ?_, hb.setCell (by simp) _⟩
        · obtain ⟨Z, hZ, hz⟩ := H0
          exact Lib.hid ⟨Z, hZ, by rw [heap_setCell_other _ _ _ _ (by simp)]; exact hz⟩
        · have := heap_setCell_same _ (w.heap.size + 1) k _ 68 (.int .u32 (v32 (tms M m))) H1.out
          rw [Hm.out, part_set M k hlt] at this
          rw [Hm.out]
          exact Lib.hid this
      case measure => simp [intOf]; omega
    · obtain rfl : k = 32 := by omega
      rw [part_all M hM] at H1
      have hsz := info68_of (M := sq M) (by simp [sq, hM])
      have Hsz := Lib.hid hsz
      clear hsz
      have H2 : ∃ Z, Z.size = 32 ∧ wr.heap[w.heap.size]? = some (.cells Z 68 (0, 0)) := H0
      obtain ⟨Z, hZ, hz⟩ := H2
      have Hz := Lib.hid hz
      clear hz H0
      go_wp2_with (first | ((with_reducible show wpList _ _ _ (⟨some 18, _, _, _, _, _⟩ :: _) _ _); refine wpList_load_row (o := ⟨some 18, .load 68 (.tmp 3), _, _, _, _⟩) rfl 68 (.tmp 3) rfl (w.heap.size + 1) (by rfl) 68 (mcells (sq M)) (0, 0) _ H1.out Try.underlying68 (by rfl) Hsz.out ?_) | ((with_reducible show wpList _ _ _ (⟨none, .store 68 _ _, _, _, _, _⟩ :: _) _ _); refine wpList_store_row (o := ⟨none, .store 68 (.tmp 2) (.tmp 18), _, _, _, _⟩) rfl 68 (.tmp 2) (.tmp 18) rfl w.heap.size (mcells (sq M)) (by rfl) (by rfl) 68 Z Hz.out Hsz.out (by rw [hZ, mcells_size]; simp [sq, hM]) (mcells_one _) ?_))
      have hres := setRow_heap wr w.heap.size _ (mcells (sq M)) 68 _ Hz.out
      exact bodyPost_ret (v := .agg (mcells (sq M))) (results_cell_row rfl _ _ w.heap.size 68 _ (0, 0) _ rfl hres Try.underlying68 rfl Hsz.out) rfl ⟨rfl, below_setRow' hb (Nat.le_refl _) _⟩
end Go.Proofs.Ytmfncddgbapocaa.F
