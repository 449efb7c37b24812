import Derived.Test.YtjgndagejogfnaaL2
set_option linter.unusedVariables false
set_option linter.unusedSimpArgs false
namespace Go.Proofs.Ytjgndagejogfnaa.F
open Go.RowKit Go.Proofs.Ytjgndagejogfnaa.K
def stName (s : Int) : ByteArray := if s = 0 then ⟨#[73, 110, 105, 116, 105, 97, 108]⟩ else if s = 1 then ⟨#[83, 116, 97, 114, 116, 105, 110, 103]⟩ else if s = 2 then ⟨#[67, 108, 111, 115, 101, 100]⟩ else if s = 3 then ⟨#[83, 116, 111, 112, 112, 101, 100]⟩ else if s = 4 then ⟨#[67, 108, 111, 115, 105, 110, 103]⟩ else if s = 5 then ⟨#[83, 116, 111, 112, 112, 105, 110, 103]⟩ else if s = 6 then ⟨#[82, 101, 113, 45, 83, 101, 110, 116]⟩ else if s = 7 then ⟨#[65, 99, 107, 45, 82, 99, 118, 100]⟩ else if s = 8 then ⟨#[65, 99, 107, 45, 83, 101, 110, 116]⟩ else if s = 9 then ⟨#[79, 112, 101, 110, 101, 100]⟩ else ⟨#[]⟩
def stNameV : Array Value := #[Value.string { data := #[73, 110, 105, 116, 105, 97, 108] }, Value.string { data := #[83, 116, 97, 114, 116, 105, 110, 103] }, Value.string { data := #[67, 108, 111, 115, 101, 100] }, Value.string { data := #[83, 116, 111, 112, 112, 101, 100] }, Value.string { data := #[67, 108, 111, 115, 105, 110, 103] }, Value.string { data := #[83, 116, 111, 112, 112, 105, 110, 103] }, Value.string { data := #[82, 101, 113, 45, 83, 101, 110, 116] }, Value.string { data := #[65, 99, 107, 45, 82, 99, 118, 100] }, Value.string { data := #[65, 99, 107, 45, 83, 101, 110, 116] }, Value.string { data := #[79, 112, 101, 110, 101, 100] }]
theorem stNameV_at (s : Int) (h0 : 0 ≤ s) (h1 : s < 10) : stNameV[s.toNat]? = some (.string (stName s)) := by
  rcases (show s = 0 ∨ s = 1 ∨ s = 2 ∨ s = 3 ∨ s = 4 ∨ s = 5 ∨ s = 6 ∨ s = 7 ∨ s = 8 ∨ s = 9 by omega) with rfl | rfl | rfl | rfl | rfl | rfl | rfl | rfl | rfl | rfl <;> rfl
set_option maxHeartbeats 4000000 in
theorem stName18 (s : Int) (w : World) : Calls Try.prog 18 #[.int .i64 s] w fun e w' => e = .returned (.string (stName s)) ∧ Below w.heap.size w w' := by
  have hcase : (0 ≤ s ∧ s < 10) ∨ s < 0 ∨ 10 ≤ s := by omega
  rcases hcase with ⟨h0, h1⟩ | hc | hc
  · have hc : (w.alloc (.cells stNameV 69)).cell? ⟨w.heap.size, s.toNat, none⟩ = some (.string (stName s)) := (cell_of_row _ _ _ _ _ _ (heap_alloc_new _ _)).trans (stNameV_at s h0 h1)
    unfold stNameV at hc
    generalize stName s = N at *
    go_enter Try.func18, Try.ntmps18
    go_wp2
    go_ret
    exact ⟨rfl, (Below.refl _ _).alloc (Nat.le_refl _) _⟩
  iterate 2
    · have hn : stName s = ⟨#[]⟩ := by unfold stName; repeat rw [if_neg (by omega)]
      rw [hn]
      clear hn
      go_enter Try.func18, Try.ntmps18
      go_wp2
      go_ret
      exact ⟨rfl, (Below.refl _ _).alloc (Nat.le_refl _) _⟩
set_option maxHeartbeats 4000000 in
theorem stName19 (s : Int) (w : World) : Calls Try.prog 19 #[.int .i64 s] w fun e w' => e = .returned (.string (stName s)) ∧ Below w.heap.size w w' := by
  have hcase : (0 ≤ s ∧ s < 10) ∨ s < 0 ∨ 10 ≤ s := by omega
  rcases hcase with ⟨h0, h1⟩ | hc | hc
  · have hc : (w.alloc (.cells stNameV 9)).cell? ⟨w.heap.size, s.toNat, none⟩ = some (.string (stName s)) := (cell_of_row _ _ _ _ _ _ (heap_alloc_new _ _)).trans (stNameV_at s h0 h1)
    unfold stNameV at hc
    generalize stName s = N at *
    go_enter Try.func19, Try.ntmps19
    go_wp2
    go_ret
    exact ⟨rfl, (Below.refl _ _).alloc (Nat.le_refl _) _⟩
  iterate 2
    · have hn : stName s = ⟨#[]⟩ := by unfold stName; repeat rw [if_neg (by omega)]
      rw [hn]
      clear hn
      go_enter Try.func19, Try.ntmps19
      go_wp2
      go_ret
      exact ⟨rfl, (Below.refl _ _).alloc (Nat.le_refl _) _⟩
def evName (s : Int) : ByteArray := if s = 0 then ⟨#[85, 112]⟩ else if s = 1 then ⟨#[68, 111, 119, 110]⟩ else if s = 2 then ⟨#[79, 112, 101, 110]⟩ else if s = 3 then ⟨#[67, 108, 111, 115, 101]⟩ else if s = 4 then ⟨#[84, 79, 43]⟩ else if s = 5 then ⟨#[84, 79, 45]⟩ else if s = 6 then ⟨#[82, 67, 82, 43]⟩ else if s = 7 then ⟨#[82, 67, 82, 45]⟩ else if s = 8 then ⟨#[82, 67, 65]⟩ else if s = 9 then ⟨#[82, 67, 78]⟩ else if s = 10 then ⟨#[82, 84, 82]⟩ else if s = 11 then ⟨#[82, 84, 65]⟩ else if s = 12 then ⟨#[82, 85, 67]⟩ else if s = 13 then ⟨#[82, 88, 74, 43]⟩ else if s = 14 then ⟨#[82, 88, 74, 45]⟩ else if s = 15 then ⟨#[82, 88, 82]⟩ else ⟨#[]⟩
def evNameV : Array Value := #[Value.string { data := #[85, 112] }, Value.string { data := #[68, 111, 119, 110] }, Value.string { data := #[79, 112, 101, 110] }, Value.string { data := #[67, 108, 111, 115, 101] }, Value.string { data := #[84, 79, 43] }, Value.string { data := #[84, 79, 45] }, Value.string { data := #[82, 67, 82, 43] }, Value.string { data := #[82, 67, 82, 45] }, Value.string { data := #[82, 67, 65] }, Value.string { data := #[82, 67, 78] }, Value.string { data := #[82, 84, 82] }, Value.string { data := #[82, 84, 65] }, Value.string { data := #[82, 85, 67] }, Value.string { data := #[82, 88, 74, 43] }, Value.string { data := #[82, 88, 74, 45] }, Value.string { data := #[82, 88, 82] }]
theorem evNameV_at (s : Int) (h0 : 0 ≤ s) (h1 : s < 16) : evNameV[s.toNat]? = some (.string (evName s)) := by
  rcases (show s = 0 ∨ s = 1 ∨ s = 2 ∨ s = 3 ∨ s = 4 ∨ s = 5 ∨ s = 6 ∨ s = 7 ∨ s = 8 ∨ s = 9 ∨ s = 10 ∨ s = 11 ∨ s = 12 ∨ s = 13 ∨ s = 14 ∨ s = 15 by omega) with rfl | rfl | rfl | rfl | rfl | rfl | rfl | rfl | rfl | rfl | rfl | rfl | rfl | rfl | rfl | rfl <;> rfl
set_option maxHeartbeats 4000000 in
theorem evName20 (s : Int) (w : World) : Calls Try.prog 20 #[.int .i64 s] w fun e w' => e = .returned (.string (evName s)) ∧ Below w.heap.size w w' := by
  have hcase : (0 ≤ s ∧ s < 16) ∨ s < 0 ∨ 16 ≤ s := by omega
  rcases hcase with ⟨h0, h1⟩ | hc | hc
  · have hc : (w.alloc (.cells evNameV 70)).cell? ⟨w.heap.size, s.toNat, none⟩ = some (.string (evName s)) := (cell_of_row _ _ _ _ _ _ (heap_alloc_new _ _)).trans (evNameV_at s h0 h1)
    unfold evNameV at hc
    generalize evName s = N at *
    go_enter Try.func20, Try.ntmps20
    go_wp2
    go_ret
    exact ⟨rfl, (Below.refl _ _).alloc (Nat.le_refl _) _⟩
  iterate 2
    · have hn : evName s = ⟨#[]⟩ := by unfold evName; repeat rw [if_neg (by omega)]
      rw [hn]
      clear hn
      go_enter Try.func20, Try.ntmps20
      go_wp2
      go_ret
      exact ⟨rfl, (Below.refl _ _).alloc (Nat.le_refl _) _⟩
set_option maxHeartbeats 4000000 in
theorem evName21 (s : Int) (w : World) : Calls Try.prog 21 #[.int .i64 s] w fun e w' => e = .returned (.string (evName s)) ∧ Below w.heap.size w w' := by
  have hcase : (0 ≤ s ∧ s < 16) ∨ s < 0 ∨ 16 ≤ s := by omega
  rcases hcase with ⟨h0, h1⟩ | hc | hc
  · have hc : (w.alloc (.cells evNameV 9)).cell? ⟨w.heap.size, s.toNat, none⟩ = some (.string (evName s)) := (cell_of_row _ _ _ _ _ _ (heap_alloc_new _ _)).trans (evNameV_at s h0 h1)
    unfold evNameV at hc
    generalize evName s = N at *
    go_enter Try.func21, Try.ntmps21
    go_wp2
    go_ret
    exact ⟨rfl, (Below.refl _ _).alloc (Nat.le_refl _) _⟩
  iterate 2
    · have hn : evName s = ⟨#[]⟩ := by unfold evName; repeat rw [if_neg (by omega)]
      rw [hn]
      clear hn
      go_enter Try.func21, Try.ntmps21
      go_wp2
      go_ret
      exact ⟨rfl, (Below.refl _ _).alloc (Nat.le_refl _) _⟩
end Go.Proofs.Ytjgndagejogfnaa.F
