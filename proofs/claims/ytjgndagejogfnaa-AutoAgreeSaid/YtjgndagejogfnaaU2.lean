import Derived.Test.YtjgndagejogfnaaU1
import Derived.LoopTactic
set_option linter.unusedVariables false
set_option linter.unusedSimpArgs false
namespace Go.Proofs.Ytjgndagejogfnaa.F
open Go.RowKit Go.Proofs.Ytjgndagejogfnaa.K
def wordsL : List (List UInt8) := [[], [116, 108, 117], [116, 108, 100], [116, 108, 115], [116, 108, 102], [105, 114, 99], [122, 114, 99], [115, 99, 114], [115, 99, 97], [115, 99, 110], [115, 116, 114], [115, 116, 97], [115, 99, 106], [115, 101, 114]]
def wordA (k : Nat) : ByteArray := ⟨(wordsL.getD k []).toArray⟩
def wordsV : Array Value := #[Value.string { data := #[] }, Value.string { data := #[116, 108, 117] }, Value.string { data := #[116, 108, 100] }, Value.string { data := #[116, 108, 115] }, Value.string { data := #[116, 108, 102] }, Value.string { data := #[105, 114, 99] }, Value.string { data := #[122, 114, 99] }, Value.string { data := #[115, 99, 114] }, Value.string { data := #[115, 99, 97] }, Value.string { data := #[115, 99, 110] }, Value.string { data := #[115, 116, 114] }, Value.string { data := #[115, 116, 97] }, Value.string { data := #[115, 99, 106] }, Value.string { data := #[115, 101, 114] }]
theorem wordsV_at (k : Nat) (h : k < 14) : wordsV[k]? = some (.string (wordA k)) := by
  have : ∀ i : Fin 14, wordsV[i.val]? = some (.string (wordA i.val)) := by
    intro i
    obtain ⟨i, hi⟩ := i
    rcases (show i = 0 ∨ i = 1 ∨ i = 2 ∨ i = 3 ∨ i = 4 ∨ i = 5 ∨ i = 6 ∨ i = 7 ∨ i = 8 ∨ i = 9 ∨ i = 10 ∨ i = 11 ∨ i = 12 ∨ i = 13 by omega) with rfl | rfl | rfl | rfl | rfl | rfl | rfl | rfl | rfl | rfl | rfl | rfl | rfl | rfl <;> rfl
  exact this ⟨k, h⟩
def wordOf (l : List UInt8) : Int := (((List.range 14).find? fun k => wordsL.getD k [] == l).getD 0 : Nat)
theorem wordA_list (k : Nat) : (wordA k).toList = wordsL.getD k [] := by rw [ByteArray.toList_eq]; simp [wordA]
theorem wordOf_hit {l : List UInt8} {k : Nat} (hk : k < 14) (h : (wordsL.getD k [] == l) = true) (hn : ∀ j, j < k → (wordsL.getD j [] == l) = false) : wordOf l = k := by
  have : (List.range 14).find? (fun k => wordsL.getD k [] == l) = some k := by
    rw [List.find?_range_eq_some]
    exact ⟨h, by simpa using hk, fun j hj => by rw [hn j hj]; rfl⟩
  unfold wordOf
  rw [this]
  rfl
theorem wordOf_miss {l : List UInt8} (hn : ∀ j, j < 14 → (wordsL.getD j [] == l) = false) : wordOf l = 0 := by
  have : (List.range 14).find? (fun k => wordsL.getD k [] == l) = none := by
    rw [List.find?_eq_none]
    intro x hx
    rw [hn x (by simpa using hx)]
    simp
  unfold wordOf
  rw [this]
  rfl
theorem action40 (s : ByteArray) (w : World) : Calls Try.prog 40 #[.string s] w fun e w' => e = .returned (.int .i64 (wordOf s.data.toList)) ∧ Below w.heap.size w w' := by
  have hs : s.toList = s.data.toList := ByteArray.toList_eq s
  go_enter Try.func40, Try.ntmps40
  go_wp2
  go_loop [3, 4, 7] (fun _ _ i => ∃ k : Nat, k ≤ 14 ∧ i = .int .i64 k ∧ Hid (∀ j, j < k → (wordsL.getD j [] == s.data.toList) = false)) (fun _ _ i => 14 - (intOf i).toNat)
  case atStart => exact ⟨0, by omega, rfl, Lib.hid (fun j hj => by omega)⟩
  case round =>
    obtain ⟨k, hk, rfl, hn⟩ := hrel
    have Hs := Lib.hid hs
    clear hs
    by_cases hlt : k < 14
    · have hc : (w.alloc (.cells wordsV 9)).cell? ⟨w.heap.size, k, none⟩ = some (.string (wordA k)) := (cell_of_row _ _ _ _ _ _ (heap_alloc_new _ _)).trans (wordsV_at k hlt)
      unfold wordsV at hc
      have hi0 : (0 : Int) ≤ (k : Int) := by omega
      have hi1 : (k : Int) < 14 := by omega
      cases hb : ((wordA k).toList == s.toList)
      · have hb' : Hid ((wordsL.getD k [] == s.data.toList) = false) := Lib.hid (by rw [← hb, wordA_list, Hs.out])
        go_wp2
        go_round
        case rel => exact ⟨k + 1, by omega, by go_num, Lib.hid (fun j hj => by
          by_cases e : j = k
          · rw [e]; exact hb'.out
          · exact hn.out j (by omega))⟩
        case measure => simp [intOf]; omega
      · have fin := wordOf_hit hlt (by rw [← hb, wordA_list, Hs.out]) hn.out
        have Fin := Lib.hid fin
        clear fin
        go_wp2
        go_ret
        exact ⟨by rw [Fin.out]; rfl, (Below.refl _ _).alloc (Nat.le_refl _) _⟩
    · obtain rfl : k = 14 := by omega
      have Fin := Lib.hid (wordOf_miss hn.out)
      go_wp2
      go_ret
      exact ⟨by rw [Fin.out]; rfl, (Below.refl _ _).alloc (Nat.le_refl _) _⟩
end Go.Proofs.Ytjgndagejogfnaa.F
