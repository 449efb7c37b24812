import Derived.Test.YtmfncddgbapocaaX1
import Derived.Test.YtmfncddgbapocaaM2
import Derived.Outline
import Derived.Lib.Hide
set_option linter.unusedVariables false
set_option linter.unusedSimpArgs false
namespace Go.Proofs.Ytmfncddgbapocaa.F
open Go.RowKit Go.Proofs.Ytmfncddgbapocaa.K
attribute [local go_sem high] and1_32 shr1_32 xor32 cvw32
def mcells (M : List (BitVec 32)) : Array Value := (M.map fun x => Value.int .u32 (v32 x)).toArray
theorem mcells_size (M : List (BitVec 32)) : (mcells M).size = M.length := by simp [mcells]
theorem mcells_one (M : List (BitVec 32)) : (mcells M).all (·.oneCell') = true := by
  rw [Array.all_eq_true]
  intro i hi
  simp [mcells]; rfl
theorem mcell {W : World} {g : Nat} {M : List (BitVec 32)} (h : W.heap[g]? = some (.cells (mcells M) 68 (0, 0))) (k : Nat) (hk : k < M.length) : W.cell? ⟨g, k, none⟩ = some (.int .u32 (v32 (M.getD k 0#32))) := by
  rw [cell_of_row _ _ _ _ _ _ h]
  simp [mcells, List.getElem?_eq_getElem hk]
theorem v32_zero {x : BitVec 32} (h : v32 x = 0) : x = 0#32 := by
  have : x.toNat = 0 := by unfold v32 at h; omega
  exact BitVec.eq_of_toNat_eq (by simpa using this)
theorem times (M : List (BitVec 32)) (V : BitVec 32) (g : Nat) (w : World) (hM : M.length = 32) (hg : w.heap[g]? = some (.cells (mcells M) 68 (0, 0))) :
  Calls Try.prog 48 #[.pointer (some ⟨g, 0, none⟩), .int .u32 (v32 V)] w fun e w' => e = .returned (.int .u32 (v32 (tms M V))) ∧ w' = w := by
  have Hg := Lib.hid hg
  clear hg
  go_enter Try.func48, Try.ntmps48
  go_wp2
  go_loop [1, 5, 6] (fun v s i => ∃ k : Nat, k ≤ 32 ∧ i = .int .i64 k ∧ s = .int .u32 (v32 (sumTo M V k)) ∧ v = .int .u32 (v32 (V >>> k))) (fun _ _ i => 32 - (intOf i).toNat)
  case atStart => exact ⟨0, by omega, rfl, rfl, by simp⟩
  case round =>
    obtain ⟨k, hk, rfl, rfl, rfl⟩ := hrel
    by_cases hz : V >>> k = 0#32
    · have hb : (v32 (V >>> k) != 0) = false := by rw [hz]; rfl
      have hr : sumTo M V k = tms M V := (tms_stop M V k hk hz).symm
      have Hr := Lib.hid hr
      clear hr hz
      go_wp2
      go_ret
      exact ⟨by rw [Hr.out]; rfl, rfl⟩
    · have hb : (v32 (V >>> k) != 0) = true := by
        rw [bne_iff_ne]
        intro e
        exact hz (v32_zero e)
      have hlt : k < 32 := by
        by_cases h : k < 32
        · exact h
        · exact absurd (BitVec.eq_of_getLsbD_eq (fun i hi => by simp; exact BitVec.getLsbD_of_ge _ _ (by omega))) hz
      have hc := mcell Hg.out k (by omega)
      obtain ⟨m, hm⟩ : ∃ m, m = M.getD k 0#32 := ⟨_, rfl⟩
      rw [← hm] at hc
      clear hz
      have hs : V >>> k >>> 1 = V >>> (k + 1) := by
        apply BitVec.eq_of_getLsbD_eq; intro i hi; simp only [BitVec.getLsbD_ushiftRight]; congr 1; omega
      have Hs := Lib.hid hs
      clear hs
      cases hlow : V.getLsbD k with
      | true =>
        have hl : (v32 (V >>> k &&& 1#32) == 1) = true := by rw [and1_low]; simp [hlow]; rfl
        have hn : sumTo M V (k + 1) = sumTo M V k ^^^ m := by simp only [sumTo, hlow, hm]; rfl
        have Hn := Lib.hid hn
        clear hn hlow hm
        go_wp2
        go_round
        case rel => exact ⟨k + 1, by omega, by go_num, by rw [Hn.out], by rw [Hs.out]⟩
        case measure => simp [intOf]; omega
      | false =>
        have hl : (v32 (V >>> k &&& 1#32) == 1) = false := by rw [and1_low]; simp [hlow]; decide
        have hn : sumTo M V (k + 1) = sumTo M V k := by simp only [sumTo, hlow]; simp
        have Hn := Lib.hid hn
        clear hn hlow hm
        go_wp2
        go_round
        case rel => exact ⟨k + 1, by omega, by go_num, by rw [Hn.out], by rw [Hs.out]⟩
        case measure => simp [intOf]; omega
end Go.Proofs.Ytmfncddgbapocaa.F
