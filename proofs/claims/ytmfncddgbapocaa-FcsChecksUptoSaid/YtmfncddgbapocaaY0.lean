import Derived.Test.YtmfncddgbapocaaX8
import Derived.Lib.SlBytesConst
import Derived.Outline
set_option linter.unusedVariables false
set_option linter.unusedSimpArgs false
namespace Go.Proofs.Ytmfncddgbapocaa.F
open Go.RowKit Go.Proofs.Ytmfncddgbapocaa.K
theorem bytes_lit (w : World) (l : List (BitVec 8)) (e : TypeId) (fr : Nat × Nat) (n : Nat) (hn : n = l.length) (hm : l.length ≤ maxLen) : BytesAt (w.alloc (.cells (l.map b8).toArray e fr)) (.slice (some ⟨w.heap.size, 0, none⟩) n n) l := by
  subst hn
  refine ⟨_, _, rfl, Nat.le_refl _, hm, fun e => by (cases e), fun ad e j hj => ?_⟩
  cases e
  refine ⟨_, 0, rfl, ?_⟩
  rw [cell_of_row _ _ _ _ _ _ (heap_alloc_new _ _)]
  simp [List.getElem?_eq_getElem hj]
def L1 : List (BitVec 8) := [49#8, 50#8, 51#8, 52#8]
def L2 : List (BitVec 8) := [53#8, 54#8, 55#8, 56#8, 57#8]
def L9 : List (BitVec 8) := [49#8, 50#8, 51#8, 52#8, 53#8, 54#8, 55#8, 56#8, 57#8]
theorem aw9 : (v16 (s16 L9) == 36974) = true := by decide +kernel
theorem aw9' : (v32 (s32 L9) == 3421780262) = true := by decide +kernel
theorem awj : (v16 (stN P16 (8 * 5) (s16 L1) ^^^ s16 L2) == 36974) = true := by decide +kernel
theorem awc : good16 [0#8, 1#8] = false := by decide +kernel
theorem cut16_short (l : List (BitVec 8)) (v : Value) (w : World) (h : BytesAt w v l) (hl : l.length < 2) :
  Calls Try.prog 18 #[v] w fun e w' => e = .returned (.tuple #[.slice none 0 0, .int .i64 8]) ∧ Below w.heap.size w w' := by
  refine (cut16 l v w h (by omega)).mono ?_
  rintro e w' ⟨u, k, rfl, hb, ⟨_, rfl, rfl⟩ | ⟨h2, _⟩ | ⟨h2, _⟩⟩
  · exact ⟨rfl, hb⟩
  · omega
  · omega
theorem cut16_bad (l : List (BitVec 8)) (v : Value) (w : World) (h : BytesAt w v l) (hl : l.length ≤ 140737488351232) (hn : 2 ≤ l.length) (hg : good16 l = false) :
  Calls Try.prog 18 #[v] w fun e w' => e = .returned (.tuple #[.slice none 0 0, .int .i64 20]) ∧ Below w.heap.size w w' := by
  refine (cut16 l v w h (by omega)).mono ?_
  rintro e w' ⟨u, k, rfl, hb, ⟨h2, rfl, rfl⟩ | ⟨h2, _, rfl, rfl⟩ | ⟨h2, h3, _⟩⟩
  · omega
  · exact ⟨rfl, hb⟩
  · rw [hg] at h3; cases h3
set_option maxHeartbeats 1000000 in
theorem awake (w : World) : Calls Try.prog 12 #[] w fun e w' => e = .returned (.bool true) ∧ Below w.heap.size w w' := by
  have kc := fun (w : World) (C : Array Value) (n c : Nat) => Lib.run_convert_bytes_const (P := Try.prog) w 22 5 C n c Try.underlying22 Try.underlying5
  have h9 := aw9
  have h9' := aw9'
  have hj := awj
  go_enter Try.func12, Try.ntmps12
  go_wp2_with fail
  refine (sum16 L1 _ _ (bytes_lit _ L1 5 _ 4 rfl (by decide))).mono ?_
  rintro e w1 ⟨rfl, b⟩
  have B := below_then ((Below.refl _ w).alloc (Nat.le_refl _) _) b
  clear b
  go_wp2_with fail
  refine (sum16 L2 _ _ (bytes_lit _ L2 5 _ 5 rfl (by decide))).mono ?_
  rintro e w2 ⟨rfl, b⟩
  replace B := below_then (B.alloc B.size _) b
  clear b
  go_wp2_with fail
  refine (join16 (s16 L1) (s16 L2) 5 _ (by decide)).mono ?_
  rintro e w3 ⟨rfl, b⟩
  replace B := below_then B b
  clear b
  go_wp2_with fail
  refine (cut16_short [0#8] _ _ (bytes_lit _ [0#8] 5 _ 1 rfl (by decide)) (by decide)).mono ?_
  rintro e w4 ⟨rfl, b⟩
  replace B := below_then (B.alloc B.size _) b
  clear b
  go_wp2_with fail
  refine (cut16_bad [0#8, 1#8] _ _ (bytes_lit _ [0#8, 1#8] 5 _ 2 rfl (by decide)) (by decide) (by decide) awc).mono ?_
  rintro e w5 ⟨rfl, b⟩
  replace B := below_then (B.alloc B.size _) b
  clear b
  go_wp2_with fail
  refine (sum16 L9 _ _ (bytes_lit _ L9 5 _ 9 rfl (by decide))).mono ?_
  rintro e w6 ⟨rfl, b⟩
  replace B := below_then (B.alloc B.size _) b
  clear b
  go_wp2_with fail
  refine (sum32 L9 _ _ (bytes_lit _ L9 5 _ 9 rfl (by decide))).mono ?_
  rintro e w7 ⟨rfl, b⟩
  replace B := below_then (B.alloc B.size _) b
  clear b
  go_wp2
  go_ret
  exact ⟨rfl, B⟩
end Go.Proofs.Ytmfncddgbapocaa.F
