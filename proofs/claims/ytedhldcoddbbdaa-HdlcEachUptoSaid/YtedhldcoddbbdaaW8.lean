import Derived.Test.YtedhldcoddbbdaaW7
import Derived.Outline
set_option linter.unusedVariables false
set_option linter.unusedSimpArgs false
set_option linter.unnecessarySimpa false
namespace Go.Proofs.Ytedhldcoddbbdaa.F
open Go.RowKit Go.Proofs.Ytedhldcoddbbdaa.K
def good16 (l : List (BitVec 8)) : Bool := decide (crc P16 0xffff#16 l = 0xf0b8#16)
def good32 (l : List (BitVec 8)) : Bool := decide (crc P32 0xffffffff#32 l = 0xdebb20e3#32)
theorem v16_beq (x : BitVec 16) : (v16 x == 61624) = decide (x = 0xf0b8#16) := by
  rw [Bool.eq_iff_iff, beq_iff_eq, decide_eq_true_iff]
  constructor
  · intro h; apply BitVec.eq_of_toNat_eq; unfold v16 at h; simp; omega
  · rintro rfl; rfl
theorem v32_beq (x : BitVec 32) : (v32 x == 3736805603) = decide (x = 0xdebb20e3#32) := by
  rw [Bool.eq_iff_iff, beq_iff_eq, decide_eq_true_iff]
  constructor
  · intro h; apply BitVec.eq_of_toNat_eq; unfold v32 at h; simp; omega
  · rintro rfl; rfl
theorem good16_eq (l : List (BitVec 8)) : (v16 (crc P16 0xffff#16 l) == 61624) = good16 l := v16_beq _
theorem good32_eq (l : List (BitVec 8)) : (v32 (crc P32 0xffffffff#32 l) == 3736805603) = good32 l := v32_beq _
attribute [local go_sem high] good16_eq good32_eq
theorem CutR.then {w w1 w' : World} {l : List (BitVec 8)} {n : Nat} {g : Bool} {e : Ending} (hb : Below w.heap.size w w1) (h : CutR w1 w' l n g e) : CutR w w' l n g e := by
  obtain ⟨u, k, he, hb2, h⟩ := h
  exact ⟨u, k, he, below_then hb hb2, h.imp id (Or.imp id (fun ⟨a, b, c, d⟩ => ⟨a, b, c, own_weak d hb.size⟩))⟩
theorem cut16 (l : List (BitVec 8)) (v : Value) (w : World) (h : BytesAt w v l) (hl : l.length ≤ 140737488355328) :
  Calls Try.prog 49 #[v] w fun e w' => CutR w w' l 2 (good16 l) e := by
  go_enter Try.func49, Try.ntmps49
  go_wp2_with (first | (go_at_call 50; refine (on16_at 0xffff#16 l _ _ h).mono ?_; rintro e w1 ⟨rfl, hb⟩; have h1 := h.below hb; clear h) | (go_at_call 51; refine (cut l _ 2 _ _ h1 hl (by decide)).mono ?_; rintro e w2 ⟨u, k, rfl, hr⟩))
  go_ret2
  exact CutR.then hb ⟨u, k, rfl, hr⟩
end Go.Proofs.Ytedhldcoddbbdaa.F
