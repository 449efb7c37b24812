import Derived.Test.YtmfncddgbapocaaYCuts
import Derived.Test.YtmfncddgbapocaaM3
import Derived.Outline
set_option linter.unusedVariables false
set_option linter.unusedSimpArgs false
namespace Go.Proofs.Ytmfncddgbapocaa.F
open Go.RowKit Go.Proofs.Ytmfncddgbapocaa.K
theorem xor_not_self {n : Nat} (r : BitVec n) : r ^^^ ~~~r = BitVec.allOnes n := by
  apply BitVec.eq_of_getLsbD_eq
  intro i hi
  simp [hi]
/-- bytes with their sums -/
def p16 (l : List (BitVec 8)) : List (BitVec 8) := l ++ sb ((s16 l).setWidth 32) 2
def p32 (l : List (BitVec 8)) : List (BitVec 8) := l ++ sb (s32 l) 4
theorem p16_len (l : List (BitVec 8)) : (p16 l).length = l.length + 2 := by simp [p16, sb]
theorem p32_len (l : List (BitVec 8)) : (p32 l).length = l.length + 4 := by simp [p32, sb]
theorem good_p16 (l : List (BitVec 8)) : good16 (p16 l) = true := by
  unfold good16 p16
  rw [crc_append, decide_eq_true_iff]
  have hx := bytes16 ((s16 l).setWidth 32)
  rw [narrow_widen] at hx
  rw [show sb ((s16 l).setWidth 32) 2 = [((s16 l).setWidth 32 >>> 0).setWidth 8, ((s16 l).setWidth 32 >>> 8).setWidth 8] from rfl, crc_two P16 _ _ _ _ hx]
  unfold s16
  rw [xor_not_self]
  decide +kernel
theorem good_p32 (l : List (BitVec 8)) : good32 (p32 l) = true := by
  unfold good32 p32
  rw [crc_append, decide_eq_true_iff]
  have hx := bytes32 (s32 l)
  rw [show sb (s32 l) 4 = [(s32 l >>> 0).setWidth 8, (s32 l >>> 8).setWidth 8, (s32 l >>> 16).setWidth 8, (s32 l >>> 24).setWidth 8] from rfl, crc_four P32 _ _ _ _ _ _ hx]
  unfold s32
  rw [xor_not_self]
  decide +kernel
theorem cut_p16 (l : List (BitVec 8)) : cutK (p16 l) 2 (good16 (p16 l)) = 0 ∧ cutL (p16 l) 2 (good16 (p16 l)) = l := by
  rw [good_p16]
  have h : ¬ (p16 l).length < 2 := by rw [p16_len]; omega
  refine ⟨by simp [cutK, h], ?_⟩
  have e : (p16 l).length - 2 = l.length := by rw [p16_len]; omega
  simp only [cutL, h, if_false, if_true, e]
  exact List.take_left
theorem cut_p32 (l : List (BitVec 8)) : cutK (p32 l) 4 (good32 (p32 l)) = 0 ∧ cutL (p32 l) 4 (good32 (p32 l)) = l := by
  rw [good_p32]
  have h : ¬ (p32 l).length < 4 := by rw [p32_len]; omega
  refine ⟨by simp [cutK, h], ?_⟩
  have e : (p32 l).length - 4 = l.length := by rw [p32_len]; omega
  simp only [cutL, h, if_false, if_true, e]
  exact List.take_left
theorem put16' (l : List (BitVec 8)) (v : Value) (w : World) (h : BytesAt w v l) (hl : l.length ≤ 140737488351232) :
  Calls Try.prog 28 #[v] w fun e w' => ∃ u, e = .returned u ∧ w'.ownsRow w.heap.size 5 1 u (p16 l).length ((p16 l).map b8) ∧ Below w.heap.size w w' := by
  rw [p16_len]; exact put16 l v w h hl
theorem put32' (l : List (BitVec 8)) (v : Value) (w : World) (h : BytesAt w v l) (hl : l.length ≤ 140737488351232) :
  Calls Try.prog 29 #[v] w fun e w' => ∃ u, e = .returned u ∧ w'.ownsRow w.heap.size 5 1 u (p32 l).length ((p32 l).map b8) ∧ Below w.heap.size w w' := by
  rw [p32_len]; exact put32 l v w h hl
theorem cut16s (l : List (BitVec 8)) (v : Value) (w : World) (h : BytesAt w v (p16 l)) (hl : l.length ≤ 140737488351232) :
  Calls Try.prog 18 #[v] w fun e w' => ∃ u, e = .returned (.tuple #[u, .int .i64 0]) ∧ Below w.heap.size w w' ∧ w'.ownsRow w.heap.size 5 1 u l.length (l.map b8) := by
  refine (cut16 (p16 l) v w h (by rw [p16_len]; omega)).mono ?_
  intro e w' hr
  obtain ⟨u, rfl, hb, ho⟩ := hr.fn
  rw [(cut_p16 l).1, (cut_p16 l).2] at *
  exact ⟨u, rfl, hb, ho⟩
theorem cut32s (l : List (BitVec 8)) (v : Value) (w : World) (h : BytesAt w v (p32 l)) (hl : l.length ≤ 140737488351232) :
  Calls Try.prog 20 #[v] w fun e w' => ∃ u, e = .returned (.tuple #[u, .int .i64 0]) ∧ Below w.heap.size w w' ∧ w'.ownsRow w.heap.size 5 1 u l.length (l.map b8) := by
  refine (cut32 (p32 l) v w h (by rw [p32_len]; omega)).mono ?_
  intro e w' hr
  obtain ⟨u, rfl, hb, ho⟩ := hr.fn
  rw [(cut_p32 l).1, (cut_p32 l).2] at *
  exact ⟨u, rfl, hb, ho⟩
attribute [local go_sem high] good16_eq good32_eq
theorem law_good (l : List (BitVec 8)) (v : Value) (w : World) (h : BytesAt w v l) (hl : l.length ≤ 140737488351232) : Calls Try.prog 9 #[v] w fun e w' => e = .returned (.bool true) ∧ Below w.heap.size w w' := by
  have e16 := good_p16 l
  have e32 := good_p32 l
  go_enter Try.func9, Try.ntmps9
  go_wp2_with fail
  refine (put16' l v w h hl).mono ?_
  rintro e w1 ⟨u, rfl, o1, B⟩
  go_wp2_with fail
  refine (cut16s l u _ (bytes_of_own o1) hl).mono ?_
  rintro e w2 ⟨x, rfl, b, ox⟩
  replace B := below_then B b
  clear b o1
  go_wp2_with fail
  refine (put32' l v _ (h.below B) hl).mono ?_
  rintro e w3 ⟨u', rfl, o1, b⟩
  replace B := below_then B b
  replace ox := own_below ox b
  clear b
  go_wp2_with fail
  refine (cut32s l u' _ (bytes_of_own o1) hl).mono ?_
  rintro e w4 ⟨y, rfl, b, oy⟩
  replace B := below_then B b
  replace ox := own_below ox b
  clear b o1
  go_wp2_with fail
  refine (same l l x v _ (bytes_of_own ox) (h.below B)).mono ?_
  rintro e w4' ⟨rfl, hw⟩
  subst hw
  go_wp2_with fail
  refine (same l l y v _ (bytes_of_own oy) (h.below B)).mono ?_
  rintro e w4' ⟨rfl, hw⟩
  subst hw
  go_wp2_with fail
  refine (put16' l v _ (h.below B) hl).mono ?_
  rintro e w5 ⟨z, rfl, o1, b⟩
  replace B := below_then B b
  clear b
  go_wp2_with fail
  refine (on16_at 0xffff#16 (p16 l) z _ (bytes_of_own o1)).mono ?_
  rintro e w6 ⟨rfl, b⟩
  replace B := below_then B b
  clear b o1
  go_wp2_with fail
  refine (put32' l v _ (h.below B) hl).mono ?_
  rintro e w7 ⟨z', rfl, o1, b⟩
  replace B := below_then B b
  clear b
  go_wp2_with fail
  refine (on32_at 0xffffffff#32 (p32 l) z' _ (bytes_of_own o1)).mono ?_
  rintro e w8 ⟨rfl, b⟩
  replace B := below_then B b
  clear b o1
  go_wp2_with fail
  refine (awake _).mono ?_
  rintro e w9 ⟨rfl, b⟩
  go_wp2
  go_ret
  exact ⟨rfl, below_then B b⟩
end Go.Proofs.Ytmfncddgbapocaa.F
