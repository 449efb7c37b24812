import Derived.Test.YtmfncddgbapocaaX6
import Derived.Test.YtmfncddgbapocaaX3
import Derived.Outline
import Derived.Lib.Hide
set_option linter.unusedVariables false
set_option linter.unusedSimpArgs false
namespace Go.Proofs.Ytmfncddgbapocaa.F
open Go.RowKit Go.Proofs.Ytmfncddgbapocaa.K
attribute [local go_sem high] cv32_16 cv16_32 xor16 xor32 not16 not32
theorem narrow_widen (x : BitVec 16) : (x.setWidth 32).setWidth 16 = x := by
  apply BitVec.eq_of_getLsbD_eq
  intro i hi
  simp only [BitVec.getLsbD_setWidth]
  simp [hi]; omega
theorem join16_neg (a b : BitVec 16) (n : Int) (w : World) (hn : n < 0) :
  Calls Try.prog 24 #[.int .u16 (v16 a), .int .u16 (v16 b), .int .i64 n] w fun e w' => e = .returned (.tuple #[.int .u16 0, .int .i64 1]) ∧ w' = w := by
  go_enter Try.func24, Try.ntmps24
  go_wp2
  go_ret2
  exact ⟨rfl, rfl⟩
theorem join32_neg (a b : BitVec 32) (n : Int) (w : World) (hn : n < 0) :
  Calls Try.prog 25 #[.int .u32 (v32 a), .int .u32 (v32 b), .int .i64 n] w fun e w' => e = .returned (.tuple #[.int .u32 0, .int .i64 1]) ∧ w' = w := by
  go_enter Try.func25, Try.ntmps25
  go_wp2
  go_ret2
  exact ⟨rfl, rfl⟩
theorem far16_eq (a : BitVec 16) (k : Nat) : (stN 33800#32 k (a.setWidth 32)).setWidth 16 = stN P16 k a := by
  have := stN_widen P16 k a
  rw [show P16.setWidth 32 = 33800#32 from rfl] at this
  rw [this, narrow_widen]
theorem low16 (a : BitVec 16) : a.setWidth 32 &&& 0xffff#32 = a.setWidth 32 := by
  have hm : ∀ j : Fin 32, (0xffff#32).getLsbD j = decide (j.val < 16) := by decide
  apply BitVec.eq_of_getLsbD_eq
  intro i hi
  rw [BitVec.getLsbD_and, hm ⟨i, hi⟩, BitVec.getLsbD_setWidth]
  by_cases h : i < 16
  · simp [h]
  · rw [BitVec.getLsbD_of_ge a _ (by omega)]; simp
theorem join16 (a b : BitVec 16) (n : Nat) (w : World) (hn : n ≤ 9223372036854775807) :
  Calls Try.prog 24 #[.int .u16 (v16 a), .int .u16 (v16 b), .int .i64 n] w fun e w' => e = .returned (.tuple #[.int .u16 (v16 (stN P16 (8 * n) a ^^^ b)), .int .i64 0]) ∧ Below w.heap.size w w' := by
  have hm := far16_eq a (8 * n)
  have Hm := Lib.hid hm
  clear hm
  go_enter Try.func24, Try.ntmps24
  go_wp2_with (go_at_call 44; refine (far 33800#32 0xffff#32 (a.setWidth 32) n 16 _ (by decide) (by decide) hn mask16 (low16 a) mat0_16).mono ?_; rintro e w1 ⟨rfl, hb⟩)
  go_ret2
  exact ⟨by rw [← Hm.out]; rfl, hb⟩
theorem join32 (a b : BitVec 32) (n : Nat) (w : World) (hn : n ≤ 9223372036854775807) :
  Calls Try.prog 25 #[.int .u32 (v32 a), .int .u32 (v32 b), .int .i64 n] w fun e w' => e = .returned (.tuple #[.int .u32 (v32 (stN P32 (8 * n) a ^^^ b)), .int .i64 0]) ∧ Below w.heap.size w w' := by
  go_enter Try.func25, Try.ntmps25
  go_wp2_with (go_at_call 44; refine (far 3988292384#32 0xffffffff#32 a n 32 _ (by decide) (by decide) hn (mask32 _) BitVec.and_allOnes mat0_32).mono ?_; rintro e w1 ⟨rfl, hb⟩)
  go_ret2
  exact ⟨rfl, hb⟩
/-- What the document's Cut hands back: a part of what it took. -/
def RefCutR (w : World) (l : List (BitVec 8)) (n : Nat) (good : Bool) (e : Ending) : Prop :=
  ∃ u : Value, ∃ k : Int, e = .returned (.tuple #[u, .int .i64 k]) ∧
    ((l.length < n ∧ k = 8 ∧ u = .slice none 0 0) ∨ (n ≤ l.length ∧ good = false ∧ k = 20 ∧ u = .slice none 0 0) ∨ (n ≤ l.length ∧ good = true ∧ k = 0 ∧ BytesAt w u (l.take (l.length - n))))
theorem refCut (l : List (BitVec 8)) (v : Value) (wide : Bool) (w : World) (h : BytesAt w v l) :
  Calls Try.prog 19 #[v, .bool wide] w fun e w' => w' = w ∧ RefCutR w l (if wide then 4 else 2) (if wide then good32 l else good16 l) e := by
  have hg := refGood l v wide w h
  have hh := h
  obtain ⟨A, cap, rfl, h1, h2, -, -⟩ := h
  unfold maxLen at h2
  have h3 : l.length ≤ 9223372036854775807 := by omega
  cases wide with
  | true =>
    by_cases hn : l.length < 4
    · go_enter Try.func19, Try.ntmps19
      go_wp2
      go_ret2
      exact ⟨rfl, _, _, rfl, .inl ⟨hn, rfl, rfl⟩⟩
    · have hd : decide (4 ≤ l.length) = true := by simp; omega
      cases hgood : good32 l with
      | false =>
        rw [hd, hgood] at hg
        go_enter Try.func19, Try.ntmps19
        go_wp2_with (go_at_call 37; refine hg.mono ?_; rintro e w1 ⟨rfl, rfl⟩)
        go_ret2
        exact ⟨rfl, _, _, rfl, .inr (.inl ⟨by omega, rfl, rfl, rfl⟩)⟩
      | true =>
        have hcut := hh.cut (l.length - 4) (by omega)
        have e1 : ((l.length : Int) - 4).toNat = l.length - 4 := by omega
        rw [hd, hgood] at hg
        go_enter Try.func19, Try.ntmps19
        go_wp2_with (go_at_call 37; refine hg.mono ?_; rintro e w1 ⟨rfl, rfl⟩)
        go_ret2
        exact ⟨rfl, _, _, rfl, .inr (.inr ⟨by omega, rfl, rfl, hcut⟩)⟩
  | false =>
    by_cases hn : l.length < 2
    · go_enter Try.func19, Try.ntmps19
      go_wp2
      go_ret2
      exact ⟨rfl, _, _, rfl, .inl ⟨hn, rfl, rfl⟩⟩
    · have hd : decide (2 ≤ l.length) = true := by simp; omega
      cases hgood : good16 l with
      | false =>
        rw [hd, hgood] at hg
        go_enter Try.func19, Try.ntmps19
        go_wp2_with (go_at_call 37; refine hg.mono ?_; rintro e w1 ⟨rfl, rfl⟩)
        go_ret2
        exact ⟨rfl, _, _, rfl, .inr (.inl ⟨by omega, rfl, rfl, rfl⟩)⟩
      | true =>
        have hcut := hh.cut (l.length - 2) (by omega)
        have e1 : ((l.length : Int) - 2).toNat = l.length - 2 := by omega
        rw [hd, hgood] at hg
        go_enter Try.func19, Try.ntmps19
        go_wp2_with (go_at_call 37; refine hg.mono ?_; rintro e w1 ⟨rfl, rfl⟩)
        go_ret2
        exact ⟨rfl, _, _, rfl, .inr (.inr ⟨by omega, rfl, rfl, hcut⟩)⟩
end Go.Proofs.Ytmfncddgbapocaa.F
