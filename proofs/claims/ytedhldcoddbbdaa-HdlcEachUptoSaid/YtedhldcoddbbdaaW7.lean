import Derived.Test.YtedhldcoddbbdaaW6
import Derived.Outline
set_option linter.unusedVariables false
set_option linter.unusedSimpArgs false
set_option linter.unnecessarySimpa false
namespace Go.Proofs.Ytedhldcoddbbdaa.F
open Go.RowKit Go.Proofs.Ytedhldcoddbbdaa.K
theorem cv32_16 (a : BitVec 16) : IntKind.u32.wrap (v16 a) = v32 (a.setWidth 32) := by
  have h : v16 a = v32 (a.setWidth 32) := by simp only [v16, v32, BitVec.toNat_setWidth]; have := a.isLt; omega
  rw [h]; exact w32 _ (a.setWidth 32).isLt
theorem cv16_32 (a : BitVec 32) : IntKind.u16.wrap (v32 a) = v16 (a.setWidth 16) := by
  simp [IntKind.wrap, IntKind.bits, IntKind.signed, v32, v16, BitVec.toNat_setWidth]
attribute [local go_sem high] cv32_16 cv16_32
theorem put16 (l : List (BitVec 8)) (v : Value) (w : World) (h : BytesAt w v l) (hl : l.length ≤ 140737488351232) :
  Calls Try.prog 38 #[v] w fun e w' => ∃ u, e = .returned u ∧ w'.ownsRow w.heap.size 5 1 u (l.length + 2) ((l ++ sb ((s16 l).setWidth 32) 2).map b8) ∧ Below w.heap.size w w' := by
  go_enter Try.func38, Try.ntmps38
  go_wp2_with (first | (go_at_call 48; refine (sum16 l _ _ h).mono ?_; rintro e w1 ⟨rfl, hb⟩; have h1 := h.below hb; have hs := hb.size; clear h) | (go_at_call 47; refine (put l _ _ 2 _ h1 hl (by decide)).mono ?_; rintro e w2 ⟨u, rfl, ho, hb2⟩))
  go_ret
  exact ⟨_, rfl, own_weak ho hs, below_then hb hb2⟩
/-- What Cut16, Cut32 hand back. -/
def CutR (w w' : World) (l : List (BitVec 8)) (n : Nat) (good : Bool) (e : Ending) : Prop :=
  ∃ u : Value, ∃ k : Int, e = .returned (.tuple #[u, .int .i64 k]) ∧ Below w.heap.size w w' ∧
    ((l.length < n ∧ k = 8 ∧ u = .slice none 0 0) ∨ (n ≤ l.length ∧ good = false ∧ k = 20 ∧ u = .slice none 0 0) ∨
      (n ≤ l.length ∧ good = true ∧ k = 0 ∧ w'.ownsRow w.heap.size 5 1 u (l.length - n) ((l.take (l.length - n)).map b8)))
theorem cut (l : List (BitVec 8)) (v : Value) (n : Nat) (g : Bool) (w : World) (h : BytesAt w v l) (hl : l.length ≤ 140737488355328) (hn2 : n ≤ 8) :
  Calls Try.prog 51 #[v, .int .i64 n, .bool g] w fun e w' => CutR w w' l n g e := by
  have hh := h
  obtain ⟨A, cap, rfl, -⟩ := h
  by_cases hn : l.length < n
  · refine (cut_short l A cap n g w hl hn hn2).mono ?_
    rintro e w' ⟨rfl, rfl⟩
    exact ⟨_, _, rfl, Below.refl _ _, .inl ⟨hn, rfl, rfl⟩⟩
  · cases g with
    | false =>
      refine (cut_bad l A cap n w hl (by omega) hn2).mono ?_
      rintro e w' ⟨rfl, rfl⟩
      exact ⟨_, _, rfl, Below.refl _ _, .inr (.inl ⟨by omega, rfl, rfl, rfl⟩)⟩
    | true =>
      refine (cut_good l A cap n w hh hl (by omega) hn2).mono ?_
      rintro e w' ⟨u, rfl, ho, hb⟩
      exact ⟨_, _, rfl, hb, .inr (.inr ⟨by omega, rfl, rfl, ho⟩)⟩
end Go.Proofs.Ytedhldcoddbbdaa.F
