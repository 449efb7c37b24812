import Derived.Test.YtedhldcoddbbdaaW4
import Derived.Outline
import Derived.Laws.CopyOwn
set_option linter.unusedVariables false
set_option linter.unusedSimpArgs false
set_option linter.unnecessarySimpa false
namespace Go.Proofs.Ytedhldcoddbbdaa.F
open Go.RowKit Go.Proofs.Ytedhldcoddbbdaa.K
attribute [local go_sem high] shrN32 cv8_32 cv8_32'
/-- the lowest bytes of a sum -/
def sb (s : BitVec 32) (n : Nat) : List (BitVec 8) := (List.range n).map fun i => (s >>> (8 * i)).setWidth 8
theorem sb_succ (s : BitVec 32) (n : Nat) : sb s (n + 1) = sb s n ++ [(s >>> (8 * n)).setWidth 8] := by simp [sb, List.range_succ]
theorem cut_short (l : List (BitVec 8)) (A : Option Addr) (cap : Nat) (n : Nat) (g : Bool) (w : World) (hl : l.length ≤ 140737488355328) (hn : l.length < n) (hn2 : n ≤ 8) :
  Calls Try.prog 51 #[.slice A l.length cap, .int .i64 n, .bool g] w fun e w' => e = .returned (.tuple #[.slice none 0 0, .int .i64 8]) ∧ w' = w := by
  go_enter Try.func51, Try.ntmps51
  go_wp2
  go_ret2
  exact ⟨rfl, rfl⟩
theorem cut_bad (l : List (BitVec 8)) (A : Option Addr) (cap : Nat) (n : Nat) (w : World) (hl : l.length ≤ 140737488355328) (hn : n ≤ l.length) (hn2 : n ≤ 8) :
  Calls Try.prog 51 #[.slice A l.length cap, .int .i64 n, .bool false] w fun e w' => e = .returned (.tuple #[.slice none 0 0, .int .i64 20]) ∧ w' = w := by
  go_enter Try.func51, Try.ntmps51
  go_wp2
  go_ret2
  exact ⟨rfl, rfl⟩
theorem cut_good (l : List (BitVec 8)) (A : Option Addr) (cap : Nat) (n : Nat) (w : World) (h : BytesAt w (.slice A l.length cap) l) (hl : l.length ≤ 140737488355328) (hn : n ≤ l.length) (hn2 : n ≤ 8) :
  Calls Try.prog 51 #[.slice A l.length cap, .int .i64 n, .bool true] w fun e w' => ∃ u, e = .returned (.tuple #[u, .int .i64 0]) ∧ w'.ownsRow w.heap.size 5 1 u (l.length - n) ((l.take (l.length - n)).map b8) ∧ Below w.heap.size w w' := by
  have hsrc := (h.cut (l.length - n) (by omega)).src
  obtain ⟨A', cap', e, h1, h2, h3, h4⟩ := h
  cases e
  rw [List.length_take, Nat.min_eq_left (by omega)] at hsrc
  have h0 := World.ownsRow_nil w w.heap.size 5 1
  unfold maxLen at h2
  clear h3 h4
  have hsub : ((l.length : Int) - (n : Int)).toNat = l.length - n := by omega
  go_enter Try.func51, Try.ntmps51
  go_wp2_with (at_builtin; refine wpList_app elB rfl _ _ rfl w.heap.size _ 0 [] rfl h0 _ _ _ rfl hsrc (by simp [maxLen]; omega) (by omega) (Nat.le_refl _) ?_)
  intro v1 w1 ho1 hg1 hn1
  go_wp2
  go_ret2
  refine ⟨_, rfl, by simpa using ho1, (Below.refl _ w).grown hg1 (Nat.le_refl _) (by simp [Value.ownBlock])⟩
end Go.Proofs.Ytedhldcoddbbdaa.F
