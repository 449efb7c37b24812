import Derived.Test.YtedhldcoddbbdaaW3
import Derived.Outline
import Derived.Lib.Hide
set_option linter.unusedVariables false
set_option linter.unusedSimpArgs false
set_option linter.unnecessarySimpa false
namespace Go.Proofs.Ytedhldcoddbbdaa.F
open Go.RowKit Go.Proofs.Ytedhldcoddbbdaa.K
attribute [local go_sem high] not16 not32
def s16 (l : List (BitVec 8)) : BitVec 16 := ~~~ crc P16 0xffff#16 l
def s32 (l : List (BitVec 8)) : BitVec 32 := ~~~ crc P32 0xffffffff#32 l
theorem sum16 (l : List (BitVec 8)) (v : Value) (w : World) (h : BytesAt w v l) :
  Calls Try.prog 48 #[v] w fun e w' => e = .returned (.int .u16 (v16 (s16 l))) ∧ Below w.heap.size w w' := by
  go_enter Try.func48, Try.ntmps48
  go_wp2_with (go_at_call 50; refine (on16_at 0xffff#16 l _ _ h).mono ?_; rintro e w' ⟨rfl, hb⟩)
  go_ret
  exact ⟨rfl, hb⟩
theorem elB : ElemT Try.prog 22 5 1 1 (.int .u8 0) := elemT_of Try.underlying22 (by kernel_rfl) rfl (by decide)
/-- What lent hands back. -/
structure LentAt (W : World) (base : Nat) (v : Value) (l : List (BitVec 8)) : Prop where
  at_ : ∃ g cap cur, v = .slice (some ⟨g, 0, none⟩) l.length cap ∧ base ≤ g ∧ W.heap[g]? = some (.cells cur 5 (0, 0)) ∧ l.length + 1 ≤ cap ∧ cap ≤ maxLen ∧ cur.size = cap ∧ cur.toList.take (l.length + 1) = l.map b8 ++ [b8 77#8]
theorem lent (l : List (BitVec 8)) (v : Value) (w : World) (h : BytesAt w v l) (hl : l.length ≤ 140737488351232) :
  Calls Try.prog 10 #[v] w fun e w' => ∃ u, e = .returned u ∧ LentAt w' w.heap.size u l ∧ Below w.heap.size w w' := by
  have hsrc := h.src
  obtain ⟨A, cap, rfl, h1, h2, h3, h4⟩ := h
  go_enter Try.func10, Try.ntmps10
  have h0 := World.ownsRow_nil w w.heap.size 5 1
  go_wp2_with (at_builtin; refine wpList_app elB rfl _ _ rfl w.heap.size _ 0 [] rfl h0 _ _ _ rfl hsrc (by simp [maxLen]; omega) (by omega) (Nat.le_refl _) ?_)
  intro v1 w1 ho1 hg1 hn1
  have hs1 : w.heap.size ≤ w1.heap.size := hg1.size
  go_wp2_with (at_builtin; refine wpList_app elB rfl _ _ rfl w.heap.size _ _ _ rfl (ho1.alloc _) _ _ _ rfl (src_one _ _ _ rfl) (by simp [maxLen]; omega) (by omega) (by simp; omega) ?_)
  intro v2 w2 ho2 hg2 hn2
  obtain ⟨g, cap', cur, rfl, hb, hh, hn, hm, hcs, htk⟩ := ho2.2.resolve_left (by simp)
  have hc' : l.length ≤ cap' := by omega
  have b1 : Below w.heap.size w w1 := (Below.refl _ w).grown hg1 (Nat.le_refl _) (by simp [Value.ownBlock])
  have b3 := (b1.alloc hs1 (.cells #[Value.int IntKind.u8 77] 5)).grown hg2 (by simp; omega) (fun k hk => (ho1.lt k hk).1)
  clear b1
  go_wp2_with fail
  go_ret
  exact ⟨_, rfl, ⟨g, cap', cur, rfl, hb, hh, hn, hm, by simpa using hcs, by rw [Nat.mul_one] at htk; exact htk⟩, b3⟩
theorem LentAt.bytes {W : World} {base : Nat} {v : Value} {l : List (BitVec 8)} (h : LentAt W base v l) : BytesAt W v l := by
  obtain ⟨g, cap, cur, rfl, hb, hh, hn, hm, hcs, htk⟩ := h
  refine bytes_of_own (base := base) (e := 5) ⟨by simp, .inr ⟨g, cap, cur, rfl, hb, hh, by omega, hm, by simpa using hcs, ?_⟩⟩
  have := congrArg (List.take l.length) htk
  rw [List.take_take, List.take_append_of_le_length (by simp), List.take_of_length_le (l := l.map b8) (by simp)] at this
  simpa [show min l.length (l.length + 1) = l.length by omega] using this
theorem LentAt.below {W W' : World} {base : Nat} {v : Value} {l : List (BitVec 8)} (h : LentAt W base v l) (hb : Below W.heap.size W W') : LentAt W' base v l := by
  obtain ⟨g, cap, cur, rfl, hb', hh, hr⟩ := h
  exact ⟨g, cap, cur, rfl, hb', by rw [hb.block g (Array.getElem?_eq_some_iff.1 hh).1]; exact hh, hr⟩
theorem LentAt.mark {W : World} {base g cap n : Nat} {l : List (BitVec 8)} (h : LentAt W base (.slice (some ⟨g, 0, none⟩) n cap) l) : n = l.length ∧ l.length + 1 ≤ cap ∧ cap ≤ maxLen ∧ W.cell? ⟨g, l.length, none⟩ = some (.int .u8 77) := by
  obtain ⟨g', cap', cur, e, hb', hh, hn, hm, hcs, htk⟩ := h
  injection e with e1 e2 e3; subst e3; cases e1
  refine ⟨e2, hn, hm, ?_⟩
  rw [cell_of_row _ _ _ _ _ _ hh]
  have h1 : (cur.toList.take (l.length + 1))[l.length]? = some (b8 77#8) := by rw [htk]; simp
  rw [List.getElem?_take_of_lt (by omega)] at h1
  have h2 : cur[l.length]? = some (b8 77#8) := by simpa using h1
  exact h2
end Go.Proofs.Ytedhldcoddbbdaa.F
