import Derived.Test.YtedhldcoddbbdaaW5
import Derived.Outline
import Derived.Laws.CopyOwn
set_option linter.unusedVariables false
set_option linter.unusedSimpArgs false
set_option linter.unnecessarySimpa false
namespace Go.Proofs.Ytedhldcoddbbdaa.F
open Go.RowKit Go.Proofs.Ytedhldcoddbbdaa.K
attribute [local go_sem high] shrN32 cv8_32 cv8_32'
theorem put (l : List (BitVec 8)) (v : Value) (s : BitVec 32) (n : Nat) (w : World) (h : BytesAt w v l) (hl : l.length ≤ 140737488351232) (hn : n ≤ 4) :
  Calls Try.prog 47 #[v, .int .u32 (v32 s), .int .i64 n] w fun e w' => ∃ u, e = .returned u ∧ w'.ownsRow w.heap.size 5 1 u (l.length + n) ((l ++ sb s n).map b8) ∧ Below w.heap.size w w' := by
  have hsrc := h.src
  obtain ⟨A, cap, rfl, h1, h2, h3, h4⟩ := h
  obtain ⟨i0, hi, hz, hsz, hby⟩ := elB.hi
  have hmk := run_make (P := Try.prog) w 22 5 i0 (.int .u8 0) Try.underlying22 hi hz .i64 .i64 l.length (l.length + n) (by omega) (by omega) (by rw [hby]; omega) (by omega)
  rw [Int.toNat_natCast, show ((l.length : Int) + (n : Int)).toNat = l.length + n by omega, hsz, Nat.mul_one] at hmk
  generalize hC : madeCells (Value.int .u8 0).cells (l.length + n) = C at hmk
  have hCs : C.size = l.length + n := by rw [← hC]; simp [size_madeCells]
  clear hC hi hz hsz hby
  go_enter Try.func47, Try.ntmps47
  have hb0 : Below w.heap.size w (w.alloc (.cells C 5)) := (Below.refl _ w).alloc (Nat.le_refl _) _
  have hcs := hsrc.len
  have hcell : ∀ ad, A = some ad → ∀ j u, (l.map b8)[j]? = some u → (w.alloc (.cells C 5)).cell? (ad.add j) = some u := fun ad e j u hj => by
    obtain ⟨A', c', e1, -, hc⟩ := hsrc.at_
    cases e1
    have := hc ad e j u hj
    exact (hb0.cell (World.block_lt_of_cell? w _ this)).trans this
  go_wp2_with (refine wpList_copy_splice (o := ⟨some 18, .call { callee := .builtin .copy, args := #[.tmp 16, .tmp 17], argTypes := #[22, 22] }, _, _, _, _⟩) rfl (.tmp 16) (.tmp 17) 22 22 rfl 5 Try.underlying22 (by kernel_rfl) _ _ _ _ _ _ rfl rfl w.heap.size 0 C.toList 5 (by simpa using heap_alloc_new w (.cells C 5)) (l.map b8) (by simp) (fun hp => ⟨rfl, (by
    cases A with
    | none => rw [h3 rfl] at hp; simp at hp
    | some ad => exact ⟨ad, rfl, hcell ad rfl⟩)⟩) (by simp; omega) hsrc.one w.heap.size w hb0 (Nat.le_refl _) ?_)
  intro w1 H1 hb1
  have hrow : w1.ownsRow w.heap.size 5 1 (.slice (some ⟨w.heap.size, 0, none⟩) l.length (l.length + n)) l.length (l.map b8) := by
    refine ⟨by simp, .inr ⟨w.heap.size, l.length + n, _, rfl, Nat.le_refl _, H1.out, by omega, by simp [maxLen]; omega, ?_, ?_⟩⟩
    · simp [length_splice, hCs]
    · simp [splice]
  clear H1 hmk hcell hcs hb0
  go_wp2
  go_loopw [7, 20] (fun o i wr => ∃ k : Nat, k ≤ n ∧ i = .int .i64 k ∧ wr.ownsRow w.heap.size 5 1 o (l.length + k) ((l ++ sb s k).map b8) ∧ Below w.heap.size w wr) (fun _ i _ => n - (intOf i).toNat)
  case atStart => exact ⟨0, Nat.zero_le _, rfl, by simpa [sb] using hrow, hb1⟩
  case round =>
    obtain ⟨k, hk, rfl, ho, hb⟩ := hrel
    have hbs := hb.size
    by_cases hlt : k < n
    · go_wp2_with (at_builtin; refine wpList_app elB rfl _ _ rfl w.heap.size _ _ _ rfl (ho.alloc _) _ _ _ rfl (src_one _ _ _ rfl) (by simp [maxLen]; omega) (by omega) (by simp; omega) ?_)
      intro v2 w2 ho2 hg2 hn2
      have b3 := (hb.alloc hbs _).grown hg2 (by simp; omega) (fun k hk => (ho.lt k hk).1)
      clear hg2 hb ho
      go_wp2
      go_roundw
      case rel =>
        refine ⟨k + 1, by omega, by go_num, ?_, b3⟩
        rw [sb_succ, ← Nat.add_assoc]
        simpa [b8] using ho2
      case measure => simp [intOf]; omega
    · obtain rfl : k = n := by omega
      go_wp2
      go_ret
      exact ⟨_, rfl, ho, hb⟩
end Go.Proofs.Ytedhldcoddbbdaa.F
