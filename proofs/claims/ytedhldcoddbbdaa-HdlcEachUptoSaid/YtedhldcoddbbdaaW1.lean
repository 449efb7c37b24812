import Derived.Test.YtedhldcoddbbdaaProg
import Derived.Test.YtedhldcoddbbdaaV
import Derived.Test.YtedhldcoddbbdaaW0
import Derived.Test.YtedhldcoddbbdaaW0
import Derived.WalkKit
import Derived.Tactics2
import Derived.RegionTactic
import Derived.Deep.QuietTactic
import Derived.BigQuiet
import Derived.Outline
import Derived.StillTailTactics
set_option linter.unusedVariables false
set_option linter.unusedSimpArgs false
set_option linter.unnecessarySimpa false
namespace Go.Proofs.Ytedhldcoddbbdaa.F
open Go.RowKit Go.Proofs.Ytedhldcoddbbdaa.K
attribute [local go_sem] xor16 and16 shr16 cvw16
theorem setCell_setCell (w : World) (a : Addr) (u v : Value) : (w.setCell a u).setCell a v = w.setCell a v := by
  unfold World.setCell
  simp only [World.mk.injEq, and_true]
  apply Array.ext_getElem?
  intro i
  simp only [Array.getElem?_modify]
  by_cases h : a.block = i
  · simp only [if_pos h]
    cases w.heap[i]? with
    | none => rfl
    | some o =>
      cases o <;> simp
      split <;> simp
  · simp only [if_neg h]
theorem one_eq16 (r : BitVec 16) (c : BitVec 8) : (((r ^^^ c.setWidth 16) >>> 4 ^^^ stN P16 4 ((r ^^^ c.setWidth 16) &&& 15#16)) >>> 4 ^^^ stN P16 4 (((r ^^^ c.setWidth 16) >>> 4 ^^^ stN P16 4 ((r ^^^ c.setWidth 16) &&& 15#16)) &&& 15#16)) = bst P16 r c := by
  rw [← nib16, ← nib16, ← stN_add]
  rfl
theorem one16 (c : BitVec 8) (r : BitVec 16) (br bt : Nat) (w : World)
   (hr : w.cell? ⟨br, 0, none⟩ = some (.int .u16 (v16 r))) (hf : w.frozen? ⟨br, 0, none⟩ = false) (hne : br ≠ bt)
   (ht : ∀ x : BitVec 16, w.cell? ⟨bt, (v16 (x &&& 15#16)).toNat, none⟩ = some (.int .u16 (v16 (stN P16 4 (x &&& 15#16)))))
   : Calls Try.prog 53 #[.int .u8 (v8 c), .pointer (some ⟨br, 0, none⟩), .pointer (some ⟨bt, 0, none⟩)] w fun e w' => e = .returned (.tuple #[]) ∧ ∃ n, w' = (w.setCell ⟨br, 0, none⟩ (.int .u16 (v16 (bst P16 r c)))).drewN n := by
  have hx0 : ∀ x : BitVec 16, 0 ≤ v16 (x &&& 15#16) := fun x => (le15_16 x).1
  have hx1 : ∀ x : BitVec 16, v16 (x &&& 15#16) < 16 := fun x => (le15_16 x).2
  have hne' : bt ≠ br := Ne.symm hne
  go_enter Try.func53, Try.ntmps53
  go_wp2
  refine region_tail 7 (by kernel_rfl) (by kernel_rfl) ?_
  simp only [List.take_succ_cons, List.take_zero, List.drop_succ_cons, List.drop_zero]
  repeat still_step
  refine wpStill_nil ?_
  go_wp2
  refine region_tail 7 (by kernel_rfl) (by kernel_rfl) ?_
  simp only [List.take_succ_cons, List.take_zero, List.drop_succ_cons, List.drop_zero]
  repeat still_step
  refine wpStill_nil ?_
  go_wp2
  go_end0
  refine ⟨rfl, 2, ?_⟩
  simp only [setCell_setCell]
  rw [one_eq16]
  rfl

/-- The register's box and the table lie where On16 laid them. -/
structure St16 (w0 W : World) (R T : Nat) (r : BitVec 16) : Prop where
  bel : Below w0.heap.size w0 W
  base : w0.heap.size ≤ R
  ne : R ≠ T
  cell : W.cell? ⟨R, 0, none⟩ = some (.int .u16 (v16 r))
  free : W.frozen? ⟨R, 0, none⟩ = false
  tab : ∀ x : BitVec 16, W.cell? ⟨T, (v16 (x &&& 15#16)).toNat, none⟩ = some (.int .u16 (v16 (stN P16 4 (x &&& 15#16))))
theorem St16.one {w0 W : World} {R T : Nat} {r : BitVec 16} (h : St16 w0 W R T r) (c : BitVec 8) :
    Calls Try.prog 53 #[.int .u8 (v8 c), .pointer (some ⟨R, 0, none⟩), .pointer (some ⟨T, 0, none⟩)] W fun e w' => e = .returned (.tuple #[]) ∧ St16 w0 w' R T (bst P16 r c) := by
  refine (one16 c r R T W h.cell h.free h.ne h.tab).mono ?_
  rintro e w' ⟨rfl, n, rfl⟩
  refine ⟨rfl, ?_, h.base, h.ne, ?_, ?_, ?_⟩
  · exact ⟨h.bel.os, h.bel.tape, h.bel.output, (h.bel.setCell h.base _).size, (h.bel.setCell h.base _).block⟩
  · have := World.cell?_setCell_same W ⟨R, 0, none⟩ (.int .u16 (v16 (bst P16 r c))) h.cell
    simpa using this
  · simpa using h.free
  · intro x
    have := h.tab x
    rw [World.cell?_drewN]; exact (World.cell?_setCell_other _ _ _ _ (fun e => h.ne (by injection e))).trans this
end Go.Proofs.Ytedhldcoddbbdaa.F
