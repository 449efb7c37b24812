import Derived.Test.YtedhldcoddbbdaaProg
import Derived.Test.YtedhldcoddbbdaaV
import Derived.WalkKit
import Derived.Tactics2
import Derived.RegionTactic
import Derived.Deep.QuietTactic
import Derived.BigQuiet
import Derived.Outline
import Derived.StillTailTactics
import Derived.Deep.LoopGhost
import Derived.Deep.WholeRow
set_option linter.unusedVariables false
set_option linter.unusedSimpArgs false
set_option linter.unnecessarySimpa false
namespace Go.Proofs.Ytedhldcoddbbdaa.F
open Go.RowKit Go.Proofs.Ytedhldcoddbbdaa.K
def ReadsB (w : World) (A : Option Addr) (l : List (BitVec 8)) : Prop :=
  ∀ j (h : j < l.length), ∃ b o, A = some ⟨b, o, none⟩ ∧ w.cell? ⟨b, o + j, none⟩ = some (.int .u8 (v8 l[j]))
def tab32 : Array Value := (T32.map (Value.int .u32)).toArray
def tab16 : Array Value := (T16.map (Value.int .u16)).toArray
theorem half16 (w : World) : Calls Try.prog 52 #[] w fun e w' => e = .returned (.agg tab16) ∧ w' = w.alloc (.cells tab16 87) := by
  go_enter Try.func52, Try.ntmps52
  go_wp2
  exact bodyPost_ret (v := .agg tab16) (results_cell_row rfl _ _ w.heap.size 87 tab16 (0, 0) _ rfl (heap_alloc_new _ _) Try.underlying87 rfl rfl) rfl ⟨rfl, rfl⟩
theorem tab16_cell {W : World} {g : Nat} (h : W.heap[g]? = some (.cells tab16 87 (0, 0))) (x : BitVec 16) : W.cell? ⟨g, (v16 (x &&& 15#16)).toNat, none⟩ = some (.int .u16 (v16 (stN P16 4 (x &&& 15#16)))) := by
  rw [cell_of_row _ _ _ _ _ _ h, ← T16_at x]
  have := le15_16 x
  have hl : (v16 (x &&& 15#16)).toNat < T16.length := by simp [T16]; omega
  simp [tab16, List.getElem?_eq_getElem hl, List.getD_eq_getElem?_getD]
theorem take_snoc (l : List (BitVec 8)) (k : Nat) (h : k < l.length) : l.take (k + 1) = l.take k ++ [l[k]] := by
  rw [List.take_succ_eq_append_getElem h]
theorem crc_snoc32 (r : BitVec 32) (l : List (BitVec 8)) (k : Nat) (h : k < l.length) : crc P32 r (l.take (k + 1)) =
    (((crc P32 r (l.take k) ^^^ l[k].setWidth 32) >>> 4 ^^^ stN P32 4 ((crc P32 r (l.take k) ^^^ l[k].setWidth 32) &&& 15#32)) >>> 4 ^^^ stN P32 4 (((crc P32 r (l.take k) ^^^ l[k].setWidth 32) >>> 4 ^^^ stN P32 4 ((crc P32 r (l.take k) ^^^ l[k].setWidth 32) &&& 15#32)) &&& 15#32)) := by
  rw [take_snoc l k h, crc_append, ← nib32, ← nib32, ← stN_add]
  rfl
end Go.Proofs.Ytedhldcoddbbdaa.F
