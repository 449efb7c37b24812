import Derived.Test.YtibdaonhldlmbaaD3
import Derived.Test.YtibdaonhldlmbaaE2
set_option linter.unusedVariables false
set_option linter.unusedSimpArgs false
namespace Go.Proofs.Ytibdaonhldlmbaa.F
open Go.RowKit Go.Proofs.Ytibdaonhldlmbaa.K
theorem run_loadVar_cf (w : World) (c : Cf) : (loadVar 25 ⟨w.heap.size, 0, none⟩).run Try.prog (w.alloc (.cells c.cells 25)) = .ok (.agg c.cells) (w.alloc (.cells c.cells 25)) := by
  have hL := run_loadCellsFrom_new (P := Try.prog) w 25 c.cells 33 rfl
  have hi : (Try.prog.info? 25).map (·.size) = some 33 := by kernel_rfl
  cases hq : Try.prog.info? 25 with
  | none => rw [hq] at hi; cases hi
  | some i =>
    rw [hq] at hi
    have hz : i.size = 33 := by simpa using hi
    simp [loadVar, run_underlying Try.underlying25, sizeOf, typeInfo, hq, hz, loadCells, hL, isAgg]
end Go.Proofs.Ytibdaonhldlmbaa.F
