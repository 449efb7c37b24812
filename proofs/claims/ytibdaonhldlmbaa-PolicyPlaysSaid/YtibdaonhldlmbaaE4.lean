import Derived.Test.YtibdaonhldlmbaaE3
set_option linter.unusedVariables false
namespace Go.Proofs.Ytibdaonhldlmbaa.F
open Go.RowKit Go.Proofs.Ytibdaonhldlmbaa.K
theorem row_times (c : Cf) (v : Value) (l : List O) (u : Value) (w : World) (h : v = c.v ∧ i64 c.ho ∧ i64 c.id ∧ i64 c.se ∧ i64 c.mf) (h2 : RecsAt w u 3 O.cells l) : Calls Try.prog 3 #[v, u] w fun e w' => e = .returned (.bool true) ∧ Below w.heap.size w w' := by
  rw [h.1]
  exact law_times c l u w h2
end Go.Proofs.Ytibdaonhldlmbaa.F
