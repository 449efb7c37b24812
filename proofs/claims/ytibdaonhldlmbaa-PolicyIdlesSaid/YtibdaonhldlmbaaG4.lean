import Derived.Test.YtibdaonhldlmbaaG3
import Derived.Test.YtibdaonhldlmbaaR2
set_option linter.unusedVariables false
namespace Go.Proofs.Ytibdaonhldlmbaa.F
open Go.RowKit Go.Proofs.Ytibdaonhldlmbaa.K
theorem row_idles (c : Cf) (v : Value) (l : List O) (u : Value) (ts : List Int) (x : Value) (w : World) (h : v = c.v ∧ i64 c.ho ∧ i64 c.id ∧ i64 c.se ∧ i64 c.mf) (h2 : RecsAt w u 3 O.cells l) (h3 : IntsAt w x ts ∧ ts.length ≤ 17592186043904) : Calls Try.prog 6 #[v, u, x] w fun e w' => e = .returned (.bool true) ∧ Below w.heap.size w w' := by
  rw [h.1]
  exact law_idles c l ts u x w h2 h3.1
end Go.Proofs.Ytibdaonhldlmbaa.F
