import Derived.Test.YtjgndagejogfnaaP1
import Derived.Test.YtjgndagejogfnaaR2
set_option linter.unusedVariables false
namespace Go.Proofs.Ytjgndagejogfnaa.F
open Go.RowKit Go.Proofs.Ytjgndagejogfnaa.K
theorem row_sends (l : List Int) (v : Value) (w : World) (h : IntsAt w v l ∧ l.length ≤ 17592186043904) : Calls Try.prog 6 #[v] w fun e w' => e = .returned (.bool true) ∧ Below w.heap.size w w' := law_sends l v w h.1 h.2
end Go.Proofs.Ytjgndagejogfnaa.F
