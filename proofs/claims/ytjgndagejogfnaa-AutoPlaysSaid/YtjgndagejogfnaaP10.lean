import Derived.Test.YtjgndagejogfnaaP9
set_option linter.unusedVariables false
namespace Go.Proofs.Ytjgndagejogfnaa.F
open Go.RowKit Go.Proofs.Ytjgndagejogfnaa.K
theorem row_plays (c t : Int) (l : List O) (v : Value) (cut : Int) (w : World) (h1 : (Lit.int .i64 c).wf = true) (h2 : (Lit.int .i64 t).wf = true) (h : RecsAt w v 2 O.cells l) (h3 : (Lit.int .i64 cut).wf = true) : Calls Try.prog 9 #[.int .i64 c, .int .i64 t, v, .int .i64 cut] w fun e w' => e = .returned (.bool true) ∧ Below w.heap.size w w' := law_plays c t l v cut w h
end Go.Proofs.Ytjgndagejogfnaa.F
