import Derived.Test.YtjgndagejogfnaaP6
set_option linter.unusedVariables false
namespace Go.Proofs.Ytjgndagejogfnaa.F
open Go.RowKit Go.Proofs.Ytjgndagejogfnaa.K
theorem row_ends (c t : Int) (l : List O) (v : Value) (w : World) (h1 : (Lit.int .i64 c).wf = true) (h2 : (Lit.int .i64 t).wf = true) (h : RecsAt w v 2 O.cells l) : Calls Try.prog 7 #[.int .i64 c, .int .i64 t, v] w fun e w' => e = .returned (.bool true) ∧ Below w.heap.size w w' := law_ends c t l v w h
theorem row_may (c t : Int) (l : List O) (v : Value) (w : World) (h1 : (Lit.int .i64 c).wf = true) (h2 : (Lit.int .i64 t).wf = true) (h : RecsAt w v 2 O.cells l) : Calls Try.prog 11 #[.int .i64 c, .int .i64 t, v] w fun e w' => e = .returned (.bool true) ∧ Below w.heap.size w w' := law_may c t l v w h
theorem row_runs (c t : Int) (l : List Int) (v : Value) (w : World) (h1 : (Lit.int .i64 c).wf = true) (h2 : (Lit.int .i64 t).wf = true) (h : IntsAt w v l ∧ l.length ≤ 17592186043904) (hl : l.length ≤ 1048576) : Calls Try.prog 4 #[.int .i64 c, .int .i64 t, v] w fun e w' => e = .returned (.bool true) ∧ Below w.heap.size w w' := law_runs c t l v w h.1 hl
end Go.Proofs.Ytjgndagejogfnaa.F
