import Derived.Test.YtibdaonhldlmbaaE3a
set_option linter.unusedVariables false
set_option linter.unusedSimpArgs false
namespace Go.Proofs.Ytibdaonhldlmbaa.F
open Go.RowKit Go.Proofs.Ytibdaonhldlmbaa.K
theorem wpList_cf {ops : Array Oper} {rest : List Oper} {o : Oper} {a : Act} {Q : Exit → Act → World → Prop} (w : World) (c : Cf) (hgd : o.guard = none) (t : Nat) (ho : o.op = .load 25 (.tmp t)) (hx : a.eval (.tmp t) = .pointer (some ⟨w.heap.size, 0, none⟩))
    (h : wpList Try.prog ops Q rest (a.put o.dst (.agg c.cells)) (w.alloc (.cells c.cells 25))) : wpList Try.prog ops Q (o :: rest) a (w.alloc (.cells c.cells 25)) := by
  refine wpList_run hgd (.agg c.cells) ?_ h
  have hr := run_loadVar_cf w c
  unfold execOp
  simp only [ho, hx, Instr.loadAt, Instr.sureAddr, Sem.run_bind, Sem.run_pure, Result.andThen, hr]
end Go.Proofs.Ytibdaonhldlmbaa.F
