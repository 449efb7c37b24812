import Derived.Test.YtedhldcoddbbdaaS4
set_option linter.unusedVariables false
set_option linter.unusedSimpArgs false
set_option linter.unnecessarySimpa false
namespace Go.Proofs.Ytedhldcoddbbdaa.F
open Go.RowKit Go.Proofs.Ytedhldcoddbbdaa.K Go.Shelf
attribute [local go_sem] Oper.semAt_some
theorem run_equalIn_func_nil {P : Program} (W : World) (d : Nat) (t : TypeId) {ps rs : Array TypeId} {vd : Bool} (f : Fn) (a b : Array Value) (h : P.underlying t = some (.func ps rs vd)) : (Op.equalIn (d + 1) t (.func f a b) .nilFunc).run P W = .ok false W := by
  simp [Op.equalIn, run_underlying h]
theorem run_neq_func_nil {P : Program} (W : World) (t : TypeId) {ps rs : Array TypeId} {vd : Bool} (f : Fn) (a b : Array Value) (h : P.underlying t = some (.func ps rs vd)) : (binOp .neq t (.func f a b) .nilFunc).run P W = .ok (.bool true) W := by
  simp only [binOp]
  simp [Op.equal, Op.maxDepth, run_equalIn_func_nil W 9999 t f a b h]
theorem run_eql_func_nil {P : Program} (W : World) (t : TypeId) {ps rs : Array TypeId} {vd : Bool} (f : Fn) (a b : Array Value) (h : P.underlying t = some (.func ps rs vd)) : (binOp .eql t (.func f a b) .nilFunc).run P W = .ok (.bool false) W := by
  simp only [binOp]
  simp [Op.equal, Op.maxDepth, run_equalIn_func_nil W 9999 t f a b h]
theorem neq64 (W : World) (f : Fn) (a b : Array Value) : (binOp .neq 64 (.func f a b) .nilFunc).run Try.prog W = .ok (.bool true) W := run_neq_func_nil W 64 f a b Try.underlying64
theorem eql64 (W : World) (f : Fn) (a b : Array Value) : (binOp .eql 64 (.func f a b) .nilFunc).run Try.prog W = .ok (.bool false) W := run_eql_func_nil W 64 f a b Try.underlying64
end Go.Proofs.Ytedhldcoddbbdaa.F
