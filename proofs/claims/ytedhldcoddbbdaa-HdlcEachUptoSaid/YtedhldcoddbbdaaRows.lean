/-
  No cell of these rows narrows 'for every input' (looked for: loops, veiled, ifaces, maps, wideKeys, modest, calm, conditions, laid).
  DERIVED. THE GIVEN ROWS OF THIS SEAT. 7 by the template 'for every input the law returns true; each argument reads behind the call as it read before'; 0 by the template 'total and deterministic' (their statements: YtedhldcoddbbdaaTotals.lean).
  GIVEN WITH THE SEED: the statements are not yours to turn. If you find one false, say at which input.
  Laid BY PROGRAM, IN A SANDBOX (cutbox-rows.mjs): the forced cells as the released guide's own fill.sh prints them over the translation e9beb318f0101cbc… (all of the seat's roots in one cut). By AI agents, Wed Nov 11 2026. No macro, syntax, notation, axiom, sorry.
-/
import Derived.Test.YtedhldcoddbbdaaChecked
import GoSem.Claim
import GoSem.ClaimJoined
import GoSem.ClaimMapViews
import Derived.JoinedTies
import Derived.KernelRfl
namespace Go.Proofs.Ytedhldcoddbbdaa
/- THE CELL 'sum', in the pinned program and in every row, IS THE sha256 OF THE DUMP (.gsa) THAT YtedhldcoddbbdaaProg.lean LOADS. Nothing in Lean hashes anything: it is a label: what it is worth is what the hold of that sum in a sandbox is worth. -/
noncomputable def Try.pinned : Pinned := { name := "ytedhldcoddbbdaa", sum := "e9beb318f0101cbc05901dfb631266c1a5b34993b41854d022597ceb969176da", checked := Try.checked }
namespace Rows
def none {H : Type} : Left H := { results := [], args := [] }

/-- 'tetherlaw03.HdlcWrites': WHATEVER THE INPUT: true; the input reads as it did. -/
def hdlcWritesSpec : ChangeSpec := { name := "hdlcWrites", fn := fun _ => fun
  | [d1, d2, d3] => { results := [.lit (.bool true)], args := [d1, d2, d3] }
  | _ => none }
def hdlcWritesRow : OpenClaim := { program := "ytedhldcoddbbdaa", sum := "e9beb318f0101cbc05901dfb631266c1a5b34993b41854d022597ceb969176da", func := "tether/tetherlaw03.HdlcWrites", spec := "hdlcWrites", unfollowed := true, recurses := true, apart := false }
def HdlcWritesSaid : Prop := hdlcWritesRow.holds Try.pinned (OpenSpec.ofChange hdlcWritesSpec)

/-- ITS FALSE NEIGHBOUR: 'it returns false'. Refute it at one input. -/
def hdlcWritesWrong : ChangeSpec := { name := "hdlcWrites", fn := fun _ => fun
  | [d1, d2, d3] => { results := [.lit (.bool false)], args := [d1, d2, d3] }
  | _ => none }
def HdlcWritesWrongFalsely : Prop := hdlcWritesRow.holds Try.pinned (OpenSpec.ofChange hdlcWritesWrong)

/-- 'tetherlaw03.HdlcParses': WHATEVER THE INPUT: true; the input reads as it did. -/
def hdlcParsesSpec : ChangeSpec := { name := "hdlcParses", fn := fun _ => fun
  | [d1, d2, d3] => { results := [.lit (.bool true)], args := [d1, d2, d3] }
  | _ => none }
def hdlcParsesRow : OpenClaim := { program := "ytedhldcoddbbdaa", sum := "e9beb318f0101cbc05901dfb631266c1a5b34993b41854d022597ceb969176da", func := "tether/tetherlaw03.HdlcParses", spec := "hdlcParses", unfollowed := true, recurses := true, apart := false }
def HdlcParsesSaid : Prop := hdlcParsesRow.holds Try.pinned (OpenSpec.ofChange hdlcParsesSpec)

/-- ITS FALSE NEIGHBOUR: 'it returns false'. Refute it at one input. -/
def hdlcParsesWrong : ChangeSpec := { name := "hdlcParses", fn := fun _ => fun
  | [d1, d2, d3] => { results := [.lit (.bool false)], args := [d1, d2, d3] }
  | _ => none }
def HdlcParsesWrongFalsely : Prop := hdlcParsesRow.holds Try.pinned (OpenSpec.ofChange hdlcParsesWrong)

/-- 'tetherlaw03.HdlcNoise': WHATEVER THE INPUT: true; the input reads as it did. -/
def hdlcNoiseSpec : ChangeSpec := { name := "hdlcNoise", fn := fun _ => fun
  | [d1, d2, d3] => { results := [.lit (.bool true)], args := [d1, d2, d3] }
  | _ => none }
def hdlcNoiseRow : OpenClaim := { program := "ytedhldcoddbbdaa", sum := "e9beb318f0101cbc05901dfb631266c1a5b34993b41854d022597ceb969176da", func := "tether/tetherlaw03.HdlcNoise", spec := "hdlcNoise", unfollowed := true, recurses := true, apart := false }
def HdlcNoiseSaid : Prop := hdlcNoiseRow.holds Try.pinned (OpenSpec.ofChange hdlcNoiseSpec)

/-- ITS FALSE NEIGHBOUR: 'it returns false'. Refute it at one input. -/
def hdlcNoiseWrong : ChangeSpec := { name := "hdlcNoise", fn := fun _ => fun
  | [d1, d2, d3] => { results := [.lit (.bool false)], args := [d1, d2, d3] }
  | _ => none }
def HdlcNoiseWrongFalsely : Prop := hdlcNoiseRow.holds Try.pinned (OpenSpec.ofChange hdlcNoiseWrong)

/-- 'tetherlaw03.HdlcTakes': WHATEVER THE INPUT: true; the input reads as it did. -/
def hdlcTakesSpec : ChangeSpec := { name := "hdlcTakes", fn := fun _ => fun
  | [d1, d2, d3, d4, d5, d6] => { results := [.lit (.bool true)], args := [d1, d2, d3, d4, d5, d6] }
  | _ => none }
def hdlcTakesRow : OpenClaim := { program := "ytedhldcoddbbdaa", sum := "e9beb318f0101cbc05901dfb631266c1a5b34993b41854d022597ceb969176da", func := "tether/tetherlaw03.HdlcTakes", spec := "hdlcTakes", unfollowed := true, recurses := true, apart := false }
def HdlcTakesSaid : Prop := hdlcTakesRow.holds Try.pinned (OpenSpec.ofChange hdlcTakesSpec)

/-- ITS FALSE NEIGHBOUR: 'it returns false'. Refute it at one input. -/
def hdlcTakesWrong : ChangeSpec := { name := "hdlcTakes", fn := fun _ => fun
  | [d1, d2, d3, d4, d5, d6] => { results := [.lit (.bool false)], args := [d1, d2, d3, d4, d5, d6] }
  | _ => none }
def HdlcTakesWrongFalsely : Prop := hdlcTakesRow.holds Try.pinned (OpenSpec.ofChange hdlcTakesWrong)

/-- 'tetherlaw03.HdlcEach': WHATEVER THE INPUT: true; the input reads as it did. -/
def hdlcEachSpec : ChangeSpec := { name := "hdlcEach", fn := fun _ => fun
  | [d1, d2, d3, d4, d5] => { results := [.lit (.bool true)], args := [d1, d2, d3, d4, d5] }
  | _ => none }
def hdlcEachRow : OpenClaim := { program := "ytedhldcoddbbdaa", sum := "e9beb318f0101cbc05901dfb631266c1a5b34993b41854d022597ceb969176da", func := "tether/tetherlaw03.HdlcEach", spec := "hdlcEach", unfollowed := true, recurses := true, apart := false }
def HdlcEachSaid : Prop := hdlcEachRow.holds Try.pinned (OpenSpec.ofChange hdlcEachSpec)

/-- ITS FALSE NEIGHBOUR: 'it returns false'. Refute it at one input. -/
def hdlcEachWrong : ChangeSpec := { name := "hdlcEach", fn := fun _ => fun
  | [d1, d2, d3, d4, d5] => { results := [.lit (.bool false)], args := [d1, d2, d3, d4, d5] }
  | _ => none }
def HdlcEachWrongFalsely : Prop := hdlcEachRow.holds Try.pinned (OpenSpec.ofChange hdlcEachWrong)

/-- 'tetherlaw03.HdlcTold': WHATEVER THE INPUT: true; the input reads as it did. -/
def hdlcToldSpec : ChangeSpec := { name := "hdlcTold", fn := fun _ => fun
  | [d1, d2] => { results := [.lit (.bool true)], args := [d1, d2] }
  | _ => none }
def hdlcToldRow : OpenClaim := { program := "ytedhldcoddbbdaa", sum := "e9beb318f0101cbc05901dfb631266c1a5b34993b41854d022597ceb969176da", func := "tether/tetherlaw03.HdlcTold", spec := "hdlcTold", unfollowed := true, recurses := true, apart := false }
def HdlcToldSaid : Prop := hdlcToldRow.holds Try.pinned (OpenSpec.ofChange hdlcToldSpec)

/-- ITS FALSE NEIGHBOUR: 'it returns false'. Refute it at one input. -/
def hdlcToldWrong : ChangeSpec := { name := "hdlcTold", fn := fun _ => fun
  | [d1, d2] => { results := [.lit (.bool false)], args := [d1, d2] }
  | _ => none }
def HdlcToldWrongFalsely : Prop := hdlcToldRow.holds Try.pinned (OpenSpec.ofChange hdlcToldWrong)

/-- 'tetherlaw03.HdlcNil': WHATEVER THE INPUT: true; the input reads as it did. -/
def hdlcNilSpec : ChangeSpec := { name := "hdlcNil", fn := fun _ => fun
  | [d] => { results := [.lit (.bool true)], args := [d] }
  | _ => none }
def hdlcNilRow : OpenClaim := { program := "ytedhldcoddbbdaa", sum := "e9beb318f0101cbc05901dfb631266c1a5b34993b41854d022597ceb969176da", func := "tether/tetherlaw03.HdlcNil", spec := "hdlcNil", unfollowed := true, recurses := true, apart := false }
def HdlcNilSaid : Prop := hdlcNilRow.holds Try.pinned (OpenSpec.ofChange hdlcNilSpec)

/-- ITS FALSE NEIGHBOUR: 'it returns false'. Refute it at one input. -/
def hdlcNilWrong : ChangeSpec := { name := "hdlcNil", fn := fun _ => fun
  | [d] => { results := [.lit (.bool false)], args := [d] }
  | _ => none }
def HdlcNilWrongFalsely : Prop := hdlcNilRow.holds Try.pinned (OpenSpec.ofChange hdlcNilWrong)

/- THE SECOND FORM. 'bulk': how many values and letters a reading holds, each counted each time it is reached (what is shared counts as often as it is met; a slice's spare places count too). A statement '..UptoSaid' is the law's where the arguments, and the package variables that the reading takes, are together of bulk at most 1048576: NARROWER than '..Said'. Prove '..Said' where nothing that the law and all that it calls make is longer than what came in: it says more and counts as full. Else prove '..UptoSaid'. A law counts once. -/
mutual
def uptoBulk {H : Type} : DataW H → Nat
  | .lit (.string bytes) => bytes.length + 1
  | .lit _ => 1
  | .nil => 1
  | .ptr d => uptoBulk d + 1
  | .slice elems spare => uptoBulkAll elems + uptoBulkAll spare + 1
  | .agg parts => uptoBulkAll parts + 1
  | .iface _ d => uptoBulk d + 1
  | .map entries => uptoBulkEntries entries + 1
  | .held _ => 1
def uptoBulkAll {H : Type} : List (DataW H) → Nat
  | [] => 0
  | d :: r => uptoBulk d + uptoBulkAll r
def uptoBulkEntries {H : Type} : List (Lit × DataW H) → Nat
  | [] => 0
  | x :: r => uptoBulkEntry x + uptoBulkEntries r
def uptoBulkEntry {H : Type} : Lit × DataW H → Nat
  | (.string bytes, d) => bytes.length + uptoBulk d + 1
  | (_, d) => uptoBulk d + 1
 end
def uptoSmall : (H : Type) → List (DataW H) → Bool := fun _ ds => decide (uptoBulkAll ds ≤ 1048576)
def OpenSpec.upto (s : _root_.Go.ChangeSpec) : _root_.Go.OpenSpec := { _root_.Go.OpenSpec.ofChange s with cond := some uptoSmall }

/-- 'tetherlaw03.HdlcWrites', WHERE WHAT IT READS IS OF BULK AT MOST 1048576: true; the input reads as it did. -/
def hdlcWritesUptoRow : OpenClaim := { program := "ytedhldcoddbbdaa", sum := "e9beb318f0101cbc05901dfb631266c1a5b34993b41854d022597ceb969176da", func := "tether/tetherlaw03.HdlcWrites", spec := "hdlcWrites", unfollowed := true, recurses := true, apart := false, narrowed := true }
def HdlcWritesUptoSaid : Prop := hdlcWritesUptoRow.holds Try.pinned (OpenSpec.upto hdlcWritesSpec)

/-- 'tetherlaw03.HdlcParses', WHERE WHAT IT READS IS OF BULK AT MOST 1048576: true; the input reads as it did. -/
def hdlcParsesUptoRow : OpenClaim := { program := "ytedhldcoddbbdaa", sum := "e9beb318f0101cbc05901dfb631266c1a5b34993b41854d022597ceb969176da", func := "tether/tetherlaw03.HdlcParses", spec := "hdlcParses", unfollowed := true, recurses := true, apart := false, narrowed := true }
def HdlcParsesUptoSaid : Prop := hdlcParsesUptoRow.holds Try.pinned (OpenSpec.upto hdlcParsesSpec)

/-- 'tetherlaw03.HdlcNoise', WHERE WHAT IT READS IS OF BULK AT MOST 1048576: true; the input reads as it did. -/
def hdlcNoiseUptoRow : OpenClaim := { program := "ytedhldcoddbbdaa", sum := "e9beb318f0101cbc05901dfb631266c1a5b34993b41854d022597ceb969176da", func := "tether/tetherlaw03.HdlcNoise", spec := "hdlcNoise", unfollowed := true, recurses := true, apart := false, narrowed := true }
def HdlcNoiseUptoSaid : Prop := hdlcNoiseUptoRow.holds Try.pinned (OpenSpec.upto hdlcNoiseSpec)

/-- 'tetherlaw03.HdlcTakes', WHERE WHAT IT READS IS OF BULK AT MOST 1048576: true; the input reads as it did. -/
def hdlcTakesUptoRow : OpenClaim := { program := "ytedhldcoddbbdaa", sum := "e9beb318f0101cbc05901dfb631266c1a5b34993b41854d022597ceb969176da", func := "tether/tetherlaw03.HdlcTakes", spec := "hdlcTakes", unfollowed := true, recurses := true, apart := false, narrowed := true }
def HdlcTakesUptoSaid : Prop := hdlcTakesUptoRow.holds Try.pinned (OpenSpec.upto hdlcTakesSpec)

/-- 'tetherlaw03.HdlcEach', WHERE WHAT IT READS IS OF BULK AT MOST 1048576: true; the input reads as it did. -/
def hdlcEachUptoRow : OpenClaim := { program := "ytedhldcoddbbdaa", sum := "e9beb318f0101cbc05901dfb631266c1a5b34993b41854d022597ceb969176da", func := "tether/tetherlaw03.HdlcEach", spec := "hdlcEach", unfollowed := true, recurses := true, apart := false, narrowed := true }
def HdlcEachUptoSaid : Prop := hdlcEachUptoRow.holds Try.pinned (OpenSpec.upto hdlcEachSpec)

/-- 'tetherlaw03.HdlcTold', WHERE WHAT IT READS IS OF BULK AT MOST 1048576: true; the input reads as it did. -/
def hdlcToldUptoRow : OpenClaim := { program := "ytedhldcoddbbdaa", sum := "e9beb318f0101cbc05901dfb631266c1a5b34993b41854d022597ceb969176da", func := "tether/tetherlaw03.HdlcTold", spec := "hdlcTold", unfollowed := true, recurses := true, apart := false, narrowed := true }
def HdlcToldUptoSaid : Prop := hdlcToldUptoRow.holds Try.pinned (OpenSpec.upto hdlcToldSpec)

/-- 'tetherlaw03.HdlcNil', WHERE WHAT IT READS IS OF BULK AT MOST 1048576: true; the input reads as it did. -/
def hdlcNilUptoRow : OpenClaim := { program := "ytedhldcoddbbdaa", sum := "e9beb318f0101cbc05901dfb631266c1a5b34993b41854d022597ceb969176da", func := "tether/tetherlaw03.HdlcNil", spec := "hdlcNil", unfollowed := true, recurses := true, apart := false, narrowed := true }
def HdlcNilUptoSaid : Prop := hdlcNilUptoRow.holds Try.pinned (OpenSpec.upto hdlcNilSpec)

end Rows
end Go.Proofs.Ytedhldcoddbbdaa
