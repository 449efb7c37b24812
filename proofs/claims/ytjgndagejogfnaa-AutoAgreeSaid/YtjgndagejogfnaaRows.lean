/-
  No cell of these rows narrows 'for every input' (looked for: loops, veiled, ifaces, maps, wideKeys, modest, calm, conditions, laid).
  DERIVED. THE GIVEN ROWS OF THIS SEAT. 9 by the template 'for every input the law returns true; each argument reads behind the call as it read before'; 0 by the template 'total and deterministic' (their statements: YtjgndagejogfnaaTotals.lean).
  GIVEN WITH THE SEED: the statements are not yours to turn. If you find one false, say at which input.
  Laid BY PROGRAM, IN A SANDBOX (cutbox-rows.mjs): the forced cells as the released guide's own fill.sh prints them over the translation 72e3e2112d63e59a… (all of the seat's roots in one cut). By AI agents, Wed Nov 11 2026. No macro, syntax, notation, axiom, sorry.
-/
import Derived.Test.YtjgndagejogfnaaChecked
import GoSem.Claim
import GoSem.ClaimJoined
import GoSem.ClaimMapViews
import Derived.JoinedTies
import Derived.KernelRfl
namespace Go.Proofs.Ytjgndagejogfnaa
/- THE CELL 'sum', in the pinned program and in every row, IS THE sha256 OF THE DUMP (.gsa) THAT YtjgndagejogfnaaProg.lean LOADS. Nothing in Lean hashes anything: it is a label: what it is worth is what the hold of that sum in a sandbox is worth. -/
noncomputable def Try.pinned : Pinned := { name := "ytjgndagejogfnaa", sum := "72e3e2112d63e59aa5f7f97a691b7cf0fb40ac71b32d9a3a4f32b8d4d32adf42", checked := Try.checked }
namespace Rows
def none {H : Type} : Left H := { results := [], args := [] }

/-- 'tetherlaw10.AutoWhole': WHATEVER THE INPUT: true; the input reads as it did. -/
def autoWholeSpec : ChangeSpec := { name := "autoWhole", fn := fun _ => fun
  | [d] => { results := [.lit (.bool true)], args := [d] }
  | _ => none }
def autoWholeRow : OpenClaim := { program := "ytjgndagejogfnaa", sum := "72e3e2112d63e59aa5f7f97a691b7cf0fb40ac71b32d9a3a4f32b8d4d32adf42", func := "tether/tetherlaw10.AutoWhole", spec := "autoWhole", apart := false }
def AutoWholeSaid : Prop := autoWholeRow.holds Try.pinned (OpenSpec.ofChange autoWholeSpec)

/-- ITS FALSE NEIGHBOUR: 'it returns false'. Refute it at one input. -/
def autoWholeWrong : ChangeSpec := { name := "autoWhole", fn := fun _ => fun
  | [d] => { results := [.lit (.bool false)], args := [d] }
  | _ => none }
def AutoWholeWrongFalsely : Prop := autoWholeRow.holds Try.pinned (OpenSpec.ofChange autoWholeWrong)

/-- 'tetherlaw10.AutoRuns': WHATEVER THE INPUT: true; the input reads as it did. -/
def autoRunsSpec : ChangeSpec := { name := "autoRuns", fn := fun _ => fun
  | [d1, d2, d3] => { results := [.lit (.bool true)], args := [d1, d2, d3] }
  | _ => none }
def autoRunsRow : OpenClaim := { program := "ytjgndagejogfnaa", sum := "72e3e2112d63e59aa5f7f97a691b7cf0fb40ac71b32d9a3a4f32b8d4d32adf42", func := "tether/tetherlaw10.AutoRuns", spec := "autoRuns", apart := false }
def AutoRunsSaid : Prop := autoRunsRow.holds Try.pinned (OpenSpec.ofChange autoRunsSpec)

/-- ITS FALSE NEIGHBOUR: 'it returns false'. Refute it at one input. -/
def autoRunsWrong : ChangeSpec := { name := "autoRuns", fn := fun _ => fun
  | [d1, d2, d3] => { results := [.lit (.bool false)], args := [d1, d2, d3] }
  | _ => none }
def AutoRunsWrongFalsely : Prop := autoRunsRow.holds Try.pinned (OpenSpec.ofChange autoRunsWrong)

/-- 'tetherlaw10.AutoTable': WHATEVER THE INPUT: true; the input reads as it did. -/
def autoTableSpec : ChangeSpec := { name := "autoTable", fn := fun _ => fun
  | [d1, d2] => { results := [.lit (.bool true)], args := [d1, d2] }
  | _ => none }
def autoTableRow : OpenClaim := { program := "ytjgndagejogfnaa", sum := "72e3e2112d63e59aa5f7f97a691b7cf0fb40ac71b32d9a3a4f32b8d4d32adf42", func := "tether/tetherlaw10.AutoTable", spec := "autoTable", apart := false }
def AutoTableSaid : Prop := autoTableRow.holds Try.pinned (OpenSpec.ofChange autoTableSpec)

/-- ITS FALSE NEIGHBOUR: 'it returns false'. Refute it at one input. -/
def autoTableWrong : ChangeSpec := { name := "autoTable", fn := fun _ => fun
  | [d1, d2] => { results := [.lit (.bool false)], args := [d1, d2] }
  | _ => none }
def AutoTableWrongFalsely : Prop := autoTableRow.holds Try.pinned (OpenSpec.ofChange autoTableWrong)

/-- 'tetherlaw10.AutoSends': WHATEVER THE INPUT: true; the input reads as it did. -/
def autoSendsSpec : ChangeSpec := { name := "autoSends", fn := fun _ => fun
  | [d] => { results := [.lit (.bool true)], args := [d] }
  | _ => none }
def autoSendsRow : OpenClaim := { program := "ytjgndagejogfnaa", sum := "72e3e2112d63e59aa5f7f97a691b7cf0fb40ac71b32d9a3a4f32b8d4d32adf42", func := "tether/tetherlaw10.AutoSends", spec := "autoSends", apart := false }
def AutoSendsSaid : Prop := autoSendsRow.holds Try.pinned (OpenSpec.ofChange autoSendsSpec)

/-- ITS FALSE NEIGHBOUR: 'it returns false'. Refute it at one input. -/
def autoSendsWrong : ChangeSpec := { name := "autoSends", fn := fun _ => fun
  | [d] => { results := [.lit (.bool false)], args := [d] }
  | _ => none }
def AutoSendsWrongFalsely : Prop := autoSendsRow.holds Try.pinned (OpenSpec.ofChange autoSendsWrong)

/-- 'tetherlaw10.AutoEnds': WHATEVER THE INPUT: true; the input reads as it did. -/
def autoEndsSpec : ChangeSpec := { name := "autoEnds", fn := fun _ => fun
  | [d1, d2, d3] => { results := [.lit (.bool true)], args := [d1, d2, d3] }
  | _ => none }
def autoEndsRow : OpenClaim := { program := "ytjgndagejogfnaa", sum := "72e3e2112d63e59aa5f7f97a691b7cf0fb40ac71b32d9a3a4f32b8d4d32adf42", func := "tether/tetherlaw10.AutoEnds", spec := "autoEnds", apart := false }
def AutoEndsSaid : Prop := autoEndsRow.holds Try.pinned (OpenSpec.ofChange autoEndsSpec)

/-- ITS FALSE NEIGHBOUR: 'it returns false'. Refute it at one input. -/
def autoEndsWrong : ChangeSpec := { name := "autoEnds", fn := fun _ => fun
  | [d1, d2, d3] => { results := [.lit (.bool false)], args := [d1, d2, d3] }
  | _ => none }
def AutoEndsWrongFalsely : Prop := autoEndsRow.holds Try.pinned (OpenSpec.ofChange autoEndsWrong)

/-- 'tetherlaw10.AutoAgree': WHATEVER THE INPUT: true; the input reads as it did. -/
def autoAgreeSpec : ChangeSpec := { name := "autoAgree", fn := fun _ => fun
  | [d1, d2, d3] => { results := [.lit (.bool true)], args := [d1, d2, d3] }
  | _ => none }
def autoAgreeRow : OpenClaim := { program := "ytjgndagejogfnaa", sum := "72e3e2112d63e59aa5f7f97a691b7cf0fb40ac71b32d9a3a4f32b8d4d32adf42", func := "tether/tetherlaw10.AutoAgree", spec := "autoAgree", apart := false }
def AutoAgreeSaid : Prop := autoAgreeRow.holds Try.pinned (OpenSpec.ofChange autoAgreeSpec)

/-- ITS FALSE NEIGHBOUR: 'it returns false'. Refute it at one input. -/
def autoAgreeWrong : ChangeSpec := { name := "autoAgree", fn := fun _ => fun
  | [d1, d2, d3] => { results := [.lit (.bool false)], args := [d1, d2, d3] }
  | _ => none }
def AutoAgreeWrongFalsely : Prop := autoAgreeRow.holds Try.pinned (OpenSpec.ofChange autoAgreeWrong)

/-- 'tetherlaw10.AutoPlays': WHATEVER THE INPUT: true; the input reads as it did. -/
def autoPlaysSpec : ChangeSpec := { name := "autoPlays", fn := fun _ => fun
  | [d1, d2, d3, d4] => { results := [.lit (.bool true)], args := [d1, d2, d3, d4] }
  | _ => none }
def autoPlaysRow : OpenClaim := { program := "ytjgndagejogfnaa", sum := "72e3e2112d63e59aa5f7f97a691b7cf0fb40ac71b32d9a3a4f32b8d4d32adf42", func := "tether/tetherlaw10.AutoPlays", spec := "autoPlays", apart := false }
def AutoPlaysSaid : Prop := autoPlaysRow.holds Try.pinned (OpenSpec.ofChange autoPlaysSpec)

/-- ITS FALSE NEIGHBOUR: 'it returns false'. Refute it at one input. -/
def autoPlaysWrong : ChangeSpec := { name := "autoPlays", fn := fun _ => fun
  | [d1, d2, d3, d4] => { results := [.lit (.bool false)], args := [d1, d2, d3, d4] }
  | _ => none }
def AutoPlaysWrongFalsely : Prop := autoPlaysRow.holds Try.pinned (OpenSpec.ofChange autoPlaysWrong)

/-- 'tetherlaw10.AutoNil': WHATEVER THE INPUT: true; the input reads as it did. -/
def autoNilSpec : ChangeSpec := { name := "autoNil", fn := fun _ => fun
  | [d] => { results := [.lit (.bool true)], args := [d] }
  | _ => none }
def autoNilRow : OpenClaim := { program := "ytjgndagejogfnaa", sum := "72e3e2112d63e59aa5f7f97a691b7cf0fb40ac71b32d9a3a4f32b8d4d32adf42", func := "tether/tetherlaw10.AutoNil", spec := "autoNil", apart := false }
def AutoNilSaid : Prop := autoNilRow.holds Try.pinned (OpenSpec.ofChange autoNilSpec)

/-- ITS FALSE NEIGHBOUR: 'it returns false'. Refute it at one input. -/
def autoNilWrong : ChangeSpec := { name := "autoNil", fn := fun _ => fun
  | [d] => { results := [.lit (.bool false)], args := [d] }
  | _ => none }
def AutoNilWrongFalsely : Prop := autoNilRow.holds Try.pinned (OpenSpec.ofChange autoNilWrong)

/-- 'tetherlaw10.AutoMay': WHATEVER THE INPUT: true; the input reads as it did. -/
def autoMaySpec : ChangeSpec := { name := "autoMay", fn := fun _ => fun
  | [d1, d2, d3] => { results := [.lit (.bool true)], args := [d1, d2, d3] }
  | _ => none }
def autoMayRow : OpenClaim := { program := "ytjgndagejogfnaa", sum := "72e3e2112d63e59aa5f7f97a691b7cf0fb40ac71b32d9a3a4f32b8d4d32adf42", func := "tether/tetherlaw10.AutoMay", spec := "autoMay", apart := false }
def AutoMaySaid : Prop := autoMayRow.holds Try.pinned (OpenSpec.ofChange autoMaySpec)

/-- ITS FALSE NEIGHBOUR: 'it returns false'. Refute it at one input. -/
def autoMayWrong : ChangeSpec := { name := "autoMay", fn := fun _ => fun
  | [d1, d2, d3] => { results := [.lit (.bool false)], args := [d1, d2, d3] }
  | _ => none }
def AutoMayWrongFalsely : Prop := autoMayRow.holds Try.pinned (OpenSpec.ofChange autoMayWrong)

/- THE SECOND FORM. 'bulk': how many values and letters a reading holds, each counted each time it is reached (what is shared counts as often as it is met; a slice's spare places count too). A statement '..UptoSaid' is the law's where the arguments, and the package variables that the reading takes, are together of bulk at most 1048576: NARROWER than '..Said'. Prove '..Said' where nothing that the law and all that it calls make is longer than what came in: it says more and counts as full. Else prove '..UptoSaid'. A law counts once. -/
mutual
def uptoBulk {H : Type} : DataW H → Nat
  | .lit (.string bytes) => bytes.length + 1
  | .lit _ => 1
  | .nil => 1
  | .ptr d => uptoBulk d + 1
  | .slice elems spare => uptoBulkAll elems + uptoBulkAll spare + 1
  | .agg parts => uptoBulkAll parts + 1
  | .iface _ d => uptoBulk d + 1
  | .map entries => uptoBulkEntries entries + 1
  | .held _ => 1
def uptoBulkAll {H : Type} : List (DataW H) → Nat
  | [] => 0
  | d :: r => uptoBulk d + uptoBulkAll r
def uptoBulkEntries {H : Type} : List (Lit × DataW H) → Nat
  | [] => 0
  | x :: r => uptoBulkEntry x + uptoBulkEntries r
def uptoBulkEntry {H : Type} : Lit × DataW H → Nat
  | (.string bytes, d) => bytes.length + uptoBulk d + 1
  | (_, d) => uptoBulk d + 1
 end
def uptoSmall : (H : Type) → List (DataW H) → Bool := fun _ ds => decide (uptoBulkAll ds ≤ 1048576)
def OpenSpec.upto (s : _root_.Go.ChangeSpec) : _root_.Go.OpenSpec := { _root_.Go.OpenSpec.ofChange s with cond := some uptoSmall }

/-- 'tetherlaw10.AutoWhole', WHERE WHAT IT READS IS OF BULK AT MOST 1048576: true; the input reads as it did. -/
def autoWholeUptoRow : OpenClaim := { program := "ytjgndagejogfnaa", sum := "72e3e2112d63e59aa5f7f97a691b7cf0fb40ac71b32d9a3a4f32b8d4d32adf42", func := "tether/tetherlaw10.AutoWhole", spec := "autoWhole", apart := false, narrowed := true }
def AutoWholeUptoSaid : Prop := autoWholeUptoRow.holds Try.pinned (OpenSpec.upto autoWholeSpec)

/-- 'tetherlaw10.AutoRuns', WHERE WHAT IT READS IS OF BULK AT MOST 1048576: true; the input reads as it did. -/
def autoRunsUptoRow : OpenClaim := { program := "ytjgndagejogfnaa", sum := "72e3e2112d63e59aa5f7f97a691b7cf0fb40ac71b32d9a3a4f32b8d4d32adf42", func := "tether/tetherlaw10.AutoRuns", spec := "autoRuns", apart := false, narrowed := true }
def AutoRunsUptoSaid : Prop := autoRunsUptoRow.holds Try.pinned (OpenSpec.upto autoRunsSpec)

/-- 'tetherlaw10.AutoTable', WHERE WHAT IT READS IS OF BULK AT MOST 1048576: true; the input reads as it did. -/
def autoTableUptoRow : OpenClaim := { program := "ytjgndagejogfnaa", sum := "72e3e2112d63e59aa5f7f97a691b7cf0fb40ac71b32d9a3a4f32b8d4d32adf42", func := "tether/tetherlaw10.AutoTable", spec := "autoTable", apart := false, narrowed := true }
def AutoTableUptoSaid : Prop := autoTableUptoRow.holds Try.pinned (OpenSpec.upto autoTableSpec)

/-- 'tetherlaw10.AutoSends', WHERE WHAT IT READS IS OF BULK AT MOST 1048576: true; the input reads as it did. -/
def autoSendsUptoRow : OpenClaim := { program := "ytjgndagejogfnaa", sum := "72e3e2112d63e59aa5f7f97a691b7cf0fb40ac71b32d9a3a4f32b8d4d32adf42", func := "tether/tetherlaw10.AutoSends", spec := "autoSends", apart := false, narrowed := true }
def AutoSendsUptoSaid : Prop := autoSendsUptoRow.holds Try.pinned (OpenSpec.upto autoSendsSpec)

/-- 'tetherlaw10.AutoEnds', WHERE WHAT IT READS IS OF BULK AT MOST 1048576: true; the input reads as it did. -/
def autoEndsUptoRow : OpenClaim := { program := "ytjgndagejogfnaa", sum := "72e3e2112d63e59aa5f7f97a691b7cf0fb40ac71b32d9a3a4f32b8d4d32adf42", func := "tether/tetherlaw10.AutoEnds", spec := "autoEnds", apart := false, narrowed := true }
def AutoEndsUptoSaid : Prop := autoEndsUptoRow.holds Try.pinned (OpenSpec.upto autoEndsSpec)

/-- 'tetherlaw10.AutoAgree', WHERE WHAT IT READS IS OF BULK AT MOST 1048576: true; the input reads as it did. -/
def autoAgreeUptoRow : OpenClaim := { program := "ytjgndagejogfnaa", sum := "72e3e2112d63e59aa5f7f97a691b7cf0fb40ac71b32d9a3a4f32b8d4d32adf42", func := "tether/tetherlaw10.AutoAgree", spec := "autoAgree", apart := false, narrowed := true }
def AutoAgreeUptoSaid : Prop := autoAgreeUptoRow.holds Try.pinned (OpenSpec.upto autoAgreeSpec)

/-- 'tetherlaw10.AutoPlays', WHERE WHAT IT READS IS OF BULK AT MOST 1048576: true; the input reads as it did. -/
def autoPlaysUptoRow : OpenClaim := { program := "ytjgndagejogfnaa", sum := "72e3e2112d63e59aa5f7f97a691b7cf0fb40ac71b32d9a3a4f32b8d4d32adf42", func := "tether/tetherlaw10.AutoPlays", spec := "autoPlays", apart := false, narrowed := true }
def AutoPlaysUptoSaid : Prop := autoPlaysUptoRow.holds Try.pinned (OpenSpec.upto autoPlaysSpec)

/-- 'tetherlaw10.AutoNil', WHERE WHAT IT READS IS OF BULK AT MOST 1048576: true; the input reads as it did. -/
def autoNilUptoRow : OpenClaim := { program := "ytjgndagejogfnaa", sum := "72e3e2112d63e59aa5f7f97a691b7cf0fb40ac71b32d9a3a4f32b8d4d32adf42", func := "tether/tetherlaw10.AutoNil", spec := "autoNil", apart := false, narrowed := true }
def AutoNilUptoSaid : Prop := autoNilUptoRow.holds Try.pinned (OpenSpec.upto autoNilSpec)

/-- 'tetherlaw10.AutoMay', WHERE WHAT IT READS IS OF BULK AT MOST 1048576: true; the input reads as it did. -/
def autoMayUptoRow : OpenClaim := { program := "ytjgndagejogfnaa", sum := "72e3e2112d63e59aa5f7f97a691b7cf0fb40ac71b32d9a3a4f32b8d4d32adf42", func := "tether/tetherlaw10.AutoMay", spec := "autoMay", apart := false, narrowed := true }
def AutoMayUptoSaid : Prop := autoMayUptoRow.holds Try.pinned (OpenSpec.upto autoMaySpec)

end Rows
end Go.Proofs.Ytjgndagejogfnaa
