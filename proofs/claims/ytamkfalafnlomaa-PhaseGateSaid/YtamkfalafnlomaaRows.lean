/-
  No cell of these rows narrows 'for every input' (looked for: loops, veiled, ifaces, maps, wideKeys, modest, calm, conditions, laid).
  DERIVED. THE GIVEN ROWS OF THIS SEAT. 6 by the template 'for every input the law returns true; each argument reads behind the call as it read before'; 0 by the template 'total and deterministic' (their statements: YtamkfalafnlomaaTotals.lean).
  GIVEN WITH THE SEED: the statements are not yours to turn. If you find one false, say at which input.
  Laid BY PROGRAM, IN A SANDBOX (cutbox-rows.mjs): the forced cells as the released guide's own fill.sh prints them over the translation 7b38e24cf9e8b622… (all of the seat's roots in one cut). By AI agents, Wed Nov 11 2026. No macro, syntax, notation, axiom, sorry.
-/
import Derived.Test.YtamkfalafnlomaaChecked
import GoSem.Claim
import GoSem.ClaimJoined
import GoSem.ClaimMapViews
import Derived.JoinedTies
import Derived.KernelRfl
namespace Go.Proofs.Ytamkfalafnlomaa
/- THE CELL 'sum', in the pinned program and in every row, IS THE sha256 OF THE DUMP (.gsa) THAT YtamkfalafnlomaaProg.lean LOADS. Nothing in Lean hashes anything: it is a label: what it is worth is what the hold of that sum in a sandbox is worth. -/
noncomputable def Try.pinned : Pinned := { name := "ytamkfalafnlomaa", sum := "7b38e24cf9e8b6222fb7754ed1114b1682d277950f20413675c2fa708ca708b6", checked := Try.checked }
namespace Rows
def none {H : Type} : Left H := { results := [], args := [] }

/-- 'tetherlaw26.PhaseWhole': WHATEVER THE INPUT: true; the input reads as it did. -/
def phaseWholeSpec : ChangeSpec := { name := "phaseWhole", fn := fun _ => fun
  | [d] => { results := [.lit (.bool true)], args := [d] }
  | _ => none }
def phaseWholeRow : OpenClaim := { program := "ytamkfalafnlomaa", sum := "7b38e24cf9e8b6222fb7754ed1114b1682d277950f20413675c2fa708ca708b6", func := "tether/tetherlaw26.PhaseWhole", spec := "phaseWhole", apart := false }
def PhaseWholeSaid : Prop := phaseWholeRow.holds Try.pinned (OpenSpec.ofChange phaseWholeSpec)

/-- ITS FALSE NEIGHBOUR: 'it returns false'. Refute it at one input. -/
def phaseWholeWrong : ChangeSpec := { name := "phaseWhole", fn := fun _ => fun
  | [d] => { results := [.lit (.bool false)], args := [d] }
  | _ => none }
def PhaseWholeWrongFalsely : Prop := phaseWholeRow.holds Try.pinned (OpenSpec.ofChange phaseWholeWrong)

/-- 'tetherlaw26.PhaseGate': WHATEVER THE INPUT: true; the input reads as it did. -/
def phaseGateSpec : ChangeSpec := { name := "phaseGate", fn := fun _ => fun
  | [d1, d2] => { results := [.lit (.bool true)], args := [d1, d2] }
  | _ => none }
def phaseGateRow : OpenClaim := { program := "ytamkfalafnlomaa", sum := "7b38e24cf9e8b6222fb7754ed1114b1682d277950f20413675c2fa708ca708b6", func := "tether/tetherlaw26.PhaseGate", spec := "phaseGate", apart := false }
def PhaseGateSaid : Prop := phaseGateRow.holds Try.pinned (OpenSpec.ofChange phaseGateSpec)

/-- ITS FALSE NEIGHBOUR: 'it returns false'. Refute it at one input. -/
def phaseGateWrong : ChangeSpec := { name := "phaseGate", fn := fun _ => fun
  | [d1, d2] => { results := [.lit (.bool false)], args := [d1, d2] }
  | _ => none }
def PhaseGateWrongFalsely : Prop := phaseGateRow.holds Try.pinned (OpenSpec.ofChange phaseGateWrong)

/-- 'tetherlaw26.PhaseTable': WHATEVER THE INPUT: true; the input reads as it did. -/
def phaseTableSpec : ChangeSpec := { name := "phaseTable", fn := fun _ => fun
  | [d1, d2, d3] => { results := [.lit (.bool true)], args := [d1, d2, d3] }
  | _ => none }
def phaseTableRow : OpenClaim := { program := "ytamkfalafnlomaa", sum := "7b38e24cf9e8b6222fb7754ed1114b1682d277950f20413675c2fa708ca708b6", func := "tether/tetherlaw26.PhaseTable", spec := "phaseTable", apart := false }
def PhaseTableSaid : Prop := phaseTableRow.holds Try.pinned (OpenSpec.ofChange phaseTableSpec)

/-- ITS FALSE NEIGHBOUR: 'it returns false'. Refute it at one input. -/
def phaseTableWrong : ChangeSpec := { name := "phaseTable", fn := fun _ => fun
  | [d1, d2, d3] => { results := [.lit (.bool false)], args := [d1, d2, d3] }
  | _ => none }
def PhaseTableWrongFalsely : Prop := phaseTableRow.holds Try.pinned (OpenSpec.ofChange phaseTableWrong)

/-- 'tetherlaw26.PhaseDown': WHATEVER THE INPUT: true; the input reads as it did. -/
def phaseDownSpec : ChangeSpec := { name := "phaseDown", fn := fun _ => fun
  | [d1, d2, d3] => { results := [.lit (.bool true)], args := [d1, d2, d3] }
  | _ => none }
def phaseDownRow : OpenClaim := { program := "ytamkfalafnlomaa", sum := "7b38e24cf9e8b6222fb7754ed1114b1682d277950f20413675c2fa708ca708b6", func := "tether/tetherlaw26.PhaseDown", spec := "phaseDown", apart := false }
def PhaseDownSaid : Prop := phaseDownRow.holds Try.pinned (OpenSpec.ofChange phaseDownSpec)

/-- ITS FALSE NEIGHBOUR: 'it returns false'. Refute it at one input. -/
def phaseDownWrong : ChangeSpec := { name := "phaseDown", fn := fun _ => fun
  | [d1, d2, d3] => { results := [.lit (.bool false)], args := [d1, d2, d3] }
  | _ => none }
def PhaseDownWrongFalsely : Prop := phaseDownRow.holds Try.pinned (OpenSpec.ofChange phaseDownWrong)

/-- 'tetherlaw26.PhasePlays': WHATEVER THE INPUT: true; the input reads as it did. -/
def phasePlaysSpec : ChangeSpec := { name := "phasePlays", fn := fun _ => fun
  | [d1, d2] => { results := [.lit (.bool true)], args := [d1, d2] }
  | _ => none }
def phasePlaysRow : OpenClaim := { program := "ytamkfalafnlomaa", sum := "7b38e24cf9e8b6222fb7754ed1114b1682d277950f20413675c2fa708ca708b6", func := "tether/tetherlaw26.PhasePlays", spec := "phasePlays", apart := false }
def PhasePlaysSaid : Prop := phasePlaysRow.holds Try.pinned (OpenSpec.ofChange phasePlaysSpec)

/-- ITS FALSE NEIGHBOUR: 'it returns false'. Refute it at one input. -/
def phasePlaysWrong : ChangeSpec := { name := "phasePlays", fn := fun _ => fun
  | [d1, d2] => { results := [.lit (.bool false)], args := [d1, d2] }
  | _ => none }
def PhasePlaysWrongFalsely : Prop := phasePlaysRow.holds Try.pinned (OpenSpec.ofChange phasePlaysWrong)

/-- 'tetherlaw26.PhaseNil': WHATEVER THE INPUT: true; the input reads as it did. -/
def phaseNilSpec : ChangeSpec := { name := "phaseNil", fn := fun _ => fun
  | [d1, d2, d3, d4] => { results := [.lit (.bool true)], args := [d1, d2, d3, d4] }
  | _ => none }
def phaseNilRow : OpenClaim := { program := "ytamkfalafnlomaa", sum := "7b38e24cf9e8b6222fb7754ed1114b1682d277950f20413675c2fa708ca708b6", func := "tether/tetherlaw26.PhaseNil", spec := "phaseNil", apart := false }
def PhaseNilSaid : Prop := phaseNilRow.holds Try.pinned (OpenSpec.ofChange phaseNilSpec)

/-- ITS FALSE NEIGHBOUR: 'it returns false'. Refute it at one input. -/
def phaseNilWrong : ChangeSpec := { name := "phaseNil", fn := fun _ => fun
  | [d1, d2, d3, d4] => { results := [.lit (.bool false)], args := [d1, d2, d3, d4] }
  | _ => none }
def PhaseNilWrongFalsely : Prop := phaseNilRow.holds Try.pinned (OpenSpec.ofChange phaseNilWrong)

/- THE SECOND FORM. 'bulk': how many values and letters a reading holds, each counted each time it is reached (what is shared counts as often as it is met; a slice's spare places count too). A statement '..UptoSaid' is the law's where the arguments, and the package variables that the reading takes, are together of bulk at most 1048576: NARROWER than '..Said'. Prove '..Said' where nothing that the law and all that it calls make is longer than what came in: it says more and counts as full. Else prove '..UptoSaid'. A law counts once. -/
mutual
def uptoBulk {H : Type} : DataW H → Nat
  | .lit (.string bytes) => bytes.length + 1
  | .lit _ => 1
  | .nil => 1
  | .ptr d => uptoBulk d + 1
  | .slice elems spare => uptoBulkAll elems + uptoBulkAll spare + 1
  | .agg parts => uptoBulkAll parts + 1
  | .iface _ d => uptoBulk d + 1
  | .map entries => uptoBulkEntries entries + 1
  | .held _ => 1
def uptoBulkAll {H : Type} : List (DataW H) → Nat
  | [] => 0
  | d :: r => uptoBulk d + uptoBulkAll r
def uptoBulkEntries {H : Type} : List (Lit × DataW H) → Nat
  | [] => 0
  | x :: r => uptoBulkEntry x + uptoBulkEntries r
def uptoBulkEntry {H : Type} : Lit × DataW H → Nat
  | (.string bytes, d) => bytes.length + uptoBulk d + 1
  | (_, d) => uptoBulk d + 1
 end
def uptoSmall : (H : Type) → List (DataW H) → Bool := fun _ ds => decide (uptoBulkAll ds ≤ 1048576)
def OpenSpec.upto (s : _root_.Go.ChangeSpec) : _root_.Go.OpenSpec := { _root_.Go.OpenSpec.ofChange s with cond := some uptoSmall }

/-- 'tetherlaw26.PhaseWhole', WHERE WHAT IT READS IS OF BULK AT MOST 1048576: true; the input reads as it did. -/
def phaseWholeUptoRow : OpenClaim := { program := "ytamkfalafnlomaa", sum := "7b38e24cf9e8b6222fb7754ed1114b1682d277950f20413675c2fa708ca708b6", func := "tether/tetherlaw26.PhaseWhole", spec := "phaseWhole", apart := false, narrowed := true }
def PhaseWholeUptoSaid : Prop := phaseWholeUptoRow.holds Try.pinned (OpenSpec.upto phaseWholeSpec)

/-- 'tetherlaw26.PhaseGate', WHERE WHAT IT READS IS OF BULK AT MOST 1048576: true; the input reads as it did. -/
def phaseGateUptoRow : OpenClaim := { program := "ytamkfalafnlomaa", sum := "7b38e24cf9e8b6222fb7754ed1114b1682d277950f20413675c2fa708ca708b6", func := "tether/tetherlaw26.PhaseGate", spec := "phaseGate", apart := false, narrowed := true }
def PhaseGateUptoSaid : Prop := phaseGateUptoRow.holds Try.pinned (OpenSpec.upto phaseGateSpec)

/-- 'tetherlaw26.PhaseTable', WHERE WHAT IT READS IS OF BULK AT MOST 1048576: true; the input reads as it did. -/
def phaseTableUptoRow : OpenClaim := { program := "ytamkfalafnlomaa", sum := "7b38e24cf9e8b6222fb7754ed1114b1682d277950f20413675c2fa708ca708b6", func := "tether/tetherlaw26.PhaseTable", spec := "phaseTable", apart := false, narrowed := true }
def PhaseTableUptoSaid : Prop := phaseTableUptoRow.holds Try.pinned (OpenSpec.upto phaseTableSpec)

/-- 'tetherlaw26.PhaseDown', WHERE WHAT IT READS IS OF BULK AT MOST 1048576: true; the input reads as it did. -/
def phaseDownUptoRow : OpenClaim := { program := "ytamkfalafnlomaa", sum := "7b38e24cf9e8b6222fb7754ed1114b1682d277950f20413675c2fa708ca708b6", func := "tether/tetherlaw26.PhaseDown", spec := "phaseDown", apart := false, narrowed := true }
def PhaseDownUptoSaid : Prop := phaseDownUptoRow.holds Try.pinned (OpenSpec.upto phaseDownSpec)

/-- 'tetherlaw26.PhasePlays', WHERE WHAT IT READS IS OF BULK AT MOST 1048576: true; the input reads as it did. -/
def phasePlaysUptoRow : OpenClaim := { program := "ytamkfalafnlomaa", sum := "7b38e24cf9e8b6222fb7754ed1114b1682d277950f20413675c2fa708ca708b6", func := "tether/tetherlaw26.PhasePlays", spec := "phasePlays", apart := false, narrowed := true }
def PhasePlaysUptoSaid : Prop := phasePlaysUptoRow.holds Try.pinned (OpenSpec.upto phasePlaysSpec)

/-- 'tetherlaw26.PhaseNil', WHERE WHAT IT READS IS OF BULK AT MOST 1048576: true; the input reads as it did. -/
def phaseNilUptoRow : OpenClaim := { program := "ytamkfalafnlomaa", sum := "7b38e24cf9e8b6222fb7754ed1114b1682d277950f20413675c2fa708ca708b6", func := "tether/tetherlaw26.PhaseNil", spec := "phaseNil", apart := false, narrowed := true }
def PhaseNilUptoSaid : Prop := phaseNilUptoRow.holds Try.pinned (OpenSpec.upto phaseNilSpec)

end Rows
end Go.Proofs.Ytamkfalafnlomaa
