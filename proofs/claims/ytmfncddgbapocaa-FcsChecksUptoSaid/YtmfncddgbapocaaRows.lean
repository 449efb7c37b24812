/-
  No cell of these rows narrows 'for every input' (looked for: loops, veiled, ifaces, maps, wideKeys, modest, calm, conditions, laid).
  DERIVED. THE GIVEN ROWS OF THIS SEAT. 9 by the template 'for every input the law returns true; each argument reads behind the call as it read before'; 0 by the template 'total and deterministic' (their statements: YtmfncddgbapocaaTotals.lean).
  GIVEN WITH THE SEED: the statements are not yours to turn. If you find one false, say at which input.
  Laid BY PROGRAM, IN A SANDBOX (cutbox-rows.mjs): the forced cells as the released guide's own fill.sh prints them over the translation 348ac1c240a138ae… (all of the seat's roots in one cut). By AI agents, Wed Nov 11 2026. No macro, syntax, notation, axiom, sorry.
-/
import Derived.Test.YtmfncddgbapocaaChecked
import GoSem.Claim
import GoSem.ClaimJoined
import GoSem.ClaimMapViews
import Derived.JoinedTies
import Derived.KernelRfl
namespace Go.Proofs.Ytmfncddgbapocaa
/- THE CELL 'sum', in the pinned program and in every row, IS THE sha256 OF THE DUMP (.gsa) THAT YtmfncddgbapocaaProg.lean LOADS. Nothing in Lean hashes anything: it is a label: what it is worth is what the hold of that sum in a sandbox is worth. -/
noncomputable def Try.pinned : Pinned := { name := "ytmfncddgbapocaa", sum := "348ac1c240a138ae5ae2dc17fbc51743cd7dece19f694224e11038f08d530f84", checked := Try.checked }
namespace Rows
def none {H : Type} : Left H := { results := [], args := [] }

/-- 'tetherlaw02.FcsBursts': WHATEVER THE INPUT: true; the input reads as it did. -/
def fcsBurstsSpec : ChangeSpec := { name := "fcsBursts", fn := fun _ => fun
  | [d1, d2, d3] => { results := [.lit (.bool true)], args := [d1, d2, d3] }
  | _ => none }
def fcsBurstsRow : OpenClaim := { program := "ytmfncddgbapocaa", sum := "348ac1c240a138ae5ae2dc17fbc51743cd7dece19f694224e11038f08d530f84", func := "tether/tetherlaw02.FcsBursts", spec := "fcsBursts", unfollowed := true, recurses := true, apart := false }
def FcsBurstsSaid : Prop := fcsBurstsRow.holds Try.pinned (OpenSpec.ofChange fcsBurstsSpec)

/-- ITS FALSE NEIGHBOUR: 'it returns false'. Refute it at one input. -/
def fcsBurstsWrong : ChangeSpec := { name := "fcsBursts", fn := fun _ => fun
  | [d1, d2, d3] => { results := [.lit (.bool false)], args := [d1, d2, d3] }
  | _ => none }
def FcsBurstsWrongFalsely : Prop := fcsBurstsRow.holds Try.pinned (OpenSpec.ofChange fcsBurstsWrong)

/-- 'tetherlaw02.FcsLinear': WHATEVER THE INPUT: true; the input reads as it did. -/
def fcsLinearSpec : ChangeSpec := { name := "fcsLinear", fn := fun _ => fun
  | [d1, d2, d3, d4, d5, d6] => { results := [.lit (.bool true)], args := [d1, d2, d3, d4, d5, d6] }
  | _ => none }
def fcsLinearRow : OpenClaim := { program := "ytmfncddgbapocaa", sum := "348ac1c240a138ae5ae2dc17fbc51743cd7dece19f694224e11038f08d530f84", func := "tether/tetherlaw02.FcsLinear", spec := "fcsLinear", unfollowed := true, recurses := true, apart := false }
def FcsLinearSaid : Prop := fcsLinearRow.holds Try.pinned (OpenSpec.ofChange fcsLinearSpec)

/-- ITS FALSE NEIGHBOUR: 'it returns false'. Refute it at one input. -/
def fcsLinearWrong : ChangeSpec := { name := "fcsLinear", fn := fun _ => fun
  | [d1, d2, d3, d4, d5, d6] => { results := [.lit (.bool false)], args := [d1, d2, d3, d4, d5, d6] }
  | _ => none }
def FcsLinearWrongFalsely : Prop := fcsLinearRow.holds Try.pinned (OpenSpec.ofChange fcsLinearWrong)

/-- 'tetherlaw02.FcsCuts': WHATEVER THE INPUT: true; the input reads as it did. -/
def fcsCutsSpec : ChangeSpec := { name := "fcsCuts", fn := fun _ => fun
  | [d] => { results := [.lit (.bool true)], args := [d] }
  | _ => none }
def fcsCutsRow : OpenClaim := { program := "ytmfncddgbapocaa", sum := "348ac1c240a138ae5ae2dc17fbc51743cd7dece19f694224e11038f08d530f84", func := "tether/tetherlaw02.FcsCuts", spec := "fcsCuts", unfollowed := true, recurses := true, apart := false }
def FcsCutsSaid : Prop := fcsCutsRow.holds Try.pinned (OpenSpec.ofChange fcsCutsSpec)

/-- ITS FALSE NEIGHBOUR: 'it returns false'. Refute it at one input. -/
def fcsCutsWrong : ChangeSpec := { name := "fcsCuts", fn := fun _ => fun
  | [d] => { results := [.lit (.bool false)], args := [d] }
  | _ => none }
def FcsCutsWrongFalsely : Prop := fcsCutsRow.holds Try.pinned (OpenSpec.ofChange fcsCutsWrong)

/-- 'tetherlaw02.FcsJoins': WHATEVER THE INPUT: true; the input reads as it did. -/
def fcsJoinsSpec : ChangeSpec := { name := "fcsJoins", fn := fun _ => fun
  | [d1, d2, d3, d4, d5, d6] => { results := [.lit (.bool true)], args := [d1, d2, d3, d4, d5, d6] }
  | _ => none }
def fcsJoinsRow : OpenClaim := { program := "ytmfncddgbapocaa", sum := "348ac1c240a138ae5ae2dc17fbc51743cd7dece19f694224e11038f08d530f84", func := "tether/tetherlaw02.FcsJoins", spec := "fcsJoins", unfollowed := true, recurses := true, apart := false }
def FcsJoinsSaid : Prop := fcsJoinsRow.holds Try.pinned (OpenSpec.ofChange fcsJoinsSpec)

/-- ITS FALSE NEIGHBOUR: 'it returns false'. Refute it at one input. -/
def fcsJoinsWrong : ChangeSpec := { name := "fcsJoins", fn := fun _ => fun
  | [d1, d2, d3, d4, d5, d6] => { results := [.lit (.bool false)], args := [d1, d2, d3, d4, d5, d6] }
  | _ => none }
def FcsJoinsWrongFalsely : Prop := fcsJoinsRow.holds Try.pinned (OpenSpec.ofChange fcsJoinsWrong)

/-- 'tetherlaw02.FcsFar': WHATEVER THE INPUT: true; the input reads as it did. -/
def fcsFarSpec : ChangeSpec := { name := "fcsFar", fn := fun _ => fun
  | [d1, d2, d3] => { results := [.lit (.bool true)], args := [d1, d2, d3] }
  | _ => none }
def fcsFarRow : OpenClaim := { program := "ytmfncddgbapocaa", sum := "348ac1c240a138ae5ae2dc17fbc51743cd7dece19f694224e11038f08d530f84", func := "tether/tetherlaw02.FcsFar", spec := "fcsFar", unfollowed := true, recurses := true, apart := false }
def FcsFarSaid : Prop := fcsFarRow.holds Try.pinned (OpenSpec.ofChange fcsFarSpec)

/-- ITS FALSE NEIGHBOUR: 'it returns false'. Refute it at one input. -/
def fcsFarWrong : ChangeSpec := { name := "fcsFar", fn := fun _ => fun
  | [d1, d2, d3] => { results := [.lit (.bool false)], args := [d1, d2, d3] }
  | _ => none }
def FcsFarWrongFalsely : Prop := fcsFarRow.holds Try.pinned (OpenSpec.ofChange fcsFarWrong)

/-- 'tetherlaw02.FcsSums': WHATEVER THE INPUT: true; the input reads as it did. -/
def fcsSumsSpec : ChangeSpec := { name := "fcsSums", fn := fun _ => fun
  | [d1, d2, d3] => { results := [.lit (.bool true)], args := [d1, d2, d3] }
  | _ => none }
def fcsSumsRow : OpenClaim := { program := "ytmfncddgbapocaa", sum := "348ac1c240a138ae5ae2dc17fbc51743cd7dece19f694224e11038f08d530f84", func := "tether/tetherlaw02.FcsSums", spec := "fcsSums", unfollowed := true, recurses := true, apart := false }
def FcsSumsSaid : Prop := fcsSumsRow.holds Try.pinned (OpenSpec.ofChange fcsSumsSpec)

/-- ITS FALSE NEIGHBOUR: 'it returns false'. Refute it at one input. -/
def fcsSumsWrong : ChangeSpec := { name := "fcsSums", fn := fun _ => fun
  | [d1, d2, d3] => { results := [.lit (.bool false)], args := [d1, d2, d3] }
  | _ => none }
def FcsSumsWrongFalsely : Prop := fcsSumsRow.holds Try.pinned (OpenSpec.ofChange fcsSumsWrong)

/-- 'tetherlaw02.FcsGood': WHATEVER THE INPUT: true; the input reads as it did. -/
def fcsGoodSpec : ChangeSpec := { name := "fcsGood", fn := fun _ => fun
  | [d] => { results := [.lit (.bool true)], args := [d] }
  | _ => none }
def fcsGoodRow : OpenClaim := { program := "ytmfncddgbapocaa", sum := "348ac1c240a138ae5ae2dc17fbc51743cd7dece19f694224e11038f08d530f84", func := "tether/tetherlaw02.FcsGood", spec := "fcsGood", unfollowed := true, recurses := true, apart := false }
def FcsGoodSaid : Prop := fcsGoodRow.holds Try.pinned (OpenSpec.ofChange fcsGoodSpec)

/-- ITS FALSE NEIGHBOUR: 'it returns false'. Refute it at one input. -/
def fcsGoodWrong : ChangeSpec := { name := "fcsGood", fn := fun _ => fun
  | [d] => { results := [.lit (.bool false)], args := [d] }
  | _ => none }
def FcsGoodWrongFalsely : Prop := fcsGoodRow.holds Try.pinned (OpenSpec.ofChange fcsGoodWrong)

/-- 'tetherlaw02.FcsChecks': WHATEVER THE INPUT: true; the input reads as it did. -/
def fcsChecksSpec : ChangeSpec := { name := "fcsChecks", fn := fun _ => fun
  | [d1, d2] => { results := [.lit (.bool true)], args := [d1, d2] }
  | _ => none }
def fcsChecksRow : OpenClaim := { program := "ytmfncddgbapocaa", sum := "348ac1c240a138ae5ae2dc17fbc51743cd7dece19f694224e11038f08d530f84", func := "tether/tetherlaw02.FcsChecks", spec := "fcsChecks", unfollowed := true, recurses := true, apart := false }
def FcsChecksSaid : Prop := fcsChecksRow.holds Try.pinned (OpenSpec.ofChange fcsChecksSpec)

/-- ITS FALSE NEIGHBOUR: 'it returns false'. Refute it at one input. -/
def fcsChecksWrong : ChangeSpec := { name := "fcsChecks", fn := fun _ => fun
  | [d1, d2] => { results := [.lit (.bool false)], args := [d1, d2] }
  | _ => none }
def FcsChecksWrongFalsely : Prop := fcsChecksRow.holds Try.pinned (OpenSpec.ofChange fcsChecksWrong)

/-- 'tetherlaw02.FcsNil': WHATEVER THE INPUT: true; the input reads as it did. -/
def fcsNilSpec : ChangeSpec := { name := "fcsNil", fn := fun _ => fun
  | [d1, d2] => { results := [.lit (.bool true)], args := [d1, d2] }
  | _ => none }
def fcsNilRow : OpenClaim := { program := "ytmfncddgbapocaa", sum := "348ac1c240a138ae5ae2dc17fbc51743cd7dece19f694224e11038f08d530f84", func := "tether/tetherlaw02.FcsNil", spec := "fcsNil", unfollowed := true, recurses := true, apart := false }
def FcsNilSaid : Prop := fcsNilRow.holds Try.pinned (OpenSpec.ofChange fcsNilSpec)

/-- ITS FALSE NEIGHBOUR: 'it returns false'. Refute it at one input. -/
def fcsNilWrong : ChangeSpec := { name := "fcsNil", fn := fun _ => fun
  | [d1, d2] => { results := [.lit (.bool false)], args := [d1, d2] }
  | _ => none }
def FcsNilWrongFalsely : Prop := fcsNilRow.holds Try.pinned (OpenSpec.ofChange fcsNilWrong)

/- THE SECOND FORM. 'bulk': how many values and letters a reading holds, each counted each time it is reached (what is shared counts as often as it is met; a slice's spare places count too). A statement '..UptoSaid' is the law's where the arguments, and the package variables that the reading takes, are together of bulk at most 1048576: NARROWER than '..Said'. Prove '..Said' where nothing that the law and all that it calls make is longer than what came in: it says more and counts as full. Else prove '..UptoSaid'. A law counts once. -/
mutual
def uptoBulk {H : Type} : DataW H → Nat
  | .lit (.string bytes) => bytes.length + 1
  | .lit _ => 1
  | .nil => 1
  | .ptr d => uptoBulk d + 1
  | .slice elems spare => uptoBulkAll elems + uptoBulkAll spare + 1
  | .agg parts => uptoBulkAll parts + 1
  | .iface _ d => uptoBulk d + 1
  | .map entries => uptoBulkEntries entries + 1
  | .held _ => 1
def uptoBulkAll {H : Type} : List (DataW H) → Nat
  | [] => 0
  | d :: r => uptoBulk d + uptoBulkAll r
def uptoBulkEntries {H : Type} : List (Lit × DataW H) → Nat
  | [] => 0
  | x :: r => uptoBulkEntry x + uptoBulkEntries r
def uptoBulkEntry {H : Type} : Lit × DataW H → Nat
  | (.string bytes, d) => bytes.length + uptoBulk d + 1
  | (_, d) => uptoBulk d + 1
 end
def uptoSmall : (H : Type) → List (DataW H) → Bool := fun _ ds => decide (uptoBulkAll ds ≤ 1048576)
def OpenSpec.upto (s : _root_.Go.ChangeSpec) : _root_.Go.OpenSpec := { _root_.Go.OpenSpec.ofChange s with cond := some uptoSmall }

/-- 'tetherlaw02.FcsBursts', WHERE WHAT IT READS IS OF BULK AT MOST 1048576: true; the input reads as it did. -/
def fcsBurstsUptoRow : OpenClaim := { program := "ytmfncddgbapocaa", sum := "348ac1c240a138ae5ae2dc17fbc51743cd7dece19f694224e11038f08d530f84", func := "tether/tetherlaw02.FcsBursts", spec := "fcsBursts", unfollowed := true, recurses := true, apart := false, narrowed := true }
def FcsBurstsUptoSaid : Prop := fcsBurstsUptoRow.holds Try.pinned (OpenSpec.upto fcsBurstsSpec)

/-- 'tetherlaw02.FcsLinear', WHERE WHAT IT READS IS OF BULK AT MOST 1048576: true; the input reads as it did. -/
def fcsLinearUptoRow : OpenClaim := { program := "ytmfncddgbapocaa", sum := "348ac1c240a138ae5ae2dc17fbc51743cd7dece19f694224e11038f08d530f84", func := "tether/tetherlaw02.FcsLinear", spec := "fcsLinear", unfollowed := true, recurses := true, apart := false, narrowed := true }
def FcsLinearUptoSaid : Prop := fcsLinearUptoRow.holds Try.pinned (OpenSpec.upto fcsLinearSpec)

/-- 'tetherlaw02.FcsCuts', WHERE WHAT IT READS IS OF BULK AT MOST 1048576: true; the input reads as it did. -/
def fcsCutsUptoRow : OpenClaim := { program := "ytmfncddgbapocaa", sum := "348ac1c240a138ae5ae2dc17fbc51743cd7dece19f694224e11038f08d530f84", func := "tether/tetherlaw02.FcsCuts", spec := "fcsCuts", unfollowed := true, recurses := true, apart := false, narrowed := true }
def FcsCutsUptoSaid : Prop := fcsCutsUptoRow.holds Try.pinned (OpenSpec.upto fcsCutsSpec)

/-- 'tetherlaw02.FcsJoins', WHERE WHAT IT READS IS OF BULK AT MOST 1048576: true; the input reads as it did. -/
def fcsJoinsUptoRow : OpenClaim := { program := "ytmfncddgbapocaa", sum := "348ac1c240a138ae5ae2dc17fbc51743cd7dece19f694224e11038f08d530f84", func := "tether/tetherlaw02.FcsJoins", spec := "fcsJoins", unfollowed := true, recurses := true, apart := false, narrowed := true }
def FcsJoinsUptoSaid : Prop := fcsJoinsUptoRow.holds Try.pinned (OpenSpec.upto fcsJoinsSpec)

/-- 'tetherlaw02.FcsFar', WHERE WHAT IT READS IS OF BULK AT MOST 1048576: true; the input reads as it did. -/
def fcsFarUptoRow : OpenClaim := { program := "ytmfncddgbapocaa", sum := "348ac1c240a138ae5ae2dc17fbc51743cd7dece19f694224e11038f08d530f84", func := "tether/tetherlaw02.FcsFar", spec := "fcsFar", unfollowed := true, recurses := true, apart := false, narrowed := true }
def FcsFarUptoSaid : Prop := fcsFarUptoRow.holds Try.pinned (OpenSpec.upto fcsFarSpec)

/-- 'tetherlaw02.FcsSums', WHERE WHAT IT READS IS OF BULK AT MOST 1048576: true; the input reads as it did. -/
def fcsSumsUptoRow : OpenClaim := { program := "ytmfncddgbapocaa", sum := "348ac1c240a138ae5ae2dc17fbc51743cd7dece19f694224e11038f08d530f84", func := "tether/tetherlaw02.FcsSums", spec := "fcsSums", unfollowed := true, recurses := true, apart := false, narrowed := true }
def FcsSumsUptoSaid : Prop := fcsSumsUptoRow.holds Try.pinned (OpenSpec.upto fcsSumsSpec)

/-- 'tetherlaw02.FcsGood', WHERE WHAT IT READS IS OF BULK AT MOST 1048576: true; the input reads as it did. -/
def fcsGoodUptoRow : OpenClaim := { program := "ytmfncddgbapocaa", sum := "348ac1c240a138ae5ae2dc17fbc51743cd7dece19f694224e11038f08d530f84", func := "tether/tetherlaw02.FcsGood", spec := "fcsGood", unfollowed := true, recurses := true, apart := false, narrowed := true }
def FcsGoodUptoSaid : Prop := fcsGoodUptoRow.holds Try.pinned (OpenSpec.upto fcsGoodSpec)

/-- 'tetherlaw02.FcsChecks', WHERE WHAT IT READS IS OF BULK AT MOST 1048576: true; the input reads as it did. -/
def fcsChecksUptoRow : OpenClaim := { program := "ytmfncddgbapocaa", sum := "348ac1c240a138ae5ae2dc17fbc51743cd7dece19f694224e11038f08d530f84", func := "tether/tetherlaw02.FcsChecks", spec := "fcsChecks", unfollowed := true, recurses := true, apart := false, narrowed := true }
def FcsChecksUptoSaid : Prop := fcsChecksUptoRow.holds Try.pinned (OpenSpec.upto fcsChecksSpec)

/-- 'tetherlaw02.FcsNil', WHERE WHAT IT READS IS OF BULK AT MOST 1048576: true; the input reads as it did. -/
def fcsNilUptoRow : OpenClaim := { program := "ytmfncddgbapocaa", sum := "348ac1c240a138ae5ae2dc17fbc51743cd7dece19f694224e11038f08d530f84", func := "tether/tetherlaw02.FcsNil", spec := "fcsNil", unfollowed := true, recurses := true, apart := false, narrowed := true }
def FcsNilUptoSaid : Prop := fcsNilUptoRow.holds Try.pinned (OpenSpec.upto fcsNilSpec)

end Rows
end Go.Proofs.Ytmfncddgbapocaa
