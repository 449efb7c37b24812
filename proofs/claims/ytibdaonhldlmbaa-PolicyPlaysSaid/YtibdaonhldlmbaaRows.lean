/-
  No cell of these rows narrows 'for every input' (looked for: loops, veiled, ifaces, maps, wideKeys, modest, calm, conditions, laid).
  DERIVED. THE GIVEN ROWS OF THIS SEAT. 5 by the template 'for every input the law returns true; each argument reads behind the call as it read before'; 0 by the template 'total and deterministic' (their statements: YtibdaonhldlmbaaTotals.lean).
  GIVEN WITH THE SEED: the statements are not yours to turn. If you find one false, say at which input.
  Laid BY PROGRAM, IN A SANDBOX (cutbox-rows.mjs): the forced cells as the released guide's own fill.sh prints them over the translation d49a87529864909c… (all of the seat's roots in one cut). By AI agents, Wed Nov 11 2026. No macro, syntax, notation, axiom, sorry.
-/
import Derived.Test.YtibdaonhldlmbaaChecked
import GoSem.Claim
import GoSem.ClaimJoined
import GoSem.ClaimMapViews
import Derived.JoinedTies
import Derived.KernelRfl
namespace Go.Proofs.Ytibdaonhldlmbaa
/- THE CELL 'sum', in the pinned program and in every row, IS THE sha256 OF THE DUMP (.gsa) THAT YtibdaonhldlmbaaProg.lean LOADS. Nothing in Lean hashes anything: it is a label: what it is worth is what the hold of that sum in a sandbox is worth. -/
noncomputable def Try.pinned : Pinned := { name := "ytibdaonhldlmbaa", sum := "d49a87529864909c53822b4fd489a49e2085b9c64d8f11c517026ceb9a468674", checked := Try.checked }
namespace Rows
def none {H : Type} : Left H := { results := [], args := [] }

/-- 'tetherlaw28.PolicyTimes': WHATEVER THE INPUT: true; the input reads as it did. -/
def policyTimesSpec : ChangeSpec := { name := "policyTimes", fn := fun _ => fun
  | [d1, d2] => { results := [.lit (.bool true)], args := [d1, d2] }
  | _ => none }
def policyTimesRow : OpenClaim := { program := "ytibdaonhldlmbaa", sum := "d49a87529864909c53822b4fd489a49e2085b9c64d8f11c517026ceb9a468674", func := "tether/tetherlaw28.PolicyTimes", spec := "policyTimes", unfollowed := true, recurses := true, apart := false }
def PolicyTimesSaid : Prop := policyTimesRow.holds Try.pinned (OpenSpec.ofChange policyTimesSpec)

/-- ITS FALSE NEIGHBOUR: 'it returns false'. Refute it at one input. -/
def policyTimesWrong : ChangeSpec := { name := "policyTimes", fn := fun _ => fun
  | [d1, d2] => { results := [.lit (.bool false)], args := [d1, d2] }
  | _ => none }
def PolicyTimesWrongFalsely : Prop := policyTimesRow.holds Try.pinned (OpenSpec.ofChange policyTimesWrong)

/-- 'tetherlaw28.PolicyGives': WHATEVER THE INPUT: true; the input reads as it did. -/
def policyGivesSpec : ChangeSpec := { name := "policyGives", fn := fun _ => fun
  | [d1, d2] => { results := [.lit (.bool true)], args := [d1, d2] }
  | _ => none }
def policyGivesRow : OpenClaim := { program := "ytibdaonhldlmbaa", sum := "d49a87529864909c53822b4fd489a49e2085b9c64d8f11c517026ceb9a468674", func := "tether/tetherlaw28.PolicyGives", spec := "policyGives", unfollowed := true, recurses := true, apart := false }
def PolicyGivesSaid : Prop := policyGivesRow.holds Try.pinned (OpenSpec.ofChange policyGivesSpec)

/-- ITS FALSE NEIGHBOUR: 'it returns false'. Refute it at one input. -/
def policyGivesWrong : ChangeSpec := { name := "policyGives", fn := fun _ => fun
  | [d1, d2] => { results := [.lit (.bool false)], args := [d1, d2] }
  | _ => none }
def PolicyGivesWrongFalsely : Prop := policyGivesRow.holds Try.pinned (OpenSpec.ofChange policyGivesWrong)

/-- 'tetherlaw28.PolicyPlays': WHATEVER THE INPUT: true; the input reads as it did. -/
def policyPlaysSpec : ChangeSpec := { name := "policyPlays", fn := fun _ => fun
  | [d1, d2] => { results := [.lit (.bool true)], args := [d1, d2] }
  | _ => none }
def policyPlaysRow : OpenClaim := { program := "ytibdaonhldlmbaa", sum := "d49a87529864909c53822b4fd489a49e2085b9c64d8f11c517026ceb9a468674", func := "tether/tetherlaw28.PolicyPlays", spec := "policyPlays", unfollowed := true, recurses := true, apart := false }
def PolicyPlaysSaid : Prop := policyPlaysRow.holds Try.pinned (OpenSpec.ofChange policyPlaysSpec)

/-- ITS FALSE NEIGHBOUR: 'it returns false'. Refute it at one input. -/
def policyPlaysWrong : ChangeSpec := { name := "policyPlays", fn := fun _ => fun
  | [d1, d2] => { results := [.lit (.bool false)], args := [d1, d2] }
  | _ => none }
def PolicyPlaysWrongFalsely : Prop := policyPlaysRow.holds Try.pinned (OpenSpec.ofChange policyPlaysWrong)

/-- 'tetherlaw28.PolicyIdles': WHATEVER THE INPUT: true; the input reads as it did. -/
def policyIdlesSpec : ChangeSpec := { name := "policyIdles", fn := fun _ => fun
  | [d1, d2, d3] => { results := [.lit (.bool true)], args := [d1, d2, d3] }
  | _ => none }
def policyIdlesRow : OpenClaim := { program := "ytibdaonhldlmbaa", sum := "d49a87529864909c53822b4fd489a49e2085b9c64d8f11c517026ceb9a468674", func := "tether/tetherlaw28.PolicyIdles", spec := "policyIdles", unfollowed := true, recurses := true, apart := false }
def PolicyIdlesSaid : Prop := policyIdlesRow.holds Try.pinned (OpenSpec.ofChange policyIdlesSpec)

/-- ITS FALSE NEIGHBOUR: 'it returns false'. Refute it at one input. -/
def policyIdlesWrong : ChangeSpec := { name := "policyIdles", fn := fun _ => fun
  | [d1, d2, d3] => { results := [.lit (.bool false)], args := [d1, d2, d3] }
  | _ => none }
def PolicyIdlesWrongFalsely : Prop := policyIdlesRow.holds Try.pinned (OpenSpec.ofChange policyIdlesWrong)

/-- 'tetherlaw28.PolicyNil': WHATEVER THE INPUT: true; the input reads as it did. -/
def policyNilSpec : ChangeSpec := { name := "policyNil", fn := fun _ => fun
  | [d1, d2] => { results := [.lit (.bool true)], args := [d1, d2] }
  | _ => none }
def policyNilRow : OpenClaim := { program := "ytibdaonhldlmbaa", sum := "d49a87529864909c53822b4fd489a49e2085b9c64d8f11c517026ceb9a468674", func := "tether/tetherlaw28.PolicyNil", spec := "policyNil", unfollowed := true, recurses := true, apart := false }
def PolicyNilSaid : Prop := policyNilRow.holds Try.pinned (OpenSpec.ofChange policyNilSpec)

/-- ITS FALSE NEIGHBOUR: 'it returns false'. Refute it at one input. -/
def policyNilWrong : ChangeSpec := { name := "policyNil", fn := fun _ => fun
  | [d1, d2] => { results := [.lit (.bool false)], args := [d1, d2] }
  | _ => none }
def PolicyNilWrongFalsely : Prop := policyNilRow.holds Try.pinned (OpenSpec.ofChange policyNilWrong)

/- THE SECOND FORM. 'bulk': how many values and letters a reading holds, each counted each time it is reached (what is shared counts as often as it is met; a slice's spare places count too). A statement '..UptoSaid' is the law's where the arguments, and the package variables that the reading takes, are together of bulk at most 1048576: NARROWER than '..Said'. Prove '..Said' where nothing that the law and all that it calls make is longer than what came in: it says more and counts as full. Else prove '..UptoSaid'. A law counts once. -/
mutual
def uptoBulk {H : Type} : DataW H → Nat
  | .lit (.string bytes) => bytes.length + 1
  | .lit _ => 1
  | .nil => 1
  | .ptr d => uptoBulk d + 1
  | .slice elems spare => uptoBulkAll elems + uptoBulkAll spare + 1
  | .agg parts => uptoBulkAll parts + 1
  | .iface _ d => uptoBulk d + 1
  | .map entries => uptoBulkEntries entries + 1
  | .held _ => 1
def uptoBulkAll {H : Type} : List (DataW H) → Nat
  | [] => 0
  | d :: r => uptoBulk d + uptoBulkAll r
def uptoBulkEntries {H : Type} : List (Lit × DataW H) → Nat
  | [] => 0
  | x :: r => uptoBulkEntry x + uptoBulkEntries r
def uptoBulkEntry {H : Type} : Lit × DataW H → Nat
  | (.string bytes, d) => bytes.length + uptoBulk d + 1
  | (_, d) => uptoBulk d + 1
 end
def uptoSmall : (H : Type) → List (DataW H) → Bool := fun _ ds => decide (uptoBulkAll ds ≤ 1048576)
def OpenSpec.upto (s : _root_.Go.ChangeSpec) : _root_.Go.OpenSpec := { _root_.Go.OpenSpec.ofChange s with cond := some uptoSmall }

/-- 'tetherlaw28.PolicyTimes', WHERE WHAT IT READS IS OF BULK AT MOST 1048576: true; the input reads as it did. -/
def policyTimesUptoRow : OpenClaim := { program := "ytibdaonhldlmbaa", sum := "d49a87529864909c53822b4fd489a49e2085b9c64d8f11c517026ceb9a468674", func := "tether/tetherlaw28.PolicyTimes", spec := "policyTimes", unfollowed := true, recurses := true, apart := false, narrowed := true }
def PolicyTimesUptoSaid : Prop := policyTimesUptoRow.holds Try.pinned (OpenSpec.upto policyTimesSpec)

/-- 'tetherlaw28.PolicyGives', WHERE WHAT IT READS IS OF BULK AT MOST 1048576: true; the input reads as it did. -/
def policyGivesUptoRow : OpenClaim := { program := "ytibdaonhldlmbaa", sum := "d49a87529864909c53822b4fd489a49e2085b9c64d8f11c517026ceb9a468674", func := "tether/tetherlaw28.PolicyGives", spec := "policyGives", unfollowed := true, recurses := true, apart := false, narrowed := true }
def PolicyGivesUptoSaid : Prop := policyGivesUptoRow.holds Try.pinned (OpenSpec.upto policyGivesSpec)

/-- 'tetherlaw28.PolicyPlays', WHERE WHAT IT READS IS OF BULK AT MOST 1048576: true; the input reads as it did. -/
def policyPlaysUptoRow : OpenClaim := { program := "ytibdaonhldlmbaa", sum := "d49a87529864909c53822b4fd489a49e2085b9c64d8f11c517026ceb9a468674", func := "tether/tetherlaw28.PolicyPlays", spec := "policyPlays", unfollowed := true, recurses := true, apart := false, narrowed := true }
def PolicyPlaysUptoSaid : Prop := policyPlaysUptoRow.holds Try.pinned (OpenSpec.upto policyPlaysSpec)

/-- 'tetherlaw28.PolicyIdles', WHERE WHAT IT READS IS OF BULK AT MOST 1048576: true; the input reads as it did. -/
def policyIdlesUptoRow : OpenClaim := { program := "ytibdaonhldlmbaa", sum := "d49a87529864909c53822b4fd489a49e2085b9c64d8f11c517026ceb9a468674", func := "tether/tetherlaw28.PolicyIdles", spec := "policyIdles", unfollowed := true, recurses := true, apart := false, narrowed := true }
def PolicyIdlesUptoSaid : Prop := policyIdlesUptoRow.holds Try.pinned (OpenSpec.upto policyIdlesSpec)

/-- 'tetherlaw28.PolicyNil', WHERE WHAT IT READS IS OF BULK AT MOST 1048576: true; the input reads as it did. -/
def policyNilUptoRow : OpenClaim := { program := "ytibdaonhldlmbaa", sum := "d49a87529864909c53822b4fd489a49e2085b9c64d8f11c517026ceb9a468674", func := "tether/tetherlaw28.PolicyNil", spec := "policyNil", unfollowed := true, recurses := true, apart := false, narrowed := true }
def PolicyNilUptoSaid : Prop := policyNilUptoRow.holds Try.pinned (OpenSpec.upto policyNilSpec)

end Rows
end Go.Proofs.Ytibdaonhldlmbaa
