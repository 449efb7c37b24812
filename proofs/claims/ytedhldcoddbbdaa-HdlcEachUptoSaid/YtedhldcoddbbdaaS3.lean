import Derived.Test.YtedhldcoddbbdaaS2
set_option linter.unusedVariables false
set_option linter.unusedSimpArgs false
set_option linter.unnecessarySimpa false
namespace Go.Proofs.Ytedhldcoddbbdaa.F
open Go.RowKit Go.Proofs.Ytedhldcoddbbdaa.K
def kI : List (BitVec 8) := [1#8, 1#8, 0#8, 4#8]
def kB : List (BitVec 8) := [0x7e#8, 0xff#8, 0x7d#8, 0x23#8, 0xc0#8, 0x21#8, 0x7d#8, 0x21#8, 0x7d#8, 0x21#8, 0x7d#8, 0x20#8, 0x7d#8, 0x24#8, 0xd1#8, 0xb5#8, 0x7e#8]
theorem kE : bodyE 49185 ⟨0, false, false⟩ kI = 0 := by decide +kernel
theorem kL : encL 49185 ⟨0, false, false⟩ kI = kB := by decide +kernel
theorem kF : (feedL (Ln.start 1500 (dropF 0) true true) kB).2 = [(49185, kI)] := by decide +kernel
theorem kN : newOk 1500 0 = true := by decide +kernel
theorem kO (m a : Int) (p q : Bool) (h : newOk m a = true) : (Ln.start m (dropF a) p q).Ok := by
  unfold newOk at h
  simp only [Bool.and_eq_true, decide_eq_true_eq] at h
  exact ⟨h.1, h.2.1, by show ((0 : Nat) : Int) ≤ m + 7; omega⟩
end Go.Proofs.Ytedhldcoddbbdaa.F
