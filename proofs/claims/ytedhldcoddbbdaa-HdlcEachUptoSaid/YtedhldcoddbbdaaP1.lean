import Derived.Test.YtedhldcoddbbdaaU8
set_option linter.unusedVariables false
set_option linter.unusedSimpArgs false
set_option linter.unnecessarySimpa false
namespace Go.Proofs.Ytedhldcoddbbdaa.F
open Go.RowKit Go.Proofs.Ytedhldcoddbbdaa.K
/-! Parse, in plain lists -/
def strip : List (BitVec 8) → Option (List (BitVec 8))
  | a :: b :: r => if a = 255#8 ∧ b = 3#8 then some r else none
  | _ => none
def headP (acfc : Bool) (l : List (BitVec 8)) : Option (List (BitVec 8)) := match strip l with
  | some r => some r
  | none => if acfc then some l else none
def odd8 (a : BitVec 8) : Bool := decide (v8 a % 2 = 1)
/-- an error, a number, how many bytes it takes -/
def numP (pfc : Bool) : List (BitVec 8) → Int × Int × Nat
  | [] => (8, 0, 0)
  | a :: r => if odd8 a then (if pfc then (0, v8 a, 1) else (3, 0, 0)) else match r with
    | [] => (8, 0, 0)
    | b :: _ => (0, v8 a * 256 + v8 b, 2)
def parseP (l : List (BitVec 8)) (pfc acfc : Bool) : Int × Int × List (BitVec 8) := match headP acfc l with
  | none => (3, 0, [])
  | some m => if (numP pfc m).1 = 0 then (if protoB (numP pfc m).2.1 then (0, (numP pfc m).2.1, m.drop (numP pfc m).2.2) else (30, 0, [])) else ((numP pfc m).1, 0, [])
theorem or_add (a b : BitVec 8) : bits .or .i64 (v8 a * 256) (v8 b) = v8 a * 256 + v8 b := by
  have ha := a.isLt
  have hb := b.isLt
  have key : ∀ x : Nat, x < 65536 → (BitVec.ofInt 64 (x : Int)).toNat = x := fun x hx => by
    rw [BitVec.ofInt_natCast, BitVec.toNat_ofNat]
    exact Nat.mod_eq_of_lt (by omega)
  have h1 : (BitVec.ofInt 64 (v8 a * 256)).toNat = a.toNat <<< 8 := by
    have := key (a.toNat * 256) (by omega)
    rw [Nat.shiftLeft_eq]
    simpa [v8] using this
  have h2 : (BitVec.ofInt 64 (v8 b)).toNat = b.toNat := by
    have := key b.toNat (by omega)
    simpa [v8] using this
  have h3 : (BitVec.ofInt 64 (v8 a * 256) ||| BitVec.ofInt 64 (v8 b)).toNat = a.toNat * 256 + b.toNat := by
    rw [BitVec.toNat_or, h1, h2, ← Nat.shiftLeft_add_eq_or_of_lt (by omega), Nat.shiftLeft_eq]
  have h4 : bits .or .i64 (v8 a * 256) (v8 b) = IntKind.i64.wrap ((BitVec.ofInt 64 (v8 a * 256) ||| BitVec.ofInt 64 (v8 b)).toNat : Int) := rfl
  rw [h4, h3]
  have := IntWalk.i64_in (((a.toNat * 256 + b.toNat : Nat) : Int)) (by omega)
  rw [this]
  unfold v8
  omega
theorem and8 (a : BitVec 8) : bits .and .u8 (v8 a) 1 = v8 a % 2 := by
  have h : ∀ a : BitVec 8, bits .and .u8 (v8 a) 1 = v8 a % 2 := by decide +kernel
  exact h a
theorem BytesAt.tail {w : World} {b o cap : Nat} {l : List (BitVec 8)} (h : BytesAt w (.slice (some ⟨b, o, none⟩) l.length cap) l) (k : Nat) (hk : k ≤ l.length) (o' c' : Nat) (ho : k < l.length → o' = o + k) (hc : l.length - k ≤ c') (hm : c' ≤ maxLen) : BytesAt w (.slice (some ⟨b, o', none⟩) (l.length - k) c') (l.drop k) := by
  refine ⟨some ⟨b, o', none⟩, c', by rw [List.length_drop], by rw [List.length_drop]; exact hc, hm, fun e => (by cases e), fun ad e j hj => ?_⟩
  cases e
  rw [List.length_drop] at hj
  obtain ⟨b1, o1, e1, hcell⟩ := BytesAt.get h (k := k + j) (by omega)
  cases e1
  refine ⟨b, o', rfl, ?_⟩
  rw [ho (by omega), Nat.add_assoc, List.getElem_drop]
  exact hcell
end Go.Proofs.Ytedhldcoddbbdaa.F
