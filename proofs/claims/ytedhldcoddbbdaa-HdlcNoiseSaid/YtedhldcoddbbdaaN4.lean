import Derived.Test.YtedhldcoddbbdaaN2
import Derived.Test.YtedhldcoddbbdaaR3
set_option linter.unusedVariables false
set_option linter.unusedSimpArgs false
set_option linter.unnecessarySimpa false
/- Plain: bytes that the map drops change nothing. -/
namespace Go.Proofs.Ytedhldcoddbbdaa.F
open Go.RowKit Go.Proofs.Ytedhldcoddbbdaa.K
theorem put_drop (d : Ln) (c : BitVec 8) : (d.put c).drop = d.drop := by
  unfold Ln.put
  split
  · rfl
  · split <;> rfl
theorem fin_drop (d : Ln) : d.fin.1.drop = d.drop := by
  unfold Ln.fin
  repeat' split
  all_goals rfl
theorem step_drop (d : Ln) (c : BitVec 8) : (stepL d c).1.drop = d.drop := by
  unfold stepL
  split
  · exact fin_drop d
  · exact put_drop d c
/-- what is put ahead of byte number i -/
def nz (a : Int) (ns : List Int) (i : Nat) : List (BitVec 8) := if i < ns.length ∧ cnt (ns.getD i 0) 40 < 32 ∧ bitB a (cnt (ns.getD i 0) 40).toNat = true then [bt (cnt (ns.getD i 0) 40)] else []
def noisy (a : Int) (ns : List Int) : Nat → List (BitVec 8) → List (BitVec 8)
  | _, [] => []
  | i, c :: r => nz a ns i ++ c :: noisy a ns (i + 1) r
theorem noisy_snoc (a : Int) (ns : List Int) (i : Nat) (p : List (BitVec 8)) (c : BitVec 8) : noisy a ns i (p ++ [c]) = noisy a ns i p ++ nz a ns (i + p.length) ++ [c] := by
  induction p generalizing i with
  | nil => simp [noisy]
  | cons x r ih =>
    simp only [List.cons_append, noisy, ih, List.length_cons]
    rw [show i + 1 + r.length = i + (r.length + 1) by omega]
    simp
theorem nz_len (a : Int) (ns : List Int) (i : Nat) : (nz a ns i).length ≤ 1 := by
  unfold nz
  split <;> simp
theorem noisy_len (a : Int) (ns : List Int) (i : Nat) (b : List (BitVec 8)) : (noisy a ns i b).length ≤ 2 * b.length := by
  induction b generalizing i with
  | nil => simp [noisy]
  | cons c r ih =>
    have := ih (i + 1)
    have := nz_len a ns i
    simp only [noisy, List.length_append, List.length_cons]
    omega
theorem feed_nz (d : Ln) (a : Int) (ns : List Int) (i : Nat) (hd : d.drop = dropF a) : feedL d (nz a ns i) = (d, []) := by
  unfold nz
  split
  · rename_i h
    obtain ⟨h1, h2, h3⟩ := h
    have hr := cnt_range (ns.getD i 0) 40 (by omega)
    generalize cnt (ns.getD i 0) 40 = k at *
    have hb : (bt k).toNat = k.toNat := by
      unfold bt
      rw [BitVec.toNat_ofInt]
      omega
    have hne : bt k ≠ 126#8 := by
      intro e
      rw [e] at hb
      simp at hb
      omega
    have hk : k.toNat < 32 := by omega
    simp [feedL, stepL, hne, Ln.put, hd, dropF, hb, hk, h3]
  · rfl
theorem feed_noisy (b : List (BitVec 8)) (d : Ln) (a : Int) (ns : List Int) (i : Nat) (hd : d.drop = dropF a) : feedL d (noisy a ns i b) = feedL d b := by
  induction b generalizing d i with
  | nil => rfl
  | cons c r ih =>
    simp only [noisy]
    rw [feedL_append, feed_nz d a ns i hd]
    simp only [feedL, List.nil_append]
    rw [ih _ _ ((step_drop d c).trans hd)]
/-- a frame's bytes, if it has any -/
def encB (a : Int) (x : Int × List (BitVec 8)) : List (BitVec 8) := if bodyE x.1 ⟨a, false, false⟩ x.2 = 0 then encL x.1 ⟨a, false, false⟩ x.2 else []
theorem bodyLenN (n : Int) (s : Sn) (info : List (BitVec 8)) (h : bodyE n s info = 0) : info.length ≤ 16384 := by
  unfold bodyE at h
  split at h
  · split at h
    · simp at h
    · omega
  · simp at h
theorem encB_len (a : Int) (x : Int × List (BitVec 8)) : (encB a x).length ≤ 40000 := by
  unfold encB
  split
  · rename_i h
    have h1 := bodyLenN _ _ _ h
    have h2 := hd_len x.1 ⟨a, false, false⟩ x.2
    have h3 := escL_len (encA x.1 ⟨a, false, false⟩) (sumL (bareL x.1 ⟨a, false, false⟩ x.2))
    rw [sumL_len] at h3
    unfold encL
    simp
    omega
  · simp
def encs (a : Int) (l : List (Int × List (BitVec 8))) : List (BitVec 8) := l.flatMap (encB a)
theorem encs_snoc (a : Int) (l : List (Int × List (BitVec 8))) (x : Int × List (BitVec 8)) : encs a (l ++ [x]) = encs a l ++ encB a x := by unfold encs; simp
theorem encs_len (a : Int) (l : List (Int × List (BitVec 8))) : (encs a l).length ≤ 40000 * l.length := by
  induction l with
  | nil => simp [encs]
  | cons x r ih =>
    have := encB_len a x
    unfold encs at *
    simp only [List.flatMap_cons, List.length_append, List.length_cons]
    omega
end Go.Proofs.Ytedhldcoddbbdaa.F
