import Derived.Test.YtedhldcoddbbdaaU3
import Derived.Test.YtedhldcoddbbdaaR3
set_option linter.unusedVariables false
set_option linter.unusedSimpArgs false
set_option linter.unnecessarySimpa false
namespace Go.Proofs.Ytedhldcoddbbdaa.F
open Go.RowKit Go.Proofs.Ytedhldcoddbbdaa.K
/-- a number from 0 to one less than m -/
def cnt (n m : Int) : Int := if n.tmod m < 0 then n.tmod m + m else n.tmod m
theorem cnt_range (n m : Int) (h : 0 < m) : 0 ≤ cnt n m ∧ cnt n m < m := by
  unfold cnt
  have h1 := Int.tmod_lt_of_pos n h
  have h2 := Int.natAbs_tmod n m
  have h3 := Nat.mod_lt n.natAbs (show 0 < m.natAbs by omega)
  split <;> omega
theorem count27 (n m : Int) (hm : 0 < m) (hm2 : m ≤ 4611686018427387904) (w : World) : Calls Try.prog 27 #[.int .i64 n, .int .i64 m] w fun e w' => e = .returned (.int .i64 (cnt n m)) ∧ w = w' := by
  have hr := cnt_range n m hm
  have h1 := Int.tmod_lt_of_pos n hm
  have h2 := Int.natAbs_tmod n m
  have h3 := Nat.mod_lt n.natAbs (show 0 < m.natAbs by omega)
  have z : (m == 0) = false := by simp; omega
  have hw : wrap64 (n.tmod m + m) = n.tmod m + m ∨ ¬ n.tmod m < 0 := by
    by_cases h : n.tmod m < 0
    · exact .inl (by unfold wrap64; omega)
    · exact .inr h
  unfold cnt at *
  clear h2 h3
  by_cases h : n.tmod m < 0
  · rw [if_pos h] at *
    have hw2 : wrap64 (n.tmod m + m) = n.tmod m + m := hw.resolve_right (by omega)
    clear hw hr
    go_enter Try.func27, Try.ntmps27
    go_wp2
    go_ret
    exact ⟨congrArg (fun x => Ending.returned (Value.int .i64 x)) hw2, rfl⟩
  · rw [if_neg h] at *
    clear hw hr
    go_enter Try.func27, Try.ntmps27
    go_wp2
    go_ret
    exact ⟨rfl, rfl⟩
theorem map25 (a : Int) (w : World) : Calls Try.prog 25 #[.int .i64 a] w fun e w' => e = .returned (.bool (mapB a)) ∧ w = w' := by
  unfold mapB
  by_cases h : 0 ≤ a
  · have h1 : decide (0 ≤ a) = true := by simpa using h
    rw [h1]
    have h2 : decide (a < 4294967296) = decide (a ≤ 4294967295) := by rw [decide_eq_decide]; omega
    go_enter Try.func25, Try.ntmps25
    go_wp2
    go_ret
    exact ⟨by simp [h2], rfl⟩
  · have h1 : decide (0 ≤ a) = false := by simpa using h
    rw [h1]
    go_enter Try.func25, Try.ntmps25
    go_wp2
    go_ret
    exact ⟨by simp, rfl⟩
end Go.Proofs.Ytedhldcoddbbdaa.F

/- Plain: bytes that the map drops change nothing. -/
namespace Go.Proofs.Ytedhldcoddbbdaa.F
open Go.RowKit Go.Proofs.Ytedhldcoddbbdaa.K
theorem put_drop (d : Ln) (c : BitVec 8) : (d.put c).drop = d.drop := by
  unfold Ln.put
  split
  · rfl
  · split <;> rfl
theorem fin_drop (d : Ln) : d.fin.1.drop = d.drop := by
  unfold Ln.fin
  repeat' split
  all_goals rfl
theorem step_drop (d : Ln) (c : BitVec 8) : (stepL d c).1.drop = d.drop := by
  unfold stepL
  split
  · exact fin_drop d
  · exact put_drop d c
/-- what is put ahead of byte number i -/
def nz (a : Int) (ns : List Int) (i : Nat) : List (BitVec 8) := if i < ns.length ∧ cnt (ns.getD i 0) 40 < 32 ∧ bitB a (cnt (ns.getD i 0) 40).toNat = true then [bt (cnt (ns.getD i 0) 40)] else []
def noisy (a : Int) (ns : List Int) : Nat → List (BitVec 8) → List (BitVec 8)
  | _, [] => []
  | i, c :: r => nz a ns i ++ c :: noisy a ns (i + 1) r
theorem noisy_snoc (a : Int) (ns : List Int) (i : Nat) (p : List (BitVec 8)) (c : BitVec 8) : noisy a ns i (p ++ [c]) = noisy a ns i p ++ nz a ns (i + p.length) ++ [c] := by
  induction p generalizing i with
  | nil => simp [noisy]
  | cons x r ih =>
    simp only [List.cons_append, noisy, ih, List.length_cons]
    rw [show i + 1 + r.length = i + (r.length + 1) by omega]
    simp
theorem nz_len (a : Int) (ns : List Int) (i : Nat) : (nz a ns i).length ≤ 1 := by
  unfold nz
  split <;> simp
theorem noisy_len (a : Int) (ns : List Int) (i : Nat) (b : List (BitVec 8)) : (noisy a ns i b).length ≤ 2 * b.length := by
  induction b generalizing i with
  | nil => simp [noisy]
  | cons c r ih =>
    have := ih (i + 1)
    have := nz_len a ns i
    simp only [noisy, List.length_append, List.length_cons]
    omega
theorem feed_nz (d : Ln) (a : Int) (ns : List Int) (i : Nat) (hd : d.drop = dropF a) : feedL d (nz a ns i) = (d, []) := by
  unfold nz
  split
  · rename_i h
    obtain ⟨h1, h2, h3⟩ := h
    have hr := cnt_range (ns.getD i 0) 40 (by omega)
    generalize cnt (ns.getD i 0) 40 = k at *
    have hb : (bt k).toNat = k.toNat := by
      unfold bt
      rw [BitVec.toNat_ofInt]
      omega
    have hne : bt k ≠ 126#8 := by
      intro e
      rw [e] at hb
      simp at hb
      omega
    have hk : k.toNat < 32 := by omega
    simp [feedL, stepL, hne, Ln.put, hd, dropF, hb, hk, h3]
  · rfl
theorem feed_noisy (b : List (BitVec 8)) (d : Ln) (a : Int) (ns : List Int) (i : Nat) (hd : d.drop = dropF a) : feedL d (noisy a ns i b) = feedL d b := by
  induction b generalizing d i with
  | nil => rfl
  | cons c r ih =>
    simp only [noisy]
    rw [feedL_append, feed_nz d a ns i hd]
    simp only [feedL, List.nil_append]
    rw [ih _ _ ((step_drop d c).trans hd)]
/-- a frame's bytes, if it has any -/
def encB (a : Int) (x : Int × List (BitVec 8)) : List (BitVec 8) := if bodyE x.1 ⟨a, false, false⟩ x.2 = 0 then encL x.1 ⟨a, false, false⟩ x.2 else []
theorem bodyLenN (n : Int) (s : Sn) (info : List (BitVec 8)) (h : bodyE n s info = 0) : info.length ≤ 16384 := by
  unfold bodyE at h
  split at h
  · split at h
    · simp at h
    · omega
  · simp at h
theorem encB_len (a : Int) (x : Int × List (BitVec 8)) : (encB a x).length ≤ 40000 := by
  unfold encB
  split
  · rename_i h
    have h1 := bodyLenN _ _ _ h
    have h2 := hd_len x.1 ⟨a, false, false⟩ x.2
    have h3 := escL_len (encA x.1 ⟨a, false, false⟩) (sumL (bareL x.1 ⟨a, false, false⟩ x.2))
    rw [sumL_len] at h3
    unfold encL
    simp
    omega
  · simp
def encs (a : Int) (l : List (Int × List (BitVec 8))) : List (BitVec 8) := l.flatMap (encB a)
theorem encs_snoc (a : Int) (l : List (Int × List (BitVec 8))) (x : Int × List (BitVec 8)) : encs a (l ++ [x]) = encs a l ++ encB a x := by unfold encs; simp
theorem encs_len (a : Int) (l : List (Int × List (BitVec 8))) : (encs a l).length ≤ 40000 * l.length := by
  induction l with
  | nil => simp [encs]
  | cons x r ih =>
    have := encB_len a x
    unfold encs at *
    simp only [List.flatMap_cons, List.length_append, List.length_cons]
    omega
end Go.Proofs.Ytedhldcoddbbdaa.F
