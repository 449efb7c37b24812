import Derived.Test.YtibdaonhldlmbaaA0
set_option linter.unusedVariables false
set_option linter.unusedSimpArgs false
namespace Go.Proofs.Ytibdaonhldlmbaa.F
open Go.RowKit
/-- what a kind of call does, by the state -/
def mv (k : Int) (m : Bool) (q : Pol) : Pol × List Int :=
  if k = 0 then (if q.st = 0 then q.start1 else (q, []))
  else if k = 1 then (if m = true then (if q.st = 3 then q.packet1 else if q.st = 0 ∨ q.st = 1 ∨ q.st = 4 then q.packet2 else (q, [])) else (q, []))
  else if k = 2 then (if q.st = 0 ∨ q.st = 1 ∨ q.st = 4 ∨ q.st = 5 then q.up1 else (q, []))
  else if k = 3 then (if q.st = 2 ∨ q.st = 3 then q.down1 else if q.st = 0 ∨ q.st = 1 ∨ q.st = 4 ∨ q.st = 5 then q.down2 else (q, []))
  else if k = 4 then (if q.st = 2 then q.lup1 else (q, []))
  else if k = 5 then (if q.st = 2 ∨ q.st = 3 ∨ q.st = 4 then q.ldown1 else (q, []))
  else (q, [])
theorem does_one (ss : List Int) (n : Nat) (q : Pol) : does [(ss, n)] q = if q.st ∈ ss then clo n q else (q, []) := by
  unfold does pick pick
  by_cases h : q.st ∈ ss
  · simp [h]
  · simp [h]
theorem does_two (ss : List Int) (n : Nat) (ss' : List Int) (n' : Nat) (q : Pol) : does [(ss, n), (ss', n')] q = if q.st ∈ ss then clo n q else if q.st ∈ ss' then clo n' q else (q, []) := by
  unfold does pick pick pick
  by_cases h : q.st ∈ ss
  · simp [h]
  · by_cases h2 : q.st ∈ ss'
    · simp [h, h2]
    · simp [h, h2]
theorem does_mv (k : Int) (m : Bool) (q : Pol) : does (csOf k m) q = mv k m q := by
  unfold csOf mv
  by_cases h0 : k = 0
  · simp only [if_pos h0, does_one, List.mem_cons, List.not_mem_nil, or_false]; rfl
  · simp only [if_neg h0]
    by_cases h1 : k = 1
    · simp only [if_pos h1]
      cases m
      · rfl
      · simp only [if_true, does_two, List.mem_cons, List.not_mem_nil, or_false]; rfl
    · simp only [if_neg h1]
      by_cases h2 : k = 2
      · simp only [if_pos h2, does_one, List.mem_cons, List.not_mem_nil, or_false]; rfl
      · simp only [if_neg h2]
        by_cases h3 : k = 3
        · simp only [if_pos h3, does_two, List.mem_cons, List.not_mem_nil, or_false]; rfl
        · simp only [if_neg h3]
          by_cases h4 : k = 4
          · simp only [if_pos h4, does_one, List.mem_cons, List.not_mem_nil, or_false]; rfl
          · simp only [if_neg h4]
            by_cases h5 : k = 5
            · simp only [if_pos h5, does_one, List.mem_cons, List.not_mem_nil, or_false]; rfl
            · simp only [if_neg h5]; rfl
end Go.Proofs.Ytibdaonhldlmbaa.F
