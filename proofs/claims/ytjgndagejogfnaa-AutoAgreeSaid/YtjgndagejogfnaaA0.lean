/- The automaton, as plain numbers and lists. -/
set_option linter.unusedVariables false
set_option linter.unusedSimpArgs false
namespace Go.Proofs.Ytjgndagejogfnaa.F
/-- the table: of an event, of a state; none: it can not come -/
def tab : List (List (Option (Int × List Int))) := [
  [some (2, []), some (6, [5, 7]), none, none, none, none, none, none, none, none],
  [none, none, some (0, []), some (1, [3]), some (0, []), some (1, []), some (1, []), some (1, []), some (1, []), some (1, [2])],
  [some (1, [3]), some (1, []), some (6, [5, 7]), some (3, []), some (5, []), some (5, []), some (6, []), some (7, []), some (8, []), some (9, [])],
  [some (0, []), some (0, [4]), some (2, []), some (2, []), some (4, []), some (4, []), some (4, [5, 10]), some (4, [5, 10]), some (4, [5, 10]), some (4, [2, 5, 10])],
  [none, none, none, none, some (4, [10]), some (5, [10]), some (6, [7]), some (6, [7]), some (8, [7]), none],
  [none, none, none, none, some (2, [4]), some (3, [4]), some (3, [4]), some (3, [4]), some (3, [4]), none],
  [none, none, some (2, [11]), some (8, [5, 7, 8]), some (4, []), some (5, []), some (8, [8]), some (9, [8, 1]), some (8, [8]), some (8, [2, 7, 8])],
  [none, none, some (2, [11]), some (6, [5, 7, 9]), some (4, []), some (5, []), some (6, [9]), some (7, [9]), some (6, [9]), some (6, [2, 7, 9])],
  [none, none, some (2, [11]), some (3, [11]), some (4, []), some (5, []), some (7, [5]), some (6, [7]), some (9, [5, 1]), some (6, [2, 7])],
  [none, none, some (2, [11]), some (3, [11]), some (4, []), some (5, []), some (6, [5, 7]), some (6, [7]), some (8, [5, 7]), some (6, [2, 7])],
  [none, none, some (2, [11]), some (3, [11]), some (4, [11]), some (5, [11]), some (6, [11]), some (6, [11]), some (6, [11]), some (5, [2, 6, 11])],
  [none, none, some (2, []), some (3, []), some (2, [4]), some (3, [4]), some (6, []), some (6, []), some (8, []), some (6, [2, 7])],
  [none, none, some (2, [12]), some (3, [12]), some (4, [12]), some (5, [12]), some (6, [12]), some (7, [12]), some (8, [12]), some (9, [12])],
  [none, none, some (2, []), some (3, []), some (4, []), some (5, []), some (6, []), some (6, []), some (8, []), some (9, [])],
  [none, none, some (2, [4]), some (3, [4]), some (2, [4]), some (3, [4]), some (3, [4]), some (3, [4]), some (3, [4]), some (5, [2, 5, 10])],
  [none, none, some (2, []), some (3, []), some (4, []), some (5, []), some (6, []), some (7, []), some (8, []), some (9, [13])]]
def ent (s e : Int) : Option (Int × List Int) := (tab.getD e.toNat []).getD s.toNat none
def inT (s e : Int) : Prop := 0 ≤ s ∧ s ≤ 9 ∧ 0 ≤ e ∧ e ≤ 15
instance (s e : Int) : Decidable (inT s e) := by unfold inT; infer_instance
def nx (s e : Int) : Int × List Int × Int := if inT s e then (match ent s e with | none => (0, [], 290) | some (t, l) => (t, l, 0)) else (0, [], 1)
/-- an automaton -/
structure St where
  st : Int
  cnt : Int
  cf : Int
  tm : Int
deriving DecidableEq
def cnt1 (cf tm : Int) (l : List Int) (c x : Int) : Int := if x = 5 then (if l.contains 10 then tm else cf) else if x = 6 then 0 else if x = 7 ∨ x = 10 then (if c - 1 < 0 then 0 else c - 1) else c
def cntTo (cf tm : Int) (l : List Int) (m : List Int) (c : Int) : Int := m.foldl (cnt1 cf tm l) c
def St.do_ (a : St) (ev : Int) : St × List Int × Int :=
  if (nx a.st ev).2.2 ≠ 0 then (a, [], (nx a.st ev).2.2)
  else if (ev = 4 ∧ a.cnt = 0) ∨ (ev = 5 ∧ 0 < a.cnt) then (a, [], 9)
  else ({ a with st := (nx a.st ev).1, cnt := cntTo a.cf a.tm (nx a.st ev).2.1 (nx a.st ev).2.1 a.cnt }, (nx a.st ev).2.1, 0)
def runs (s : Int) : Bool := decide (4 ≤ s) && decide (s ≤ 8)
def St.timeout (a : St) : St × List Int × Int := if runs a.st = true then (if 0 < a.cnt then a.do_ 4 else a.do_ 5) else (a, [], 290)
def St.ok (a : St) : Prop := 0 ≤ a.st ∧ a.st ≤ 9 ∧ 0 ≤ a.cnt ∧ a.cnt ≤ 255 ∧ 1 ≤ a.cf ∧ a.cf ≤ 255 ∧ 1 ≤ a.tm ∧ a.tm ≤ 255
/-- what actions send -/
def send1 (x : Int) : Option Int := if x = 7 then some 1 else if x = 8 then some 2 else if x = 9 then some 3 else if x = 10 then some 5 else if x = 11 then some 6 else if x = 12 then some 7 else if x = 13 then some 10 else none
def sends (l : List Int) : List Int := l.filterMap send1
def begins (l : List Int) : Bool := l.contains 7 || l.contains 10 || l.contains 6
/-! all entries -/
def allE (p : Int → Int → Int → List Int → Bool) : Bool := (List.range 16).all fun e => (List.range 10).all fun s => match ent s e with | none => true | some (t, l) => p s e t l
theorem all_of {p : Int → Int → Int → List Int → Bool} (h : allE p = true) {s e t : Int} {l : List Int} (hi : inT s e) (he : ent s e = some (t, l)) : p s e t l = true := by
  unfold allE at h
  rw [List.all_eq_true] at h
  obtain ⟨h0, h9, h1, h15⟩ := hi
  have a := h e.toNat (by simp; omega)
  rw [List.all_eq_true] at a
  have b := a s.toNat (by simp; omega)
  rw [Int.toNat_of_nonneg h0, Int.toNat_of_nonneg h1, he] at b
  exact b
theorem nx_ok {s e : Int} (h : (nx s e).2.2 = 0) : inT s e ∧ ent s e = some ((nx s e).1, (nx s e).2.1) := by
  unfold nx at *
  by_cases hi : inT s e
  · rw [if_pos hi] at h ⊢
    refine ⟨hi, ?_⟩
    cases he : ent s e with
    | none => rw [he] at h; cases h
    | some x => rfl
  · rw [if_neg hi] at h; cases h
theorem ent_to {s e t : Int} {l : List Int} (hi : inT s e) (he : ent s e = some (t, l)) : 0 ≤ t ∧ t ≤ 9 := by
  have := all_of (p := fun _ _ t _ => decide (0 ≤ t) && decide (t ≤ 9)) (by decide +kernel) hi he
  simpa using this
theorem nx_to {s e : Int} (h : (nx s e).2.2 = 0) : 0 ≤ (nx s e).1 ∧ (nx s e).1 ≤ 9 := by
  obtain ⟨a, b⟩ := nx_ok h
  exact ent_to a b
theorem nx_err {s e : Int} (h : (nx s e).2.2 ≠ 0) : nx s e = (0, [], 290) ∨ nx s e = (0, [], 1) := by
  unfold nx at *
  by_cases hi : inT s e
  · rw [if_pos hi] at h ⊢
    cases he : ent s e with
    | none => exact .inl rfl
    | some x => rw [he] at h; exact absurd rfl h
  · rw [if_neg hi]; exact .inr rfl
theorem cnt1_ok {cf tm c : Int} (l : List Int) (x : Int) (h1 : 1 ≤ cf ∧ cf ≤ 255) (h2 : 1 ≤ tm ∧ tm ≤ 255) (h3 : 0 ≤ c ∧ c ≤ 255) : 0 ≤ cnt1 cf tm l c x ∧ cnt1 cf tm l c x ≤ 255 := by
  unfold cnt1
  repeat' split
  all_goals omega
theorem cntTo_ok {cf tm : Int} (l : List Int) (h1 : 1 ≤ cf ∧ cf ≤ 255) (h2 : 1 ≤ tm ∧ tm ≤ 255) : ∀ (m : List Int) (c : Int), 0 ≤ c ∧ c ≤ 255 → 0 ≤ cntTo cf tm l m c ∧ cntTo cf tm l m c ≤ 255
  | [], c, h => h
  | x :: m, c, h => cntTo_ok l h1 h2 m _ (cnt1_ok l x h1 h2 h)
theorem do_ok {a : St} (h : a.ok) (ev : Int) : (a.do_ ev).1.ok := by
  unfold St.do_
  split
  · exact h
  · rename_i he
    split
    · exact h
    · obtain ⟨h1, h2, h3, h4, h5, h6, h7, h8⟩ := h
      have ht := nx_to (s := a.st) (e := ev) (by simpa using he)
      have hc := cntTo_ok (nx a.st ev).2.1 ⟨h5, h6⟩ ⟨h7, h8⟩ (nx a.st ev).2.1 a.cnt ⟨h3, h4⟩
      exact ⟨ht.1, ht.2, hc.1, hc.2, h5, h6, h7, h8⟩
theorem timeout_ok {a : St} (h : a.ok) : a.timeout.1.ok := by
  unfold St.timeout
  split
  · split
    · exact do_ok h _
    · exact do_ok h _
  · exact h
end Go.Proofs.Ytjgndagejogfnaa.F
