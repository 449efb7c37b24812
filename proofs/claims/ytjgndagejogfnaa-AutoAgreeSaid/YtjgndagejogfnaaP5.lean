import Derived.Test.YtjgndagejogfnaaP4
set_option linter.unusedVariables false
set_option linter.unusedSimpArgs false
namespace Go.Proofs.Ytjgndagejogfnaa.F
open Go.RowKit Go.Proofs.Ytjgndagejogfnaa.K
/-! ### what may come of a call -/
def up1 (u : Bool) (x : Int) : Bool := if x = 1 then true else if x = 2 then false else u
def upTo (u : Bool) (L : List Int) (j : Nat) : Bool := (L.take j).foldl up1 u
theorem upTo_succ (u : Bool) (L : List Int) (j : Nat) (h : j < L.length) : upTo u L (j + 1) = up1 (upTo u L j) L[j] := by
  unfold upTo
  rw [List.take_succ_eq_append_getElem h, List.foldl_append]
  rfl
/-- the law's tests, action by action -/
structure May (st st' : Int) (L : List Int) (k ev : Int) : Prop where
  one : ∀ j (h : j < L.length), (L[j] = 1 → upTo (decide (st = 9)) L j = false) ∧ (L[j] = 2 → upTo (decide (st = 9)) L j = true) ∧ (L[j] = 7 → st' = 6 ∨ st' = 8) ∧ (L[j] = 8 → k ≠ 1 ∧ ev = 6) ∧ (L[j] = 9 → k ≠ 1 ∧ ev = 7)
  fin : upTo (decide (st = 9)) L L.length = decide (st' = 9)
  snd : sends L ≠ [] → 2 ≤ st'
theorem May.nothing (st k ev : Int) : May st st [] k ev := ⟨(fun j h => by cases h), rfl, fun h => absurd rfl h⟩
def mayB (s e t : Int) (l : List Int) : Bool :=
  ((List.range l.length).all fun j => let x := l.getD j 0; let u := upTo (decide (s = 9)) l j
    (x != 1 || !u) && (x != 2 || u) && (x != 7 || t == 6 || t == 8) && (x != 8 || e == 6) && (x != 9 || e == 7) && ((e != 4 && e != 5) || (x != 8 && x != 9)))
  && (upTo (decide (s = 9)) l l.length == decide (t = 9)) && ((sends l).isEmpty || decide (2 ≤ t))
theorem may_all : allE mayB = true := by decide +kernel
theorem may_of {s e t : Int} {l : List Int} (hi : inT s e) (he : ent s e = some (t, l)) (k : Int) (hk : k ≠ 1 ∨ e = 4 ∨ e = 5) (ev : Int) (hev : k ≠ 1 → ev = e) : May s t l k ev := by
  have h := all_of may_all hi he
  unfold mayB at h
  simp only [Bool.and_eq_true, List.all_eq_true, List.mem_range, Bool.or_eq_true, Bool.not_eq_true', beq_iff_eq, bne_iff_ne, List.isEmpty_iff, decide_eq_true_eq] at h
  obtain ⟨⟨h1, h2⟩, h3⟩ := h
  refine ⟨fun j hj => ?_, h2, fun hn => ?_⟩
  · obtain ⟨⟨⟨⟨⟨a1, a2⟩, a3⟩, a4⟩, a5⟩, a6⟩ := h1 j hj
    rw [List.getD_eq_getElem?_getD, List.getElem?_eq_getElem hj] at a1 a2 a3 a4 a5 a6
    simp only [Option.getD_some] at a1 a2 a3 a4 a5 a6
    refine ⟨fun e1 => ?_, fun e1 => ?_, fun e1 => ?_, fun e1 => ?_, fun e1 => ?_⟩
    · rcases a1 with a1 | a1
      · exact absurd e1 a1
      · exact a1
    · rcases a2 with a2 | a2
      · exact absurd e1 a2
      · exact a2
    · rcases a3 with (a3 | a3) | a3
      · exact absurd e1 a3
      · exact .inl a3
      · exact .inr a3
    · have he6 : e = 6 := by
        rcases a4 with a4 | a4
        · exact absurd e1 a4
        · exact a4
      have hk1 : k ≠ 1 := by
        rcases hk with hk | hk
        · exact hk
        · omega
      exact ⟨hk1, by rw [hev hk1, he6]⟩
    · have he7 : e = 7 := by
        rcases a5 with a5 | a5
        · exact absurd e1 a5
        · exact a5
      have hk1 : k ≠ 1 := by
        rcases hk with hk | hk
        · exact hk
        · omega
      exact ⟨hk1, by rw [hev hk1, he7]⟩
  · rcases h3 with h3 | h3
    · exact absurd h3 hn
    · exact h3
theorem may_do (a : St) (e k ev : Int) (hk : k ≠ 1 ∨ e = 4 ∨ e = 5) (hev : k ≠ 1 → ev = e) : May a.st (a.do_ e).1.st (a.do_ e).2.1 k ev := by
  unfold St.do_
  split
  · exact May.nothing _ _ _
  · rename_i h1
    split
    · exact May.nothing _ _ _
    · obtain ⟨hi, he⟩ := nx_ok (s := a.st) (e := e) (by simpa using h1)
      exact may_of hi he k hk ev hev
theorem may_timeout (a : St) (ev : Int) : May a.st a.timeout.1.st a.timeout.2.1 1 ev := by
  unfold St.timeout
  split
  · split
    · exact may_do a 4 1 ev (.inr (.inl rfl)) (fun h => absurd rfl h)
    · exact may_do a 5 1 ev (.inr (.inr rfl)) (fun h => absurd rfl h)
  · exact May.nothing _ _ _
end Go.Proofs.Ytjgndagejogfnaa.F
