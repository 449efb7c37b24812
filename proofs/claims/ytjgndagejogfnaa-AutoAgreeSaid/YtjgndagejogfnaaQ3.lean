import Derived.Test.YtjgndagejogfnaaQ2
import Derived.Test.YtjgndagejogfnaaP9
set_option linter.unusedVariables false
set_option linter.unusedSimpArgs false
namespace Go.Proofs.Ytjgndagejogfnaa.F
open Go.RowKit Go.Proofs.Ytjgndagejogfnaa.K
/-- Both automata and both queues, as the loop holds them: w1 is the world where the queues' blocks begin. -/
structure AgR (w1 wr : World) (ga gb : Nat) (a b : St) (tb ta : Value) (lb la : List Int) : Prop where
  oka : a.ok
  okb : b.ok
  A : AtP wr ga a
  Bb : AtP wr gb b
  qb : QueAt w1.heap.size wr tb lb
  qa : QueAt w1.heap.size wr ta la
  dj : Dj tb ta
  two : Two w1 wr ga gb
  lga : ga < w1.heap.size
  lgb : gb < w1.heap.size
  ne : ga ≠ gb
theorem Two.swap {w w' : World} {g r : Nat} (h : Two w w' g r) : Two w w' r g := ⟨h.os, h.tape, h.output, h.size, fun k hk h1 h2 => h.block k hk h2 h1⟩
theorem AgR.swap {w1 wr : World} {ga gb : Nat} {a b : St} {tb ta : Value} {lb la : List Int} (h : AgR w1 wr ga gb a b tb ta lb la) : AgR w1 wr gb ga b a ta tb la lb :=
  ⟨h.okb, h.oka, h.Bb, h.A, h.qa, h.qb, h.dj.symm, h.two.swap, h.lgb, h.lga, h.ne.symm⟩
theorem AgR.doA {w1 wr w' : World} {ga gb : Nat} {a b a' : St} {tb ta : Value} {lb la : List Int} (h : AgR w1 wr ga gb a b tb ta lb la) (h2 : AtP w' ga a') (h3 : wr.grownBy w' (some ga)) (ok : a'.ok) : AgR w1 w' ga gb a' b tb ta lb la :=
  ⟨ok, h.okb, h2, h.Bb.keep h3 (by have := h.ne; simp; omega), h.qb.nochange h3 h.lga, h.qa.nochange h3 h.lga, h.dj, h.two.left h3, h.lga, h.lgb, h.ne⟩
theorem AgR.doB {w1 wr w' : World} {ga gb : Nat} {a b b' : St} {tb ta : Value} {lb la : List Int} (h : AgR w1 wr ga gb a b tb ta lb la) (h2 : AtP w' gb b') (h3 : wr.grownBy w' (some gb)) (ok : b'.ok) : AgR w1 w' ga gb a b' tb ta lb la :=
  (h.swap.doA h2 h3 ok).swap
theorem AgR.below {w1 wr w' : World} {ga gb : Nat} {a b : St} {tb ta : Value} {lb la : List Int} (h : AgR w1 wr ga gb a b tb ta lb la) (hb : Below wr.heap.size wr w') : AgR w1 w' ga gb a b tb ta lb la :=
  ⟨h.oka, h.okb, h.A.below hb, h.Bb.below hb, h.qb.below hb, h.qa.below hb, h.dj, h.two.below hb, h.lga, h.lgb, h.ne⟩
theorem AgR.appA {w1 wr w' : World} {ga gb : Nat} {a b : St} {tb ta v' : Value} {lb la l : List Int} (h : AgR w1 wr ga gb a b tb ta lb la) (hq : QueAt w1.heap.size w' v' l) (hg : wr.grownBy w' ta.ownBlock) (hv : v'.ownBlock = ta.ownBlock ∨ v'.ownBlock = some wr.heap.size) : AgR w1 w' ga gb a b tb v' lb l := by
  refine ⟨h.oka, h.okb, At_other h.A h.qa hg h.lga, At_other h.Bb h.qa hg h.lgb, h.qb.kept hg h.dj.symm.ne, hq, ?_, ?_, h.lga, h.lgb, h.ne⟩
  · exact (h.dj.symm.next h.qb hv).symm
  · cases hb : ta.ownBlock with
    | none => rw [hb] at hg; exact ⟨hg.os.trans h.two.os, hg.tape.trans h.two.tape, hg.output.trans h.two.output, Nat.le_trans h.two.size hg.size, fun k hk h1 h2 => (hg.block k (Nat.lt_of_lt_of_le hk h.two.size) (by simp)).trans (h.two.block k hk h1 h2)⟩
    | some q => rw [hb] at hg; exact h.two.out_own hg (h.qa.lt hb).1
theorem AgR.appB {w1 wr w' : World} {ga gb : Nat} {a b : St} {tb ta v' : Value} {lb la l : List Int} (h : AgR w1 wr ga gb a b tb ta lb la) (hq : QueAt w1.heap.size w' v' l) (hg : wr.grownBy w' tb.ownBlock) (hv : v'.ownBlock = tb.ownBlock ∨ v'.ownBlock = some wr.heap.size) : AgR w1 w' ga gb a b v' ta l la :=
  (h.swap.appA hq hg hv).swap
/-- the first item is gone from the queue -/
theorem AgR.cutB {w1 wr : World} {ga gb : Nat} {a b : St} {A : Option Addr} {n cap : Nat} {ta : Value} {x : Int} {lb la : List Int} (h : AgR w1 wr ga gb a b (.slice A n cap) ta (x :: lb) la) : ∃ bb o, A = some ⟨bb, o, none⟩ ∧ n = lb.length + 1 ∧ n ≤ cap ∧ wr.cell? ⟨bb, o, none⟩ = some (.int .i64 x) ∧ AgR w1 wr ga gb a b (.slice (some ⟨bb, if cap = 1 then o else o + 1, none⟩) lb.length (cap - 1)) ta lb la := by
  obtain ⟨bb, o, rfl, h1, h2, h3, h4⟩ := h.qb.tail
  exact ⟨bb, o, rfl, h1, h2, h3, ⟨h.oka, h.okb, h.A, h.Bb, h4, h.qa, h.dj, h.two, h.lga, h.lgb, h.ne⟩⟩
theorem AgR.cutA {w1 wr : World} {ga gb : Nat} {a b : St} {A : Option Addr} {n cap : Nat} {tb : Value} {x : Int} {lb la : List Int} (h : AgR w1 wr ga gb a b tb (.slice A n cap) lb (x :: la)) : ∃ bb o, A = some ⟨bb, o, none⟩ ∧ n = la.length + 1 ∧ n ≤ cap ∧ wr.cell? ⟨bb, o, none⟩ = some (.int .i64 x) ∧ AgR w1 wr ga gb a b tb (.slice (some ⟨bb, if cap = 1 then o else o + 1, none⟩) la.length (cap - 1)) lb la := by
  obtain ⟨bb, o, e, h1, h2, h3, h4⟩ := h.swap.cutB
  exact ⟨bb, o, e, h1, h2, h3, h4.swap⟩
theorem AgR.start {w1 : World} {ga gb : Nat} {a b : St} (oka : a.ok) (okb : b.ok) (hA : AtP w1 ga a) (hB : AtP w1 gb b) (hne : ga ≠ gb) : AgR w1 w1 ga gb a b (.slice none 0 0) (.slice none 0 0) [] [] :=
  ⟨oka, okb, hA, hB, QueAt.nil _ _, QueAt.nil _ _, fun _ h => (by cases h), Two.refl _ _ _, hA.lt, hB.lt, hne⟩
/-! the start -/
def sK : Nat → Int | 0 => 0 | 1 => 1 | _ => 6
def tK : Nat → List Int | 0 => [] | 1 => [] | _ => [1]
def eK : Nat → Int | 0 => 2 | _ => 0
theorem start_do {x : St} {k : Nat} (hk : k < 2) (h : x.st = sK k) : ∃ x' L, x.do_ (eK k) = (x', L, 0) ∧ x'.st = sK (k + 1) ∧ tK k ++ sends L = tK (k + 1) := by
  obtain ⟨s, c, d, e⟩ := x
  simp only at h
  subst h
  have hc : k = 0 ∨ k = 1 := by omega
  rcases hc with rfl | rfl
  · exact ⟨_, _, do_goes (a := ⟨sK 0, c, d, e⟩) (t := (nx 0 2).1) (L := (nx 0 2).2.1) (show nx 0 2 = _ by decide +kernel) (by simp [eK]), (show (nx 0 2).1 = 1 by decide +kernel), by decide +kernel⟩
  · exact ⟨_, _, do_goes (a := ⟨sK 1, c, d, e⟩) (t := (nx 1 0).1) (L := (nx 1 0).2.1) (show nx 1 0 = _ by decide +kernel) (by simp [eK]), (show (nx 1 0).1 = 6 by decide +kernel), by decide +kernel⟩
/-! who is served -/
def dec (q : Ag) (f : Bool) : Bool := decide (0 < q.tb.length) && (f || decide (q.ta.length = 0))
theorem ag_B {q p : Ag} {f : Bool} (h : agGo q f = some p) (hd : dec q f = true) : ∃ c tb, q.tb = c :: tb ∧ goes q.sb c = true ∧ p = ⟨q.sa, (nx q.sb (eventOf c)).1, tb, q.ta ++ sends (nx q.sb (eventOf c)).2.1⟩ := by
  obtain ⟨sa, sb, tb, ta⟩ := q
  cases tb with
  | nil => simp [dec] at hd
  | cons c tb =>
    refine ⟨c, tb, rfl, ?_⟩
    cases ta with
    | nil =>
      simp only [agGo] at h
      split at h
      · rename_i hg; exact ⟨hg, (Option.some.inj h).symm⟩
      · cases h
    | cons d ta =>
      cases f
      · simp [dec] at hd
      · simp only [agGo] at h
        rw [if_pos trivial] at h
        split at h
        · rename_i hg; exact ⟨hg, (Option.some.inj h).symm⟩
        · cases h
theorem ag_A {q p : Ag} {f : Bool} (h : agGo q f = some p) (hd : dec q f = false) : ∃ c ta, q.ta = c :: ta ∧ goes q.sa c = true ∧ p = ⟨(nx q.sa (eventOf c)).1, q.sb, q.tb ++ sends (nx q.sa (eventOf c)).2.1, ta⟩ := by
  obtain ⟨sa, sb, tb, ta⟩ := q
  cases ta with
  | nil =>
    cases tb with
    | nil => simp [agGo] at h
    | cons c tb => simp [dec] at hd
  | cons d ta =>
    refine ⟨d, ta, rfl, ?_⟩
    cases tb with
    | nil =>
      simp only [agGo] at h
      split at h
      · rename_i hg; exact ⟨hg, (Option.some.inj h).symm⟩
      · cases h
    | cons c tb =>
      cases f
      · simp only [agGo] at h
        rw [if_neg (by simp)] at h
        split at h
        · rename_i hg; exact ⟨hg, (Option.some.inj h).symm⟩
        · cases h
      · simp [dec] at hd
theorem sends_le (l : List Int) : (sends l).length ≤ l.length := List.length_filterMap_le _ _
end Go.Proofs.Ytjgndagejogfnaa.F
