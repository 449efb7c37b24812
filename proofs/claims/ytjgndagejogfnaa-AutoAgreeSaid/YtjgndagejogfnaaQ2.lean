import Derived.Test.YtjgndagejogfnaaQ1
set_option linter.unusedVariables false
set_option linter.unusedSimpArgs false
namespace Go.Proofs.Ytjgndagejogfnaa.F
open Go.RowKit Go.Proofs.Ytjgndagejogfnaa.K
/-! ### two automata and what is on its way between them -/
structure Ag where
  sa : Int
  sb : Int
  tb : List Int
  ta : List Int
def goes (s c : Int) : Bool := decide ((nx s (eventOf c)).2.2 = 0) && (eventOf c != 4) && (eventOf c != 5)
def agGo (q : Ag) (first : Bool) : Option Ag :=
  match q.tb, q.ta with
  | [], [] => none
  | c :: tb, [] => if goes q.sb c then some ⟨q.sa, (nx q.sb (eventOf c)).1, tb, [] ++ sends (nx q.sb (eventOf c)).2.1⟩ else none
  | [], c :: ta => if goes q.sa c then some ⟨(nx q.sa (eventOf c)).1, q.sb, [] ++ sends (nx q.sa (eventOf c)).2.1, ta⟩ else none
  | c :: tb, d :: ta => if first then (if goes q.sb c then some ⟨q.sa, (nx q.sb (eventOf c)).1, tb, d :: ta ++ sends (nx q.sb (eventOf c)).2.1⟩ else none)
      else (if goes q.sa d then some ⟨(nx q.sa (eventOf d)).1, q.sb, c :: tb ++ sends (nx q.sa (eventOf d)).2.1, ta⟩ else none)
def agAll : Nat → Ag → Bool
  | 0, q => q.tb.isEmpty && q.ta.isEmpty && (q.sa == 9) && (q.sb == 9)
  | n + 1, q => if q.tb.isEmpty && q.ta.isEmpty then (q.sa == 9) && (q.sb == 9) else
      (match agGo q true with | some p => agAll n p | none => false) && (match agGo q false with | some p => agAll n p | none => false)
theorem ag_start : agAll 20 ⟨6, 6, [1], [1]⟩ = true := by decide +kernel
theorem ag_end {n : Nat} {q : Ag} (h : agAll n q = true) (he : n = 0 ∨ (q.tb = [] ∧ q.ta = [])) : q.tb = [] ∧ q.ta = [] ∧ q.sa = 9 ∧ q.sb = 9 := by
  cases n with
  | zero =>
    simp only [agAll, Bool.and_eq_true, List.isEmpty_iff, beq_iff_eq] at h
    exact ⟨h.1.1.1, h.1.1.2, h.1.2, h.2⟩
  | succ n =>
    rcases he with he | ⟨h1, h2⟩
    · cases he
    · simp only [agAll, h1, h2, List.isEmpty_nil, Bool.and_self, if_true, Bool.and_eq_true, beq_iff_eq] at h
      exact ⟨h1, h2, h.1, h.2⟩
theorem ag_step {n : Nat} {q : Ag} (h : agAll (n + 1) q = true) (hne : ¬ (q.tb = [] ∧ q.ta = [])) (first : Bool) : ∃ p, agGo q first = some p ∧ agAll n p = true := by
  have h1 : (q.tb.isEmpty && q.ta.isEmpty) = false := by
    rw [Bool.eq_false_iff]
    intro e
    simp only [Bool.and_eq_true, List.isEmpty_iff] at e
    exact hne e
  simp only [agAll, h1] at h
  simp only [Bool.false_eq_true, if_false, Bool.and_eq_true] at h
  cases first
  · cases hg : agGo q false with
    | none => rw [hg] at h; simp at h
    | some p => rw [hg] at h; exact ⟨p, rfl, h.2⟩
  · cases hg : agGo q true with
    | none => rw [hg] at h; simp at h
    | some p => rw [hg] at h; exact ⟨p, rfl, h.1⟩
theorem goes_do {a : St} {c : Int} (h : goes a.st c = true) : ∃ a', a.do_ (eventOf c) = (a', (nx a.st (eventOf c)).2.1, 0) ∧ a'.st = (nx a.st (eventOf c)).1 := by
  unfold goes at h
  simp only [Bool.and_eq_true, decide_eq_true_eq, bne_iff_ne] at h
  obtain ⟨⟨h1, h2⟩, h3⟩ := h
  have hn : nx a.st (eventOf c) = ((nx a.st (eventOf c)).1, (nx a.st (eventOf c)).2.1, 0) := by rw [← h1]
  exact ⟨_, do_goes hn (by omega), rfl⟩
/-- the queues lie apart -/
def Dj (v u : Value) : Prop := ∀ x, v.ownBlock = some x → u.ownBlock ≠ some x
theorem Dj.ne {v u : Value} (h : Dj v u) : u.ownBlock = none ∨ u.ownBlock ≠ v.ownBlock := by
  cases hu : u.ownBlock with
  | none => exact .inl rfl
  | some y => exact .inr fun e => h y e.symm hu
theorem Dj.symm {v u : Value} (h : Dj v u) : Dj u v := fun x h1 h2 => h x h2 h1
theorem Dj.next {B : Nat} {w : World} {v v' u : Value} {l : List Int} (h : Dj v u) (hu : QueAt B w u l) (hv : v'.ownBlock = v.ownBlock ∨ v'.ownBlock = some w.heap.size) : Dj v' u := by
  intro x h1 h2
  rcases hv with hv | hv
  · exact h x (by rw [← hv]; exact h1) h2
  · rw [hv] at h1
    have := (hu.lt h2).2
    cases h1
    omega
theorem QueAt.nochange {B : Nat} {w w' : World} {v : Value} {l : List Int} {g : Nat} (h : QueAt B w v l) (hg : w.grownBy w' (some g)) (hB : g < B) : QueAt B w' v l := by
  refine h.kept hg ?_
  cases hv : v.ownBlock with
  | none => exact .inl rfl
  | some k => exact .inr fun e => by have := (h.lt hv).1; cases e; omega
theorem At_other {B : Nat} {w w' : World} {v : Value} {l : List Int} {g : Nat} {a : St} (h : AtP w g a) (hq : QueAt B w v l) (hg : w.grownBy w' v.ownBlock) (hB : g < B) : AtP w' g a := by
  refine h.keep hg ?_
  intro e
  have := (hq.lt e.symm).1
  omega
theorem below_que {B B0 : Nat} {w0 w w' : World} {v : Value} {l : List Int} (h : Below B0 w0 w) (hq : QueAt B w v l) (hg : w.grownBy w' v.ownBlock) (hl : B0 ≤ w.heap.size) (hB : B0 ≤ B) : Below B0 w0 w' :=
  h.grown hg hl (fun k hk => by have := (hq.lt hk).1; omega)
/-- the list of flags -/
def cellsB (b : Bool) : List Value := [.bool b]
open Go.ChangeShapes Go.WideShapes in
theorem open_flags {H : Type} {enc : TypeId × Value → H} {W : World} {base : Nat} {spare : Nat → Bool} {held : Bool} {v : Value} {d : DataW H} {ps : List MemPlace} (hv : ∃ a len cap, v = .slice a len cap) (h : DataW.Trod enc Try.prog W base spare held 49 v d ps) : ∃ l : List Bool, RecsAt W v 1 cellsB l := by
  obtain ⟨l, hl, _⟩ := open_recs (n := 1) cellsB (fun _ => True) Try.underlying49 (by kernel_rfl) (by decide) (fun fuel cs y hy => by
    obtain ⟨z, e, _⟩ := DataW.trod_bool Try.underlying4 hy
    exact ⟨z, e, trivial⟩) hv h
  exact ⟨l, hl⟩
end Go.Proofs.Ytjgndagejogfnaa.F
