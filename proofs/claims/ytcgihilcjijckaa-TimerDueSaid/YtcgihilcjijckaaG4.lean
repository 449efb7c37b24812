import Derived.Test.YtcgihilcjijckaaG3
set_option linter.unusedVariables false
set_option linter.unusedSimpArgs false
set_option linter.unnecessarySimpa false
namespace Go.Proofs.Ytcgihilcjijckaa.F
open Go.RowKit Go.Proofs.Ytcgihilcjijckaa.K
def aftE (id now sp : Int) (R : List On) : Int := if (timeB now && spanB sp) = true then setE id (minT (now + sp)) R else 1
def aftR (id now sp : Int) (R : List On) : List On := if (timeB now && spanB sp) = true then setR id (minT (now + sp)) R else R
/-- a call of the program's queue that hands a number back, and leaves a list that is like one of the document's -/
def IntQ (er : Int) (R2 : List On) (g : Nat) (v : Value) (w : World) (e : Ending) (w' : World) : Prop := ∃ (n2 : Int) (l2 : List Tm) (v2 : Value), e = .returned (.int .i64 er) ∧ SetS w w' g v v2 n2 l2 ∧ Like l2 R2
def IntR (er : Int) (R2 : List On) (g : Nat) (v : Value) (w : World) (e : Ending) (w' : World) : Prop := ∃ (v2 : Value), e = .returned (.int .i64 er) ∧ RS w w' g v v2 R2
variable (g : Nat) (w : World)
theorem afterq25 (v : Value) (n id now sp : Int) (l : List Tm) (R : List On) (hk : Like l R) (h : QAt w g v n l) : Calls Try.prog 25 #[.pointer (some ⟨g, 0, none⟩), .int .i64 id, .int .i64 now, .int .i64 sp] w (IntQ (aftE id now sp R) (aftR id now sp R) g v w) := by
  unfold aftE aftR
  by_cases hb : (timeB now && spanB sp) = true
  · rw [if_pos hb, if_pos hb]
    refine (after_ok g w id now sp hb (fun er w' => er = setE id (minT (now + sp)) R ∧ ∃ (n2 : Int) (l2 : List Tm) (v2 : Value), SetS w w' g v v2 n2 l2 ∧ Like l2 (setR id (minT (now + sp)) R)) ?_).mono ?_
    · refine (setq24 g w v n id (minT (now + sp)) l R hk h).mono ?_
      rintro e w' ⟨n2, l2, v2, rfl, h1, h2⟩
      exact ⟨_, rfl, rfl, n2, l2, v2, h1, h2⟩
    · rintro e w' ⟨er, rfl, rfl, n2, l2, v2, h1, h2⟩
      exact ⟨n2, l2, v2, rfl, h1, h2⟩
  · rw [if_neg hb, if_neg hb]
    refine (after_bad g w v n id now sp l (by simpa using hb)).mono ?_
    rintro e w' ⟨rfl, rfl⟩
    exact ⟨n, l, v, rfl, SetS.refl h, hk⟩
theorem afterr29 (v : Value) (id now sp : Int) (R : List On) (hf : Fit R) (h : RAt w g v R) : Calls Try.prog 29 #[.pointer (some ⟨g, 0, none⟩), .int .i64 id, .int .i64 now, .int .i64 sp] w (IntR (aftE id now sp R) (aftR id now sp R) g v w) := by
  unfold aftE aftR
  by_cases hb : (timeB now && spanB sp) = true
  · rw [if_pos hb, if_pos hb]
    refine (rafter_ok g w id now sp hb (fun er w' => er = setE id (minT (now + sp)) R ∧ ∃ (v2 : Value), RS w w' g v v2 (setR id (minT (now + sp)) R)) ?_).mono ?_
    · refine (setr27 g w v id (minT (now + sp)) R hf h).mono ?_
      rintro e w' ⟨v2, rfl, h1⟩
      exact ⟨_, rfl, rfl, v2, h1⟩
    · rintro e w' ⟨er, rfl, rfl, v2, h1⟩
      exact ⟨v2, rfl, h1⟩
  · rw [if_neg hb, if_neg hb]
    refine (rafter_bad g w id now sp (by simpa using hb)).mono ?_
    rintro e w' ⟨rfl, rfl⟩
    exact ⟨v, rfl, RS.refl h⟩
def canE (id : Int) (R : List On) : Int := if noneB id R then 5 else 0
theorem cancelq26 (v : Value) (n id : Int) (l : List Tm) (R : List On) (hk : Like l R) (h : QAt w g v n l) : Calls Try.prog 26 #[.pointer (some ⟨g, 0, none⟩), .int .i64 id] w (IntQ (canE id R) (F.out id R) g v w) := by
  refine (cancel26 g w v n id l hk.le hk.uniq h).mono ?_
  rintro e w' ⟨er, n2, l2, rfl, ⟨⟨v2, q1, q2⟩, q3⟩, hl2, hm, he⟩
  rw [hk.eq] at hm he
  refine ⟨n2, l2, v2, ?_, ⟨q1, q3, q2⟩, ⟨by rw [hm, out_srt], hk.fit.out id⟩⟩
  unfold canE
  rcases he with ⟨rfl, hn⟩ | ⟨rfl, hn⟩
  · rw [if_pos (by rw [← noneB_srt]; exact noneB_iff.2 hn)]
  · rw [if_neg (by rw [← noneB_srt, noneB_iff]; exact hn)]
theorem cancelr30 (v : Value) (id : Int) (R : List On) (hf : Fit R) (h : RAt w g v R) : Calls Try.prog 30 #[.pointer (some ⟨g, 0, none⟩), .int .i64 id] w (IntR (canE id R) (F.out id R) g v w) := by
  refine (rcancel30 g w v id R hf.len hf.uniq h).mono ?_
  rintro e w' ⟨er, v2, rfl, hrs, he⟩
  refine ⟨v2, ?_, hrs⟩
  unfold canE
  rcases he with ⟨rfl, hn⟩ | ⟨rfl, hn⟩
  · rw [if_pos (noneB_iff.2 hn)]
  · rw [if_neg (by rw [noneB_iff]; exact hn)]
/-- what is left when a time has come -/
def lateR (now : Int) (R : List On) : List On := R.filter (fun x => !decide (x.at_ ≤ now))
def popE (now : Int) (R : List On) : Int × Int := match srt R with
  | [] => (0, 5)
  | m :: _ => if m.at_ ≤ now then (m.id, 0) else (0, 5)
def popR (now : Int) (R : List On) : List On := match srt R with
  | [] => R
  | m :: _ => if m.at_ ≤ now then F.out m.id R else R
theorem popR_fit {now : Int} {R : List On} (h : Fit R) : Fit (popR now R) := by
  unfold popR
  split
  · exact h
  · split
    · exact h.out _
    · exact h
def PairQ (x : Int × Int) (R2 : List On) (g : Nat) (v : Value) (w : World) (e : Ending) (w' : World) : Prop := ∃ (n2 : Int) (l2 : List Tm) (v2 : Value), e = .returned (.tuple #[.int .i64 x.1, .int .i64 x.2]) ∧ SetS w w' g v v2 n2 l2 ∧ Like l2 R2
def PairR (x : Int × Int) (R2 : List On) (g : Nat) (v : Value) (w : World) (e : Ending) (w' : World) : Prop := ∃ (v2 : Value), e = .returned (.tuple #[.int .i64 x.1, .int .i64 x.2]) ∧ RS w w' g v v2 R2
theorem popq10 (v : Value) (n now : Int) (l : List Tm) (R : List On) (hk : Like l R) (h : QAt w g v n l) : Calls Try.prog 10 #[.pointer (some ⟨g, 0, none⟩), .int .i64 now] w (PairQ (popE now R) (popR now R) g v w) := by
  have he := hk.eq
  cases l with
  | nil =>
    refine (pop_none g w v n now h).mono ?_
    rintro e w' ⟨rfl, rfl⟩
    have h0 : srt R = [] := he.symm
    exact ⟨n, [], v, by unfold popE; rw [h0], SetS.refl h, by unfold popR; rw [h0]; exact hk⟩
  | cons t l =>
    have h0 : srt R = t.on :: l.map Tm.on := he.symm
    by_cases ht : t.at_ ≤ now
    · refine (pop_yes g w v n now t l hk.le h ht).mono ?_
      rintro e w' ⟨rfl, ⟨⟨v2, q1, q2⟩, q3⟩⟩
      have ht2 : t.on.at_ ≤ now := ht
      refine ⟨n, l, v2, ?_, ⟨q1, q3, q2⟩, ?_⟩
      · unfold popE; rw [h0]; simp only [if_pos ht2]; rfl
      · have : popR now R = F.out t.on.id R := by unfold popR; rw [h0]; exact if_pos ht2
        rw [this]
        exact ⟨(pop_out hk.fit.uniq h0).symm, hk.fit.out _⟩
    · refine (pop_late g w v n now t l h (by omega)).mono ?_
      rintro e w' ⟨rfl, rfl⟩
      have ht2 : ¬ t.on.at_ ≤ now := ht
      exact ⟨n, t :: l, v, by unfold popE; rw [h0]; simp only [if_neg ht2], SetS.refl h, by
        have : popR now R = R := by unfold popR; rw [h0]; exact if_neg ht2
        rw [this]; exact hk⟩
theorem popr32 (v : Value) (now : Int) (R : List On) (hf : Fit R) (h : RAt w g v R) : Calls Try.prog 32 #[.pointer (some ⟨g, 0, none⟩), .int .i64 now] w (PairR (popE now R) (popR now R) g v w) := by
  refine (rpop32 g w v now R hf.len hf.uniq h).mono ?_
  rintro e w' ⟨id, er, v2, l2, rfl, hrs, ⟨rfl, rfl, rfl, hn⟩ | ⟨rfl, m, t, hs, hm, rfl, rfl⟩⟩
  · unfold popE popR
    cases hs : srt l2 with
    | nil => exact ⟨v2, rfl, hrs⟩
    | cons m t =>
      have := hn m t hs
      simp only [if_neg (show ¬ m.at_ ≤ now by omega)]
      exact ⟨v2, rfl, hrs⟩
  · unfold popE popR
    rw [hs]
    simp only [if_pos hm]
    exact ⟨v2, rfl, hrs⟩
def leftE (id now : Int) (R : List On) : Int × Int := match R.find? (fun y => y.id == id) with
  | none => (0, 5)
  | some y => (leftV y.at_ now, 0)
theorem leftE_of {id now : Int} {R : List On} (hu : Uniq R) {x er : Int} (h : (er = 5 ∧ x = 0 ∧ ∀ y ∈ R, y.id ≠ id) ∨ (er = 0 ∧ ∃ y ∈ R, y.id = id ∧ x = leftV y.at_ now)) : (x, er) = leftE id now R := by
  unfold leftE
  rcases h with ⟨rfl, rfl, hn⟩ | ⟨rfl, y, hy, hi, rfl⟩
  · have : R.find? (fun y => y.id == id) = none := by
      rw [List.find?_eq_none]
      intro y hy
      simpa using hn y hy
    rw [this]
  · cases hf : R.find? (fun y => y.id == id) with
    | none =>
      rw [List.find?_eq_none] at hf
      exact absurd (by simpa using hi) (hf y hy)
    | some z =>
      have h1 : z.id = id := by simpa using List.find?_some hf
      have h2 : z ∈ R := List.mem_of_find?_eq_some hf
      rw [uniq_eq hu hy h2 (hi.trans h1.symm)]
theorem leftq22 (v : Value) (n id now : Int) (l : List Tm) (R : List On) (hk : Like l R) (h : QAt w g v n l) : Calls Try.prog 22 #[.pointer (some ⟨g, 0, none⟩), .int .i64 id, .int .i64 now] w fun e w' => e = .returned (.tuple #[.int .i64 (leftE id now R).1, .int .i64 (leftE id now R).2]) ∧ Below w.heap.size w w' := by
  refine (left22 g w v n id now l h).mono ?_
  rintro e w' ⟨x, er, rfl, hb, hx⟩
  rw [hk.eq] at hx
  rw [← leftE_of hk.fit.uniq (x := x) (er := er) (by
    rcases hx with ⟨h1, h2, h3⟩ | ⟨h1, y, hy, h3⟩
    · exact .inl ⟨h1, h2, fun y hy => h3 y (mem_srt.2 hy)⟩
    · exact .inr ⟨h1, y, mem_srt.1 hy, h3⟩)]
  exact ⟨rfl, hb⟩
theorem leftr33 (v : Value) (id now : Int) (R : List On) (hf : Fit R) (h : RAt w g v R) : Calls Try.prog 33 #[.pointer (some ⟨g, 0, none⟩), .int .i64 id, .int .i64 now] w fun e w' => e = .returned (.tuple #[.int .i64 (leftE id now R).1, .int .i64 (leftE id now R).2]) ∧ Below w.heap.size w w' := by
  refine (rleft33 g w v id now R h).mono ?_
  rintro e w' ⟨x, er, rfl, hb, hx⟩
  rw [← leftE_of hf.uniq hx]
  exact ⟨rfl, hb⟩
end Go.Proofs.Ytcgihilcjijckaa.F
