import Derived.Test.YtibdaonhldlmbaaE0
set_option linter.unusedVariables false
set_option linter.unusedSimpArgs false
namespace Go.Proofs.Ytibdaonhldlmbaa.F
open Go.RowKit
/-! ### PolicyGives: the plain law -/
structure Gs where
  at_ : Int
  ask : Bool
  ran : Bool
def asksB (k : Int) (m : Bool) : Bool := decide (k = 2) || (decide (k = 1) && m)
/-- one move, held against what has been -/
def gmv (de pe : Bool) (k : Int) (m : Bool) (s : Gs) (x : Int) : Option Gs :=
  if x = 2 then (if s.at_ = 2 ∨ s.at_ = 3 then some ⟨4, asksB k m, s.ran⟩ else none)
  else if x = 1 ∧ (k ≠ 5 → s.at_ = 0 ∨ s.at_ = 1 ∨ s.at_ = 5) ∧ (k = 5 → s.at_ ≠ 0 ∧ s.at_ ≠ 5) then
    (if de = true ∧ pe = false ∧ s.ran = true ∧ s.ask = false then none else some ⟨2, s.ask, false⟩)
  else none
def gscan (de pe : Bool) (k : Int) (m : Bool) : Gs → List Int → Option Gs
  | s, [] => some s
  | s, x :: r => match gmv de pe k m s x with
    | none => none
    | some s' => gscan de pe k m s' r
theorem gscan_step {de pe : Bool} {k : Int} {m : Bool} {s s2 : Gs} {x : Int} {r : List Int} (h : gmv de pe k m s x = some s2) : gscan de pe k m s (x :: r) = gscan de pe k m s2 r := by
  simp only [gscan, h]
theorem gmv_dial {de pe : Bool} {k : Int} {m : Bool} {s : Gs} (h1 : k ≠ 5 → s.at_ = 0 ∨ s.at_ = 1 ∨ s.at_ = 5) (h2 : k = 5 → s.at_ ≠ 0 ∧ s.at_ ≠ 5) (h3 : ¬ (de = true ∧ pe = false ∧ s.ran = true ∧ s.ask = false)) : gmv de pe k m s 1 = some ⟨2, s.ask, false⟩ := by
  unfold gmv
  rw [if_neg (by decide), if_pos ⟨rfl, h1, h2⟩, if_neg h3]
theorem gmv_hang {de pe : Bool} {k : Int} {m : Bool} {s : Gs} (h : s.at_ = 2 ∨ s.at_ = 3) : gmv de pe k m s 2 = some ⟨4, asksB k m, s.ran⟩ := by
  unfold gmv
  rw [if_pos rfl, if_pos h]
theorem gscan_append {de pe : Bool} {k : Int} {m : Bool} {s s' : Gs} {a b : List Int} (h : gscan de pe k m s a = some s') : gscan de pe k m s (a ++ b) = gscan de pe k m s' b := by
  induction a generalizing s with
  | nil => cases h; rfl
  | cons x r ih =>
    cases hg : gmv de pe k m s x with
    | none => simp only [gscan, hg] at h; cases h
    | some s2 =>
      rw [gscan_step hg] at h
      rw [List.cons_append, gscan_step hg]
      exact ih h
theorem gscan_cons {de pe : Bool} {k : Int} {m : Bool} {s s' : Gs} {x : Int} {r : List Int} (h : gscan de pe k m s (x :: r) = some s') : ∃ s2, gmv de pe k m s x = some s2 ∧ gscan de pe k m s2 r = some s' := by
  unfold gscan at h
  cases hg : gmv de pe k m s x with
  | none => rw [hg] at h; cases h
  | some s2 => rw [hg] at h; exact ⟨s2, rfl, h⟩
/-- what is known between the calls -/
structure Gi (p : Pol) (failed : Int) (ask ran : Bool) : Prop where
  f0 : 0 ≤ failed
  fa : failed ≤ p.fa
  mf : 0 < p.mf → p.st ≠ 5 → p.fa < p.mf
  r2 : p.st = 2 → ran = false
  wa : p.de = true → p.pe = false → ran = true → p.st = 1 ∨ p.st = 4 → p.wa = true → ask = true
/-- behind what is due -/
structure Gm (p q : Pol) (k : Int) (m : Bool) (s : Gs) (l : List Int) : Prop where
  len : l.length ≤ 1
  at_ : s.at_ = q.st ∨ (s.at_ = 1 ∧ q.st = 0)
  r2 : q.st = 2 → s.ran = false
  wa : q.de = true → q.pe = false → s.ran = true → q.st = 1 ∨ q.st = 4 → q.wa = true → s.ask = true
  asks : asksB k m = true → s.ask = true
  two : p.st = 2 → q.st = 2
  five : q.st = 5 ↔ p.st = 5
  same : q.fa = p.fa ∧ q.mf = p.mf ∧ q.de = p.de ∧ q.pe = p.pe
theorem due_gm {p : Pol} {failed : Int} {ask ran : Bool} (k : Int) (m : Bool) (t : Int) (h : Gi p failed ask ran) (ask2 : Bool) (ha : ask2 = ((if k = 5 ∧ p.st = 3 then false else ask) || asksB k m)) :
    ∃ s, gscan p.de p.pe k m ⟨p.st, ask2, ran⟩ ({ p with now := t } : Pol).due.2 = some s ∧ Gm p ({ p with now := t } : Pol).due.1 k m s ({ p with now := t } : Pol).due.2 := by
  obtain ⟨f0, fa, mf, r2, wa⟩ := h
  have hask : asksB k m = true → ask2 = true := fun hh => by rw [ha, hh]; simp
  have hka : k = 5 → asksB k m = false := by intro hk; subst hk; simp [asksB]
  have hw : p.de = true → p.pe = false → ran = true → p.st = 1 ∨ p.st = 4 → p.wa = true → ask2 = true := by
    intro h1 h2 h3 h4 h5
    rw [ha, if_neg (by omega), wa h1 h2 h3 h4 h5]
    rfl
  have none_ : ∀ q : Pol, (q.st = p.st ∨ (p.st = 1 ∧ q.st = 0)) → q.wa = p.wa → q.fa = p.fa → q.mf = p.mf → q.de = p.de → q.pe = p.pe → ∃ s, gscan p.de p.pe k m ⟨p.st, ask2, ran⟩ (q, ([] : List Int)).2 = some s ∧ Gm p (q, ([] : List Int)).1 k m s (q, ([] : List Int)).2 := by
    intro q e1 e2 e3 e4 e5 e6
    refine ⟨_, rfl, by simp, ?_, fun hs => ?_, fun g1 g2 g3 g4 g5 => ?_, hask, fun hs => ?_, ?_, ⟨e3, e4, e5, e6⟩⟩
    · show p.st = q.st ∨ (p.st = 1 ∧ q.st = 0)
      omega
    · have hs' : q.st = 2 := hs
      exact r2 (by omega)
    · have g4' : q.st = 1 ∨ q.st = 4 := g4
      exact hw (by rw [← e5]; exact g1) (by rw [← e6]; exact g2) g3 (by omega) (by rw [← e2]; exact g5)
    · show q.st = 2
      omega
    · show q.st = 5 ↔ p.st = 5
      omega
  unfold Pol.due
  by_cases s3 : p.st = 3
  · rw [if_pos s3]
    unfold Pol.due1
    split
    · exact none_ _ (.inl rfl) rfl rfl rfl rfl rfl
    · refine ⟨⟨4, asksB k m, ran⟩, by simp [Pol.hang, gscan, gmv, s3], by simp [Pol.hang], .inl rfl, fun hs => absurd hs (by simp [Pol.hang]), fun _ _ _ _ hh => absurd hh (by simp [Pol.hang]), fun hh => hh, fun hs => by omega, (by simp only [Pol.hang]; omega), ⟨rfl, rfl, rfl, rfl⟩⟩
  · rw [if_neg s3]
    by_cases s1 : p.st = 1
    · rw [if_pos s1]
      unfold Pol.due2
      split
      · unfold Pol.held
        split
        · rename_i hwa
          have hnd : ¬ (p.de = true ∧ p.pe = false ∧ ran = true ∧ ask2 = false) := by
            rintro ⟨g1, g2, g3, g4⟩
            rw [hw g1 g2 g3 (.inl s1) hwa] at g4
            cases g4
          refine ⟨⟨2, ask2, false⟩, ?_, by simp [Pol.dial], .inl rfl, fun _ => rfl, fun _ _ hh => absurd hh (by simp), hask, fun hs => by omega, (by simp only [Pol.dial]; omega), ⟨rfl, rfl, rfl, rfl⟩⟩
          exact gscan_step (gmv_dial (fun _ => .inr (.inl s1)) (fun _ => by simp only; omega) hnd)
        · exact none_ _ (.inr ⟨s1, rfl⟩) rfl rfl rfl rfl rfl
      · exact none_ _ (.inl rfl) rfl rfl rfl rfl rfl
    · rw [if_neg s1]
      exact none_ _ (.inl rfl) rfl rfl rfl rfl rfl
/-- a call's own part -/
structure DoG (q : Pol) (k : Int) (m : Bool) (s : Gs) (r : Pol × List Int) : Prop where
  len : r.2.length ≤ 1
  scan : ∃ s', gscan q.de q.pe k m s r.2 = some s' ∧ (r.1.st = 2 → s'.ran = false) ∧ (q.de = true → q.pe = false → s'.ran = true → r.1.st = 1 ∨ r.1.st = 4 → r.1.wa = true → s'.ask = true)
  fa : 0 ≤ r.1.fa ∧ (k = 2 ∨ r.1.st = 3 ∨ r.1.fa = q.fa ∨ (q.st = 2 ∧ r.1.fa = min (q.fa + 1) 2147483647))
  fail : k = 5 → q.st = 2 → r.1.fa = min (q.fa + 1) 2147483647
  mf : 0 < q.mf → r.1.st ≠ 5 → r.1.fa < q.mf
  same : r.1.mf = q.mf ∧ r.1.de = q.de ∧ r.1.pe = q.pe
def SameG (a q : Pol) : Prop := a.mf = q.mf ∧ a.de = q.de ∧ a.pe = q.pe
set_option maxHeartbeats 1000000 in
theorem do_gm {p q : Pol} {k : Int} {m : Bool} {s : Gs} {l : List Int} (h : Gm p q k m s l) (h0 : 0 ≤ q.fa) (hmf : 0 < q.mf → q.st ≠ 5 → q.fa < q.mf) : DoG q k m s (mv k m q) := by
  obtain ⟨c1, c2, c3, c4, c5, c6, c7, c8⟩ := h
  -- nothing is done
  have mk0 : ∀ r : Pol, SameG r q → (r.st = 2 → s.ran = false) → (q.de = true → q.pe = false → s.ran = true → r.st = 1 ∨ r.st = 4 → r.wa = true → s.ask = true) → (0 ≤ r.fa ∧ (k = 2 ∨ r.st = 3 ∨ r.fa = q.fa ∨ (q.st = 2 ∧ r.fa = min (q.fa + 1) 2147483647))) → (k = 5 → q.st = 2 → r.fa = min (q.fa + 1) 2147483647) → (0 < q.mf → r.st ≠ 5 → r.fa < q.mf) → DoG q k m s (r, []) := by
    intro r e1 e2 e3 e4 e5 e6
    exact ⟨by simp, ⟨s, rfl, e2, e3⟩, e4, e5, e6, e1⟩
  have mk1 : ∀ r : Pol, SameG r q → r.st = 2 → (k ≠ 5 → q.st = 0 ∨ q.st = 1 ∨ q.st = 5) → (k = 5 → q.st ≠ 0 ∧ q.st ≠ 5 ∧ s.at_ ≠ 0) → ¬ (q.de = true ∧ q.pe = false ∧ s.ran = true ∧ s.ask = false) → (0 ≤ r.fa ∧ (k = 2 ∨ r.st = 3 ∨ r.fa = q.fa ∨ (q.st = 2 ∧ r.fa = min (q.fa + 1) 2147483647))) → (k = 5 → q.st = 2 → r.fa = min (q.fa + 1) 2147483647) → (0 < q.mf → r.st ≠ 5 → r.fa < q.mf) → DoG q k m s (r, [1]) := by
    intro r e1 e2 e3 e3b e4 e5 e6 e7
    refine ⟨by simp, ⟨⟨2, s.ask, false⟩, ?_, fun _ => rfl, fun _ _ hh => absurd hh (by simp)⟩, e5, e6, e7, e1⟩
    exact gscan_step (gmv_dial (fun hk => by have := e3 hk; omega) (fun hk => by have := e3b hk; omega) e4)
  have mk2 : ∀ r : Pol, SameG r q → r.st = 4 → r.wa = false → r.fa = q.fa → q.st = 2 ∨ q.st = 3 → k ≠ 5 → DoG q k m s (r, [2]) := by
    intro r e1 e2 e3 e4 e5 e6
    refine ⟨by simp, ⟨⟨4, asksB k m, s.ran⟩, ?_, fun hs => absurd hs (by simp [e2]), fun _ _ _ _ hh => by rw [e3] at hh; cases hh⟩, ⟨by simp only; omega, .inr (.inr (.inl e4))⟩, fun hk => absurd hk e6, fun h1 _ => by have := hmf h1 (by omega); simp only; omega, e1⟩
    exact gscan_step (gmv_hang (by omega))
  have keep : ¬ (k = 5 ∧ q.st = 2) → DoG q k m s (q, []) := fun h1 =>
    mk0 q ⟨rfl, rfl, rfl⟩ c3 c4 ⟨h0, .inr (.inr (.inl rfl))⟩ (fun a b => absurd ⟨a, b⟩ h1) hmf
  unfold mv
  by_cases h0' : k = 0
  · subst h0'
    rw [if_pos rfl]
    split
    · rename_i hs
      unfold Pol.start1
      split
      · exact keep (by omega)
      · rename_i hde
        exact mk1 _ ⟨rfl, rfl, rfl⟩ rfl (fun _ => .inl hs) (fun hk => by omega) (fun hh => hde hh.1) ⟨h0, .inr (.inr (.inl rfl))⟩ (fun hk => by omega) (fun h1 _ => hmf h1 (by omega))
    · exact keep (by omega)
  rw [if_neg h0']
  by_cases h1 : k = 1
  · subst h1
    rw [if_pos rfl]
    cases m
    · exact keep (by omega)
    · rw [if_pos rfl]
      have hA : s.ask = true := c5 (by simp [asksB])
      split
      · rename_i hs
        exact mk0 _ ⟨rfl, rfl, rfl⟩ c3 c4 ⟨h0, .inr (.inr (.inl rfl))⟩ (fun hk => by omega) hmf
      · split
        · rename_i hs3 hs
          unfold Pol.packet2
          split
          · split
            · rename_i hs0
              exact mk1 _ ⟨rfl, rfl, rfl⟩ rfl (fun _ => .inl hs0) (fun hk => by omega) (fun hh => by rw [hA] at hh; cases hh.2.2.2) ⟨h0, .inr (.inr (.inl rfl))⟩ (fun hk => by omega) (fun h1 _ => hmf h1 (by omega))
            · exact mk0 _ ⟨rfl, rfl, rfl⟩ c3 (fun _ _ _ _ _ => hA) ⟨h0, .inr (.inr (.inl rfl))⟩ (fun hk => by omega) hmf
          · exact keep (by omega)
        · exact keep (by omega)
  rw [if_neg h1]
  by_cases h2 : k = 2
  · subst h2
    rw [if_pos rfl]
    have hA : s.ask = true := c5 (by simp [asksB])
    have hnd : ¬ (q.de = true ∧ q.pe = false ∧ s.ran = true ∧ s.ask = false) := fun hh => by rw [hA] at hh; cases hh.2.2.2
    split
    · rename_i hs
      unfold Pol.up1
      split
      · rename_i hs0
        exact mk1 _ ⟨rfl, rfl, rfl⟩ rfl (fun _ => .inl hs0) (fun hk => by omega) hnd ⟨Int.le_refl 0, .inl rfl⟩ (fun hk => by omega) (fun h1 _ => h1)
      · split
        · rename_i hs5
          split
          · unfold Pol.held
            rw [if_pos rfl]
            exact mk1 _ ⟨rfl, rfl, rfl⟩ rfl (fun _ => .inr (.inr hs5)) (fun hk => by omega) hnd ⟨Int.le_refl 0, .inl rfl⟩ (fun hk => by omega) (fun h1 _ => h1)
          · exact mk0 _ ⟨rfl, rfl, rfl⟩ (fun hs => absurd hs (by simp)) (fun _ _ _ _ _ => hA) ⟨Int.le_refl 0, .inl rfl⟩ (fun hk => by omega) (fun h1 _ => h1)
        · exact mk0 _ ⟨rfl, rfl, rfl⟩ c3 (fun _ _ _ _ _ => hA) ⟨Int.le_refl 0, .inl rfl⟩ (fun hk => by omega) (fun h1 _ => h1)
    · exact keep (by omega)
  rw [if_neg h2]
  by_cases h3 : k = 3
  · subst h3
    rw [if_pos rfl]
    split
    · rename_i hs
      exact mk2 _ ⟨rfl, rfl, rfl⟩ rfl rfl rfl hs (by omega)
    · split
      · exact mk0 _ ⟨rfl, rfl, rfl⟩ c3 (fun _ _ _ _ hh => absurd hh (by simp [Pol.down2])) ⟨h0, .inr (.inr (.inl rfl))⟩ (fun hk => by omega) hmf
      · exact keep (by omega)
  rw [if_neg h3]
  by_cases h4 : k = 4
  · subst h4
    rw [if_pos rfl]
    split
    · rename_i hs
      exact mk0 _ ⟨rfl, rfl, rfl⟩ (fun hs => absurd hs (by simp [Pol.lup1])) (fun _ _ _ hh => absurd hh (by simp [Pol.lup1])) ⟨Int.le_refl 0, .inr (.inl rfl)⟩ (fun hk => by omega) (fun h1 _ => h1)
    · exact keep (by omega)
  rw [if_neg h4]
  by_cases h5 : k = 5
  · subst h5
    rw [if_pos rfl]
    have fin5 : ∀ a : Pol, SameG a q → (q.st = 2 ∨ q.st = 3 ∨ q.st = 4) → (q.de = true → q.pe = false → s.ran = true → a.wa = true → s.ask = true) → (0 ≤ a.fa ∧ (a.fa = q.fa ∨ (q.st = 2 ∧ a.fa = min (q.fa + 1) 2147483647))) → (q.st = 2 → a.fa = min (q.fa + 1) 2147483647) → (0 < q.mf → a.fa < q.mf) → DoG q 5 m s a.fin := by
      intro a ha hst hwa hfa hf2 hm
      have hfa' : 0 ≤ a.fa ∧ ((5 : Int) = 2 ∨ (2 : Int) = 3 ∨ a.fa = q.fa ∨ (q.st = 2 ∧ a.fa = min (q.fa + 1) 2147483647)) := ⟨hfa.1, .inr (.inr hfa.2)⟩
      have hnd : a.wa = true → ¬ (q.de = true ∧ q.pe = false ∧ s.ran = true ∧ s.ask = false) := fun hw hh => by have := hwa hh.1 hh.2.1 hh.2.2.1 hw; rw [this] at hh; cases hh.2.2.2
      unfold Pol.fin
      split
      · unfold Pol.held
        split
        · rename_i hw
          exact mk1 _ ha rfl (fun hk => absurd rfl hk) (fun _ => by omega) (hnd hw) hfa' (fun _ => hf2) (fun h1 _ => hm h1)
        · rename_i hw
          exact mk0 _ ha (fun hh => absurd hh (by simp)) (fun _ _ _ hh => absurd hh (by simp)) ⟨hfa.1, by simp only; omega⟩ (fun _ => hf2) (fun h1 _ => hm h1)
      · exact mk0 _ ha (fun hh => absurd hh (by simp)) (fun g1 g2 g3 _ g5 => hwa g1 g2 g3 g5) ⟨hfa.1, by simp only; omega⟩ (fun _ => hf2) (fun h1 _ => hm h1)
    split
    · rename_i hst
      unfold Pol.ldown1
      split
      · rename_i hs2
        have hff : 0 ≤ q.failed.fa := by simp only [Pol.failed]; omega
        split
        · exact mk0 _ ⟨rfl, rfl, rfl⟩ (fun hh => absurd hh (by simp)) (fun _ _ _ hh => absurd hh (by simp)) ⟨hff, .inr (.inr (.inr ⟨hs2, rfl⟩))⟩ (fun _ _ => rfl) (fun _ hh => absurd rfl hh)
        · rename_i hnm
          exact fin5 _ ⟨rfl, rfl, rfl⟩ hst (fun _ _ g3 _ => by rw [c3 hs2] at g3; cases g3) ⟨hff, .inr ⟨hs2, rfl⟩⟩ (fun _ => rfl) (fun h1 => by omega)
      · split
        · rename_i hs2 hs3
          exact fin5 _ ⟨rfl, rfl, rfl⟩ hst (fun _ g2 _ g4 => by simp only at g4; rw [g2] at g4; cases g4) ⟨h0, .inl rfl⟩ (fun hh => by omega) (fun h1 => hmf h1 (by omega))
        · split
          · rename_i hs2 hs3 hs4
            exact fin5 _ ⟨rfl, rfl, rfl⟩ hst (fun g1 g2 g3 g4 => c4 g1 g2 g3 (.inr hs4) (by simp only [g2, Bool.false_and, Bool.or_false] at g4; exact g4)) ⟨h0, .inl rfl⟩ (fun hh => by omega) (fun h1 => hmf h1 (by omega))
          · omega
    · exact keep (by omega)
  rw [if_neg h5]
  exact keep (fun hh => h5 hh.1)
/-- one round -/
structure GiOut (p : Pol) (k : Int) (m : Bool) (failed : Int) (ask ran : Bool) (r : Pol × List Int × Int) : Prop where
  ok : r.2.2 = 0
  len : r.2.1.length ≤ 2
  scan : ∃ s, gscan p.de p.pe k m ⟨p.st, (if k = 5 ∧ p.st = 3 then false else ask) || asksB k m, ran⟩ r.2.1 = some s ∧
    Gi r.1 (if r.1.st = 3 then 0 else if k = 5 ∧ p.st = 2 then failed + 1 else if k = 2 then 0 else failed) s.ask (if r.1.st = 3 then true else s.ran)
  fail : k = 5 → p.st = 2 → 0 < p.mf → ¬ (p.mf < failed + 1) ∧ (failed + 1 = p.mf → r.1.st = 5)
  same : r.1.mf = p.mf ∧ r.1.de = p.de ∧ r.1.pe = p.pe
theorem gives_ok (k : Int) (m : Bool) {p : Pol} {t : Int} (h1 : 0 ≤ t) (h2 : t ≤ 1099511627776) (h3 : p.now ≤ t) :
    atC (csOf k m) t p = ((mv k m ({ p with now := t } : Pol).due.1).1, ({ p with now := t } : Pol).due.2 ++ (mv k m ({ p with now := t } : Pol).due.1).2, 0) := by
  unfold atC
  rw [if_neg (by omega)]
  simp only [does_mv]
theorem gi_round {p : Pol} {failed : Int} {ask ran : Bool} (k : Int) (m : Bool) {t : Int} (h : Gi p failed ask ran) (hf : failed ≤ 300) (h1 : 0 ≤ t) (h2 : t ≤ 2000000) (h3 : p.now ≤ t) : GiOut p k m failed ask ran (atC (csOf k m) t p) := by
  rw [gives_ok k m h1 (by omega) h3]
  obtain ⟨s, hs, hg⟩ := due_gm k m t h _ rfl
  obtain ⟨f0, fa, mf, r2, wa⟩ := h
  generalize ({ p with now := t } : Pol).due = d at *
  obtain ⟨q, l1⟩ := d
  simp only at hs hg
  simp only
  obtain ⟨b1, b2, b3, b4, b5, b6, b7, b8, b9, b10, b11⟩ := hg
  have hd := do_gm (p := p) (k := k) (m := m) (s := s) (l := l1) ⟨b1, b2, b3, b4, b5, b6, b7, b8, b9, b10, b11⟩ (by omega) (fun a b => by rw [b8]; have := mf (by omega) (by omega); omega)
  generalize mv k m q = r at *
  obtain ⟨q2, l2⟩ := r
  obtain ⟨d1, ⟨s', d2, d3, d4⟩, ⟨d5, d6⟩, d7, d8, d9⟩ := hd
  simp only at d1 d2 d3 d4 d5 d6 d7 d8 d9
  refine ⟨rfl, by simp only [List.length_append]; omega, ⟨s', ?_, ?_, ?_, ?_, ?_, ?_⟩, ?_, ?_⟩
  · rw [gscan_append hs, ← b10, ← b11]
    exact d2
  · simp only
    split
    · omega
    · split
      · omega
      · split <;> omega
  · simp only
    split
    · omega
    · split
      · rename_i g1 g2
        have := d7 g2.1 (b6 g2.2)
        omega
      · split
        · omega
        · rename_i g1 g2 g3
          rcases d6 with g | g | g | ⟨g4, g⟩ <;> omega
  · intro g1 g2
    simp only at g1 g2 ⊢
    have := d8 (by omega) g2
    omega
  · intro g1
    simp only at g1 ⊢
    rw [if_neg (by omega)]
    exact d3 g1
  · intro g1 g2 g3 g4 g5
    simp only at g1 g2 g3 g4 g5 ⊢
    rw [if_neg (by omega)] at g3
    exact d4 (by rw [← d9.2.1]; exact g1) (by rw [← d9.2.2]; exact g2) g3 g4 g5
  · intro g1 g2 g3
    have e1 := d7 g1 (b6 g2)
    have e2 := mf g3 (by omega)
    simp only
    refine ⟨by omega, fun g4 => ?_⟩
    by_cases g5 : q2.st = 5
    · exact g5
    · have := d8 (by omega) g5
      omega
  · exact ⟨by simp only; omega, by simp only; rw [d9.2.1, b10], by simp only; rw [d9.2.2, b11]⟩
end Go.Proofs.Ytibdaonhldlmbaa.F
