import Derived.Test.YtibdaonhldlmbaaE0
import Derived.Test.YtibdaonhldlmbaaE1
set_option linter.unusedVariables false
set_option linter.unusedSimpArgs false
namespace Go.Proofs.Ytibdaonhldlmbaa.F
open Go.RowKit
/-- a call's own part keeps what is known -/
structure DoT (q : Pol) (k : Int) (m : Bool) (t b l e : Int) (r : Pol × List Int) : Prop where
  dial : 1 ∈ r.2 → ¬ (0 ≤ e ∧ t - e < q.ho)
  nohang : k ≠ 3 → 2 ∉ r.2
  run : r.1.st = 3 → (q.st = 2 ∧ k = 4 ∧ r.1.up = t ∧ r.1.la = t) ∨ (q.st = 3 ∧ r.1.up = q.up ∧ r.1.la = if k = 1 ∧ m = true then t else q.la)
  same : r.1.ho = q.ho ∧ r.1.id = q.id ∧ r.1.se = q.se ∧ r.1.now = t
  bnd : (0 ≤ r.1.up ∧ r.1.up ≤ t) ∧ (0 ≤ r.1.la ∧ r.1.la ≤ t) ∧ (r.1.en = q.en ∨ r.1.en = t)
  en5 : k = 5 → 2 ≤ q.st → q.st ≤ 4 → r.1.en = t
  rest : r.1.st = 0 → q.st = 0 ∨ q.ho = 0
def SameT (a q : Pol) : Prop := a.up = q.up ∧ a.la = q.la ∧ a.ho = q.ho ∧ a.id = q.id ∧ a.se = q.se ∧ a.now = q.now
theorem do_ti {q : Pol} {t b l e : Int} (k : Int) (m : Bool) (h : Ti q t b l e) (hn : q.now = t) : DoT q k m t b l e (mv k m q) := by
  obtain ⟨c1, c2, c3, c4, c5, c6, c7, c8, c9, c10, c11, c12, c13, c14, c15, c16⟩ := h
  have nd : q.st = 0 → ¬ (0 ≤ e ∧ t - e < q.ho) := by
    rintro hs ⟨q1, q2⟩
    have := c16 hs q1
    omega
  have mk : ∀ r : Pol × List Int, (r.1.st = 3 → q.st = 3 ∧ ¬ (k = 1 ∧ m = true)) → SameT r.1 q → (r.1.en = q.en ∨ r.1.en = t) → (1 ∈ r.2 → ¬ (0 ≤ e ∧ t - e < q.ho)) → (k ≠ 3 → 2 ∉ r.2) → (k = 5 → 2 ≤ q.st → q.st ≤ 4 → r.1.en = t) → (r.1.st = 0 → q.st = 0 ∨ q.ho = 0) → DoT q k m t b l e r := by
    rintro r h1 ⟨e1, e2, e3, e4, e5, e6⟩ h2 h3 h4 h5 h6
    refine ⟨h3, h4, fun hs => .inr ⟨(h1 hs).1, e1, ?_⟩, ⟨e3, e4, e5, e6.trans hn⟩, ⟨by omega, by omega, h2⟩, h5, h6⟩
    rw [if_neg (h1 hs).2]
    exact e2
  have keep : ¬ (q.st = 3 ∧ k = 1 ∧ m = true) → ¬ (k = 5 ∧ 2 ≤ q.st ∧ q.st ≤ 4) → DoT q k m t b l e (q, []) := fun h1 h2 =>
    mk _ (fun hs => ⟨hs, fun hh => h1 ⟨hs, hh⟩⟩) ⟨rfl, rfl, rfl, rfl, rfl, rfl⟩ (.inl rfl) (fun hm => by simp at hm) (fun _ => by simp) (fun a b c => absurd ⟨a, b, c⟩ h2) (fun hs => .inl hs)
  unfold mv
  by_cases h0 : k = 0
  · subst h0
    rw [if_pos rfl]
    split
    · rename_i hs
      unfold Pol.start1
      split
      · exact keep (by omega) (by omega)
      · exact mk _ (fun hh => absurd hh (by simp [Pol.want, Pol.dial])) ⟨rfl, rfl, rfl, rfl, rfl, rfl⟩ (.inl rfl) (fun _ => nd hs) (fun _ => by simp [Pol.want, Pol.dial]) (fun a => by omega) (fun hh => absurd hh (by simp [Pol.want, Pol.dial]))
    · exact keep (by omega) (by omega)
  rw [if_neg h0]
  by_cases h1 : k = 1
  · subst h1
    rw [if_pos rfl]
    cases m
    · exact keep (by simp) (by omega)
    · rw [if_pos rfl]
      split
      · rename_i hs
        exact ⟨fun hm => by simp [Pol.packet1] at hm, fun _ => by simp [Pol.packet1], fun _ => .inr ⟨hs, rfl, hn⟩, ⟨rfl, rfl, rfl, hn⟩, ⟨c5, ⟨c4, c1⟩, .inl rfl⟩, fun a => by omega, fun hh => .inl hh⟩
      · rename_i hs3
        split
        · rename_i hs
          unfold Pol.packet2
          split
          · split
            · rename_i hs0
              exact mk _ (fun hh => absurd hh (by simp [Pol.want, Pol.dial])) ⟨rfl, rfl, rfl, rfl, rfl, rfl⟩ (.inl rfl) (fun _ => nd hs0) (fun _ => by simp [Pol.want, Pol.dial]) (fun a => by omega) (fun hh => absurd hh (by simp [Pol.want, Pol.dial]))
            · exact mk _ (fun hh => absurd hh hs3) ⟨rfl, rfl, rfl, rfl, rfl, rfl⟩ (.inl rfl) (fun hm => by simp at hm) (fun _ => by simp) (fun a => by omega) (fun hh => .inl hh)
          · exact keep (fun hh => hs3 hh.1) (by omega)
        · exact keep (fun hh => hs3 hh.1) (by omega)
  rw [if_neg h1]
  by_cases h2 : k = 2
  · subst h2
    rw [if_pos rfl]
    split
    · rename_i hs
      unfold Pol.up1
      split
      · rename_i hs0
        exact mk _ (fun hh => absurd hh (by simp [Pol.dial])) ⟨rfl, rfl, rfl, rfl, rfl, rfl⟩ (.inl rfl) (fun _ => nd hs0) (fun _ => by simp [Pol.dial]) (fun a => by omega) (fun hh => absurd hh (by simp [Pol.dial]))
      · split
        · split
          · rename_i ho
            have hov := ovr_eq (n := t) (b := q.en) (s := q.ho) (by omega) (by omega)
            rw [hn, hov] at ho
            have hle : q.ho ≤ t - q.en := by simpa using ho
            unfold Pol.held
            rw [if_pos rfl]
            exact mk _ (fun hh => absurd hh (by simp [Pol.dial])) ⟨rfl, rfl, rfl, rfl, rfl, rfl⟩ (.inl rfl) (fun _ ⟨q1, q2⟩ => by have := c15 q1; omega) (fun _ => by simp [Pol.dial]) (fun a => by omega) (fun hh => absurd hh (by simp [Pol.dial]))
          · exact mk _ (fun hh => absurd hh (by simp)) ⟨rfl, rfl, rfl, rfl, rfl, rfl⟩ (.inl rfl) (fun hm => by simp at hm) (fun _ => by simp) (fun a => by omega) (fun hh => absurd hh (by simp))
        · exact mk _ (fun hh => absurd hh (by simp only; omega)) ⟨rfl, rfl, rfl, rfl, rfl, rfl⟩ (.inl rfl) (fun hm => by simp at hm) (fun _ => by simp) (fun a => by omega) (fun hh => .inl hh)
    · exact keep (by omega) (by omega)
  rw [if_neg h2]
  by_cases h3 : k = 3
  · subst h3
    rw [if_pos rfl]
    split
    · exact mk _ (fun hh => absurd hh (by simp [Pol.down1, Pol.hang])) ⟨rfl, rfl, rfl, rfl, rfl, rfl⟩ (.inl rfl) (fun hm => by simp [Pol.down1, Pol.hang] at hm) (fun hh => absurd rfl hh) (fun a => by omega) (fun hh => absurd hh (by simp [Pol.down1, Pol.hang]))
    · split
      · exact mk _ (fun hh => absurd hh (by simp only [Pol.down2]; omega)) ⟨rfl, rfl, rfl, rfl, rfl, rfl⟩ (.inl rfl) (fun hm => by simp [Pol.down2] at hm) (fun hh => absurd rfl hh) (fun a => by omega) (fun hh => .inl hh)
      · exact keep (by omega) (by omega)
  rw [if_neg h3]
  by_cases h4 : k = 4
  · subst h4
    rw [if_pos rfl]
    split
    · rename_i hs
      exact ⟨fun hm => by simp [Pol.lup1] at hm, fun _ => by simp [Pol.lup1], fun _ => .inl ⟨hs, rfl, hn, hn⟩, ⟨rfl, rfl, rfl, hn⟩, ⟨⟨c4, c1⟩, ⟨c4, c1⟩, .inl rfl⟩, fun a => by omega, fun hh => absurd hh (by simp [Pol.lup1])⟩
    · exact keep (by omega) (by omega)
  rw [if_neg h4]
  by_cases h5 : k = 5
  · subst h5
    rw [if_pos rfl]
    have fin5 : ∀ a : Pol, SameT a q → a.en = t → DoT q 5 m t b l e a.fin := by
      intro a ha hae
      unfold Pol.fin
      split
      · rename_i hz
        have hq0 : q.ho = 0 := by rw [← ha.2.2.1]; exact hz
        unfold Pol.held
        split
        · exact mk _ (fun hh => absurd hh (by simp [Pol.dial])) ha (.inr hae) (fun _ ⟨q1, q2⟩ => by omega) (fun _ => by simp [Pol.dial]) (fun _ _ _ => hae) (fun hh => absurd hh (by simp [Pol.dial]))
        · exact mk _ (fun hh => absurd hh (by simp)) ha (.inr hae) (fun hm => by simp at hm) (fun _ => by simp) (fun _ _ _ => hae) (fun _ => .inr hq0)
      · exact mk _ (fun hh => absurd hh (by simp)) ha (.inr hae) (fun hm => by simp at hm) (fun _ => by simp) (fun _ _ _ => hae) (fun hh => absurd hh (by simp))
    split
    · unfold Pol.ldown1
      split
      · split
        · exact mk _ (fun hh => absurd hh (by simp)) ⟨rfl, rfl, rfl, rfl, rfl, rfl⟩ (.inr hn) (fun hm => by simp at hm) (fun _ => by simp) (fun _ _ _ => hn) (fun hh => absurd hh (by simp))
        · exact fin5 _ ⟨rfl, rfl, rfl, rfl, rfl, rfl⟩ hn
      · split
        · exact fin5 _ ⟨rfl, rfl, rfl, rfl, rfl, rfl⟩ hn
        · split
          · exact fin5 _ ⟨rfl, rfl, rfl, rfl, rfl, rfl⟩ hn
          · exact fin5 _ ⟨rfl, rfl, rfl, rfl, rfl, rfl⟩ hn
    · exact keep (by omega) (by omega)
  rw [if_neg h5]
  exact keep (fun hh => h1 hh.2.1) (fun hh => h5 hh.1)
theorem atC_ok (k : Int) (m : Bool) {p : Pol} {t : Int} (h1 : 0 ≤ t) (h2 : t ≤ 1099511627776) (h3 : p.now ≤ t) :
    atC (csOf k m) t p = ((mv k m ({ p with now := t } : Pol).due.1).1, ({ p with now := t } : Pol).due.2 ++ (mv k m ({ p with now := t } : Pol).due.1).2, 0) := by
  unfold atC
  rw [if_neg (by omega)]
  simp only [does_mv]
set_option maxHeartbeats 2000000 in
theorem ti_round {p : Pol} {now t b l e : Int} (k : Int) (m : Bool) (h : Ti p now b l e) (h1 : now ≤ t) (h2 : t ≤ 2000000) : TiOut p k m t now b l e (atC (csOf k m) t p) := by
  have hc := h.clock
  have hlo := h.lo
  rw [atC_ok k m (by omega) (by omega) (by omega)]
  have hd := due_ti h h1 h2
  have hho := h.ho
  generalize ({ p with now := t } : Pol).due = d at *
  obtain ⟨q, l1⟩ := d
  obtain ⟨ti, d2, d3, ⟨d4, d4b, d4c⟩, d5, d6, d7, d8⟩ := hd
  simp only at ti d2 d3 d4 d4b d4c d5 d6 d7 d8
  have hm := do_ti k m ti d2
  generalize mv k m q = r at *
  obtain ⟨q2, l2⟩ := r
  obtain ⟨m1, m2, m3, ⟨m4, m4b, m4c, m4d⟩, ⟨m5, m5b, m5c⟩, m6, m7⟩ := hm
  simp only at m1 m2 m3 m4 m4b m4c m4d m5 m5b m5c m6 m7
  obtain ⟨c1, c2, c3, c4, c5, c6, c7, c8, c9, c10, c11, c12, c13, c14, c15, c16⟩ := ti
  have hst : p.st = 3 ∨ p.st = 1 ∨ (p.st ≠ 3 ∧ p.st ≠ 1) := by omega
  have q3 : q.st = 3 → p.st = 3 := by
    intro hq
    rcases hst with hs | hs | ⟨hs, hs1⟩
    · exact hs
    · exact absurd hq (d8 hs).1
    · have := (d7 hs hs1).1; omega
  refine ⟨rfl, fun hs => ⟨fun ho => ?_, fun ho hk x hx => ?_⟩, fun hm => ?_, ?_⟩
  · obtain ⟨e1, e2⟩ := d5 hs ho
    refine ⟨⟨l2, by simp only [e1]; rfl⟩, fun h3 => ?_⟩
    rcases m3 h3 with hh | hh <;> omega
  · obtain ⟨e1, e2⟩ := d6 hs ho
    simp only [e1, List.nil_append] at hx
    exact m2 hk (by rw [hx]; simp)
  · simp only [List.mem_append] at hm
    rcases hm with hm | hm
    · exact d3 hm
    · have := m1 hm
      rw [d4] at this
      exact this
  · have hst2 : 2 ≤ p.st → p.st ≤ 4 → 2 ≤ q.st ∧ q.st ≤ 4 := by
      intro g1 g2
      rcases hst with hs | hs | ⟨hs, hs1⟩
      · cases ho : overT p t b l
        · have := (d6 hs ho).2; omega
        · have := (d5 hs ho).2; omega
      · omega
      · have := (d7 hs hs1).1; omega
    have key : ∀ b' l' e' : Int, (0 ≤ b' ∧ b' ≤ t) → (0 ≤ l' ∧ l' ≤ t) → (e' = e ∨ (e' = t ∧ k = 5 ∧ 2 ≤ p.st ∧ p.st ≤ 4)) → (q2.st = 3 → b' = q2.up ∧ l' = q2.la) → Ti q2 t b' l' e' := by
      intro b' l' e' hb hl he hr
      refine ⟨by omega, by omega, by omega, by omega, m5, m5b, by omega, by omega, by omega, by omega, hr, hb, hl, by omega, fun g1 => ?_, fun g1 g2 => ?_⟩
      · rcases he with rfl | ⟨rfl, g3, g4, g5⟩
        · have := c15 g1
          omega
        · have := m6 g3 (hst2 g4 g5).1 (hst2 g4 g5).2
          omega
      · rcases he with rfl | ⟨rfl, g3, g4, g5⟩
        · rcases m7 g1 with g | g
          · have := c16 g g2
            omega
          · omega
        · rcases m7 g1 with g | g
          · have := (hst2 g4 g5).1; omega
          · omega
    by_cases a1 : k = 4 ∧ p.st ≠ 3 ∧ q2.st = 3
    · simp only [if_pos a1]
      refine key _ _ _ (by omega) (by omega) (.inl rfl) (fun g => ?_)
      rcases m3 g with ⟨-, -, g2, g3⟩ | ⟨g1, -⟩
      · omega
      · exact absurd (q3 g1) a1.2.1
    · simp only [if_neg a1]
      by_cases a2 : k = 1 ∧ m = true ∧ p.st = 3
      · simp only [if_pos a2]
        refine key _ _ _ (by omega) (by omega) (.inl rfl) (fun g => ?_)
        rcases m3 g with ⟨-, g1, -⟩ | ⟨g1, g2, g3⟩
        · omega
        · rw [if_pos ⟨a2.1, a2.2.1⟩] at g3
          have := c11 g1
          omega
      · simp only [if_neg a2]
        have hrun : q2.st = 3 → b = q2.up ∧ l = q2.la := by
          intro g
          rcases m3 g with ⟨g1, g2, g3⟩ | ⟨g1, g2, g3⟩
          · exfalso
            refine a1 ⟨g2, fun hp => ?_, g⟩
            have h0 := hp
            cases ho : overT p t b l
            · have := (d6 hp ho).2; omega
            · have := (d5 hp ho).2; omega
          · rw [if_neg (fun hh => a2 ⟨hh.1, hh.2, q3 g1⟩)] at g3
            have := c11 g1
            omega
        by_cases a3 : k = 5 ∧ 2 ≤ p.st ∧ p.st ≤ 4
        · simp only [if_pos a3]
          exact key _ _ _ (by omega) (by omega) (.inr ⟨rfl, a3⟩) hrun
        · simp only [if_neg a3]
          exact key _ _ _ (by omega) (by omega) (.inl rfl) hrun
end Go.Proofs.Ytibdaonhldlmbaa.F
