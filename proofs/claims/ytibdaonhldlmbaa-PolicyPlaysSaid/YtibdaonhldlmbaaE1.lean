import Derived.Test.YtibdaonhldlmbaaA0
set_option linter.unusedVariables false
set_option linter.unusedSimpArgs false
namespace Go.Proofs.Ytibdaonhldlmbaa.F
open Go.RowKit
/-! ### PolicyTimes: the plain law -/
/-- what the loop knows: the clock, when the link came up and was used, when one ended -/
structure Ti (p : Pol) (now began last ended : Int) : Prop where
  clock : p.now ≤ now
  lo : 0 ≤ now
  hi : now ≤ 2000000
  pn : 0 ≤ p.now
  u : 0 ≤ p.up ∧ p.up ≤ now
  l : 0 ≤ p.la ∧ p.la ≤ now
  e : 0 ≤ p.en ∧ p.en ≤ now
  ho : 0 ≤ p.ho ∧ p.ho ≤ 2147483648
  id : 0 ≤ p.id ∧ p.id ≤ 2147483648
  se : 0 ≤ p.se ∧ p.se ≤ 2147483648
  runs : p.st = 3 → began = p.up ∧ last = p.la
  b : 0 ≤ began ∧ began ≤ now
  la : 0 ≤ last ∧ last ≤ now
  en : -1 ≤ ended ∧ ended ≤ now
  enp : 0 ≤ ended → ended ≤ p.en
  rest : p.st = 0 → 0 ≤ ended → ended + p.ho ≤ now
def overT (c : Pol) (now began last : Int) : Bool := (decide (0 < c.se) && decide (c.se ≤ now - began)) || (decide (0 < c.id) && decide (c.id ≤ now - last))
theorem ovr_eq {n b s : Int} (h1 : 0 ≤ n ∧ n ≤ 2000000) (h2 : 0 ≤ b ∧ b ≤ 2000000) : ovr n b s = decide (s ≤ n - b) := by
  unfold ovr
  rw [show wrap64 (n - b) = n - b by unfold wrap64; omega]
theorem tired_over {p : Pol} {n b l : Int} (hn : p.now = n) (h1 : 0 ≤ n ∧ n ≤ 2000000) (hb : 0 ≤ p.up ∧ p.up ≤ 2000000) (hl : 0 ≤ p.la ∧ p.la ≤ 2000000) (eb : b = p.up) (el : l = p.la) : (p.tired = 0) = (overT p n b l = false) := by
  subst eb el hn
  unfold Pol.tired overT
  rw [ovr_eq h1 hb, ovr_eq h1 hl]
  by_cases a1 : 0 < p.se <;> by_cases a2 : p.se ≤ p.now - p.up <;> by_cases a3 : 0 < p.id <;> by_cases a4 : p.id ≤ p.now - p.la <;> simp [a1, a2, a3, a4]
/-- one round -/
structure TiOut (p : Pol) (k : Int) (m : Bool) (t now began last ended : Int) (r : Pol × List Int × Int) : Prop where
  ok : r.2.2 = 0
  run : p.st = 3 → (overT p t began last = true → (∃ x, r.2.1 = 2 :: x) ∧ r.1.st ≠ 3) ∧ (overT p t began last = false → k ≠ 3 → ∀ x, r.2.1 ≠ 2 :: x)
  dial : 1 ∈ r.2.1 → ¬ (0 ≤ ended ∧ t - ended < p.ho)
  next : Ti r.1 t (if k = 4 ∧ p.st ≠ 3 ∧ r.1.st = 3 then t else began) (if k = 4 ∧ p.st ≠ 3 ∧ r.1.st = 3 then t else if k = 1 ∧ m = true ∧ p.st = 3 then t else last) (if k = 4 ∧ p.st ≠ 3 ∧ r.1.st = 3 then ended else if k = 1 ∧ m = true ∧ p.st = 3 then ended else if k = 5 ∧ 2 ≤ p.st ∧ p.st ≤ 4 then t else ended)
/-- what is due keeps what is known -/
structure DueT (p : Pol) (t began last ended : Int) (r : Pol × List Int) : Prop where
  ti : Ti r.1 t began last ended
  now : r.1.now = t
  dial : 1 ∈ r.2 → ¬ (0 ≤ ended ∧ t - ended < p.ho)
  ho : r.1.ho = p.ho ∧ r.1.id = p.id ∧ r.1.se = p.se
  over : p.st = 3 → overT p t began last = true → r.2 = [2] ∧ r.1.st = 4
  not : p.st = 3 → overT p t began last = false → r.2 = [] ∧ r.1.st = 3
  same : p.st ≠ 3 → p.st ≠ 1 → r.1.st = p.st ∧ r.2 = []
  hold : p.st = 1 → r.1.st ≠ 3 ∧ (r.1.st = 2 ∨ r.2 = []) ∧ (r.1.st = 1 ∨ r.1.st = 0 ∨ r.1.st = 2)
theorem due_ti {p : Pol} {now t b l e : Int} (h : Ti p now b l e) (h1 : now ≤ t) (h2 : t ≤ 2000000) : DueT p t b l e ({ p with now := t } : Pol).due := by
  obtain ⟨c1, c2, c3, c4, c5, c6, c7, c8, c9, c10, c11, c12, c13, c14, c15, c16⟩ := h
  have hT : ∀ q : Pol, q.now = t → q.up = p.up → q.la = p.la → q.en = p.en → q.ho = p.ho → q.id = p.id → q.se = p.se → (q.st = 3 → p.st = 3) → (q.st = 0 → 0 ≤ e → e + p.ho ≤ t) → Ti q t b l e := by
    intro q e1 e2 e3 e4 e5 e6 e7 e8 e9
    refine ⟨by omega, by omega, by omega, by omega, by omega, by omega, by omega, by omega, by omega, by omega, fun hs => ?_, by omega, by omega, by omega, fun he => ?_, fun hs he => ?_⟩
    · have := c11 (e8 hs); omega
    · have := c15 he; omega
    · have := e9 hs he; omega
  unfold Pol.due
  by_cases s3 : p.st = 3
  · rw [if_pos s3]
    obtain ⟨rb, rl⟩ := c11 s3
    have ht := tired_over (p := { p with now := t }) (n := t) (b := b) (l := l) rfl (by omega) (by simp only; omega) (by simp only; omega) rb rl
    have ho : overT ({ p with now := t } : Pol) t b l = overT p t b l := rfl
    rw [ho] at ht
    unfold Pol.due1
    by_cases hz : ({ p with now := t } : Pol).tired = 0
    · rw [if_pos hz]
      rw [eq_iff_iff] at ht
      have hov := ht.1 hz
      exact ⟨hT _ rfl rfl rfl rfl rfl rfl rfl (fun _ => s3) (fun hs => absurd hs (by simp only; omega)), rfl, fun hm => by simp at hm, ⟨rfl, rfl, rfl⟩, fun _ hov2 => (by rw [hov] at hov2; cases hov2), fun _ _ => ⟨rfl, s3⟩, fun hs => absurd s3 hs, fun hs => by omega⟩
    · rw [if_neg hz]
      rw [eq_iff_iff] at ht
      have hov : overT p t b l = true := by
        cases ho2 : overT p t b l
        · exact absurd (ht.2 ho2) hz
        · rfl
      exact ⟨hT _ rfl rfl rfl rfl rfl rfl rfl (fun hs => absurd hs (by simp [Pol.hang])) (fun hs => absurd hs (by simp [Pol.hang])), rfl, fun hm => by simp [Pol.hang] at hm, ⟨rfl, rfl, rfl⟩, fun _ _ => ⟨rfl, rfl⟩, fun _ hov2 => (by rw [hov] at hov2; cases hov2), fun hs => absurd s3 hs, fun hs => by omega⟩
  · rw [if_neg s3]
    by_cases s1 : p.st = 1
    · rw [if_pos s1]
      unfold Pol.due2
      have he := ovr_eq (n := t) (b := p.en) (s := p.ho) (by omega) (by omega)
      by_cases ho : ovr t p.en p.ho = true
      · rw [if_pos ho]
        rw [ho] at he
        have hle : p.ho ≤ t - p.en := by simpa using he.symm
        have hdd : ¬ (0 ≤ e ∧ t - e < p.ho) := by
          rintro ⟨q1, q2⟩
          have := c15 q1
          omega
        unfold Pol.held
        split
        · exact ⟨hT _ rfl rfl rfl rfl rfl rfl rfl (fun hs => absurd hs (by simp [Pol.dial])) (fun hs => absurd hs (by simp [Pol.dial])), rfl, fun _ => hdd, ⟨rfl, rfl, rfl⟩, fun hs => absurd hs s3, fun hs => absurd hs s3, fun _ hs => absurd s1 hs, fun _ => ⟨by simp [Pol.dial], .inl rfl, .inr (.inr rfl)⟩⟩
        · exact ⟨hT _ rfl rfl rfl rfl rfl rfl rfl (fun hs => absurd hs (by simp)) (fun _ q1 => by have := c15 q1; omega), rfl, fun hm => by simp at hm, ⟨rfl, rfl, rfl⟩, fun hs => absurd hs s3, fun hs => absurd hs s3, fun _ hs => absurd s1 hs, fun _ => ⟨by simp, .inr rfl, .inr (.inl rfl)⟩⟩
      · rw [if_neg ho]
        exact ⟨hT _ rfl rfl rfl rfl rfl rfl rfl id (fun hs q1 => by have := c16 hs q1; omega), rfl, fun hm => by simp at hm, ⟨rfl, rfl, rfl⟩, fun hs => absurd hs s3, fun hs => absurd hs s3, fun _ hs => absurd s1 hs, fun _ => ⟨s3, .inr rfl, .inl s1⟩⟩
    · rw [if_neg s1]
      exact ⟨hT _ rfl rfl rfl rfl rfl rfl rfl id (fun hs q1 => by have := c16 hs q1; omega), rfl, fun hm => by simp at hm, ⟨rfl, rfl, rfl⟩, fun hs => absurd hs s3, fun hs => absurd hs s3, fun _ _ => ⟨rfl, rfl⟩, fun hs => absurd hs s1⟩
end Go.Proofs.Ytibdaonhldlmbaa.F
