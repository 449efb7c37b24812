import Derived.Test.YtamkfalafnlomaaG4
set_option linter.unusedVariables false
set_option linter.unusedSimpArgs false
namespace Go.Proofs.Ytamkfalafnlomaa.F
open Go.RowKit Go.Proofs.Ytamkfalafnlomaa.K
/-- what the law's flags say of a track -/
def Fits (T : Tk) (th mi op : Bool) : Prop :=
  (T.ph = 3 → op = true ∧ th = false ∧ mi = false) ∧ (T.ph = 2 → op = true ∧ (th = true → T.ma = true ∧ T.ia = false) ∧ (mi = true → T.mb = true ∧ T.ib = false))
theorem fits_zero : Fits Tk.zero false false false := ⟨fun h => by simp [Tk.zero] at h, fun h => by simp [Tk.zero] at h⟩
/-- the law's test never strikes -/
theorem fits_test {T : Tk} {th mi op : Bool} (h : Fits T th mi op) (n : Int) (hn : n ≠ 49185 ∧ n ≠ 49187 ∧ n ≠ 49699 ∧ n ≠ 49703) (hf : (th || mi || !op) = true) : T.ph ≠ 3 ∧ pass T.ph n = false := by
  have h3 : T.ph ≠ 3 := by
    intro e
    obtain ⟨rfl, rfl, rfl⟩ := h.1 e
    simp at hf
  refine ⟨h3, ?_⟩
  unfold pass
  simp only [Bool.and_eq_false_iff]
  right
  split
  · simp; omega
  · split
    · simp; omega
    · rfl
/-- the flags behind a Do that was done -/
def gTh (T : Tk) (th : Bool) (ev : Int) : Bool := if ev = 5 then th && !decide (T.ph = 2) else th
def gMi (T : Tk) (mi : Bool) (ev : Int) : Bool := if ev = 6 then mi && !decide (T.ph = 2) else mi
def gOp (op : Bool) (ev : Int) : Bool := if ev = 7 ∨ ev = 8 ∨ ev = 1 ∨ ev = 4 ∨ ev = 3 then false else op
theorem fits_refused {T : Tk} {th mi op : Bool} (h : Fits T th mi op) (ev : Int) (he : (T.act ev).2 ≠ 0) : (T.act ev).1 = T := by
  unfold Tk.act at *
  split at he
  · rename_i h1
    rw [if_pos h1]
    unfold Tk.prove at *
    split at he
    · rename_i h2; rw [if_pos h2]
    · rename_i h2
      split at he
      · exact absurd rfl he
      · exact absurd rfl he
  · rename_i h1
    rw [if_neg h1]
    split at he
    · exact absurd rfl he
    · rename_i h2; rw [if_neg h2]
theorem to_flags (T : Tk) (n : Int) : (T.to n).ma = T.ma ∧ (T.to n).mb = T.mb ∧ (T.to n).ia = T.ia ∧ (T.to n).ib = T.ib := by
  unfold Tk.to
  split <;> exact ⟨rfl, rfl, rfl, rfl⟩
theorem fits_open {T : Tk} (a b : Bool) (h1 : T.ph = 1) : Fits (T.opened a b).1 a b true := by
  have e : T.opened a b = ((T.must a b).goOn 3 2, 0) := by unfold Tk.opened; rw [if_neg (by omega), if_pos h1]
  rw [e]
  show Fits ((T.must a b).goOn 3 2) a b true
  unfold Tk.goOn
  obtain ⟨f1, f2, f3, f4⟩ := to_flags (T.must a b) 2
  split
  · rename_i hw
    simp [Tk.whole, Tk.must] at hw
    exact ⟨fun _ => ⟨rfl, hw.1, hw.2⟩, fun h => by rw [to_ph] at h; cases h⟩
  · rw [if_neg (by decide)]
    refine ⟨fun h => (by rw [to_ph] at h; cases h), fun _ => ⟨rfl, fun ha => ?_, fun hb => ?_⟩⟩
    · rw [f1, f3]; exact ⟨ha, rfl⟩
    · rw [f2, f4]; exact ⟨hb, rfl⟩
theorem fits_prove {T : Tk} {th mi op : Bool} (h : Fits T th mi op) (k : Int) (hk : k = 0 ∨ k = 1) (hz : (T.prove k).2 = 0) : Fits (T.prove k).1 (gTh T th (k + 5)) (gMi T mi (k + 5)) op := by
  unfold Tk.prove at *
  split at hz
  · cases hz
  · rename_i h01
    rw [if_neg h01]
    split at hz
    · rename_i h2
      rw [if_pos h2]
      obtain ⟨ho, hth, hmi⟩ := h.2 h2
      subst ho
      rcases hk with rfl | rfl
      · simp only [if_pos, gTh, gMi, h2]
        show Fits (T.isA.goOn 3 0) _ _ true
        unfold Tk.goOn
        split
        · rename_i hw
          simp [Tk.whole, Tk.isA] at hw
          refine ⟨fun _ => ⟨rfl, by simp, ?_⟩, fun e => by rw [to_ph] at e; cases e⟩
          cases mi with
          | false => rfl
          | true => obtain ⟨a, b⟩ := hmi rfl; rw [a, b] at hw; simp at hw
        · refine ⟨fun e => (by rw [show T.isA.ph = T.ph from rfl, h2] at e; cases e), fun _ => ⟨rfl, fun e => by simp at e, fun e => ?_⟩⟩
          exact hmi (by simpa using e)
      · simp only [gTh, gMi, h2]
        show Fits (T.isB.goOn 3 0) _ _ true
        unfold Tk.goOn
        split
        · rename_i hw
          simp [Tk.whole, Tk.isB] at hw
          refine ⟨fun _ => ⟨rfl, ?_, by simp⟩, fun e => by rw [to_ph] at e; cases e⟩
          cases th with
          | false => rfl
          | true => obtain ⟨a, b⟩ := hth rfl; rw [a, b] at hw; simp at hw
        · refine ⟨fun e => (by rw [show T.isB.ph = T.ph from rfl, h2] at e; cases e), fun _ => ⟨rfl, fun e => ?_, fun e => by simp at e⟩⟩
          exact hth (by simpa using e)
    · rename_i h2
      rw [if_neg h2]
      refine ⟨fun e => ?_, fun e => absurd e h2⟩
      obtain ⟨a, b, c⟩ := h.1 e
      refine ⟨a, ?_, ?_⟩
      · unfold gTh; split <;> simp [b]
      · unfold gMi; split <;> simp [c]
theorem nx_out (p e : Int) (h : (nx p e).2 = 0) (h2 : (nx p e).1 = 2 ∨ (nx p e).1 = 3) : False := by
  have he := nx_e p e h
  by_cases hi : inT p e
  · by_cases h1 : ent p e = -1
    · rw [nx, if_pos hi, if_pos h1] at h; cases h
    · rw [nx, if_pos hi, if_neg h1] at h2
      simp only at h2
      unfold ent at h2 h1
      rcases he with rfl | rfl | rfl | rfl | rfl | rfl <;> simp at h2 h1 <;> (repeat' split at h2) <;> omega
  · rw [nx, if_neg hi] at h; cases h
theorem fits_act {T : Tk} {th mi op : Bool} (h : Fits T th mi op) (ev : Int) (hz : (T.act ev).2 = 0) : Fits (T.act ev).1 (gTh T th ev) (gMi T mi ev) (gOp op ev) := by
  by_cases h5 : ev = 5
  · subst h5
    have := fits_prove h 0 (.inl rfl) (by simpa [Tk.act] using hz)
    simpa [Tk.act, gOp] using this
  by_cases h6 : ev = 6
  · subst h6
    have := fits_prove h 1 (.inr rfl) (by simpa [Tk.act] using hz)
    simpa [Tk.act, gOp] using this
  unfold Tk.act at *
  rw [if_neg (by omega)] at *
  split at hz
  · rename_i hn
    rw [if_pos hn]
    refine ⟨fun e => ?_, fun e => ?_⟩
    · rw [to_ph] at e; exact absurd (nx_out _ _ hn (.inr e)) (by simp)
    · rw [to_ph] at e; exact absurd (nx_out _ _ hn (.inl e)) (by simp)
  · rename_i hn
    exact absurd hz hn
end Go.Proofs.Ytamkfalafnlomaa.F
