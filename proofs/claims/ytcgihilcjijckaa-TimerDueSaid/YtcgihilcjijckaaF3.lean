import Derived.Test.YtcgihilcjijckaaF2
set_option linter.unusedVariables false
set_option linter.unusedSimpArgs false
namespace Go.Proofs.Ytcgihilcjijckaa.F
open Go.RowKit Go.Proofs.Ytcgihilcjijckaa.K Go.Shelf
attribute [local go_sem] Oper.semAt_some
/-- is there none of that number? -/
def noneB (id : Int) (L : List On) : Bool := L.all (fun y => !(y.id == id))
theorem noneB_iff {id : Int} {L : List On} : noneB id L = true ↔ ∀ y ∈ L, y.id ≠ id := by
  unfold noneB
  rw [List.all_eq_true]
  simp
/-- Set: its answer; the program's list, in order; the reference's list -/
def setE (id at_ : Int) (L : List On) : Int := if okB id at_ then (if noneB id L && decide (64 ≤ L.length) then 7 else 0) else 1
def setL (id at_ : Int) (L : List On) : List On := if okB id at_ then (if noneB id L && decide (64 ≤ L.length) then L else ins ⟨id, at_⟩ (out id L)) else L
def setR (id at_ : Int) (R : List On) : List On := if okB id at_ then (if noneB id R && decide (64 ≤ R.length) then R else out id R ++ [⟨id, at_⟩]) else R
theorem noneB_srt (id : Int) (R : List On) : noneB id (srt R) = noneB id R := by
  rw [Bool.eq_iff_iff, noneB_iff, noneB_iff]
  exact ⟨fun h y hy => h y (mem_srt.2 hy), fun h y hy => h y (mem_srt.1 hy)⟩
theorem setE_srt (id at_ : Int) (R : List On) : setE id at_ (srt R) = setE id at_ R := by unfold setE; rw [noneB_srt, len_srt]
theorem setL_srt (id at_ : Int) (R : List On) : setL id at_ (srt R) = srt (setR id at_ R) := by
  unfold setL setR
  rw [noneB_srt, len_srt]
  split
  · split
    · rfl
    · rw [srt_snoc, out_srt]
  · rfl
/-- the document's lists: no number twice, no more than there may be, each one a timer -/
structure Fit (R : List On) : Prop where
  uniq : Uniq R
  len : R.length ≤ 64
  ok : ∀ x ∈ R, okB x.id x.at_ = true
theorem Fit.nil : Fit [] := ⟨by simp [Uniq], by simp, fun x hx => by cases hx⟩
theorem out_len_le (id : Int) (R : List On) : (out id R).length ≤ R.length := List.length_filter_le _ _
theorem out_len_lt {id : Int} {R : List On} (h : noneB id R = false) : (out id R).length < R.length := by
  unfold out
  have : ¬ noneB id R = true := by rw [h]; simp
  rw [noneB_iff] at this
  have hex : ∃ y ∈ R, y.id = id := by
    refine Classical.byContradiction fun hn => this (fun y hy e => hn ⟨y, hy, e⟩)
  obtain ⟨y, hy, he⟩ := hex
  exact List.length_filter_lt_length_iff_exists.2 ⟨y, hy, by simp [he]⟩
theorem Fit.set {R : List On} (h : Fit R) (id at_ : Int) : Fit (setR id at_ R) := by
  unfold setR
  split
  · rename_i hok
    split
    · exact h
    · rename_i hn
      refine ⟨uniq_snoc h.uniq ⟨id, at_⟩, ?_, fun x hx => ?_⟩
      · rw [List.length_append]
        simp only [List.length_cons, List.length_nil]
        cases hb : noneB id R
        · have := out_len_lt hb; have := h.len; omega
        · have := out_len_le id R
          simp [hb] at hn
          omega
      · rcases List.mem_append.1 hx with hx | hx
        · exact h.ok x (List.mem_filter.1 hx).1
        · simp at hx; subst hx; exact hok
  · exact h
theorem Fit.out {R : List On} (h : Fit R) (id : Int) : Fit (F.out id R) := ⟨uniq_out h.uniq id, Nat.le_trans (out_len_le id R) h.len, fun x hx => h.ok x (List.mem_filter.1 hx).1⟩
/-- the program's list is the document's, in order -/
structure Like (l : List Tm) (R : List On) : Prop where
  eq : l.map Tm.on = srt R
  fit : Fit R
theorem Like.len {l : List Tm} {R : List On} (h : Like l R) : l.length = R.length := by have := congrArg List.length h.eq; simpa [len_srt] using this
theorem Like.le {l : List Tm} {R : List On} (h : Like l R) : l.length ≤ 64 := by rw [h.len]; exact h.fit.len
theorem Like.sorted {l : List Tm} {R : List On} (h : Like l R) : Sorted (l.map Tm.on) := by rw [h.eq]; exact sorted_srt R
theorem Like.uniq {l : List Tm} {R : List On} (h : Like l R) : Uniq (l.map Tm.on) := by rw [h.eq]; exact uniq_srt h.fit.uniq
theorem Like.nil : Like [] [] := ⟨rfl, Fit.nil⟩
theorem SetS.refl {w : World} {g : Nat} {v : Value} {n : Int} {l : List Tm} (h : QAt w g v n l) : SetS w w g v v n l := ⟨h, Grown2.refl _ _ _, fun k hk => .inl hk⟩
variable (g : Nat) (w : World)
/-- Set of a queue that is like the document's -/
def SetQ (id at_ : Int) (R : List On) (g : Nat) (v : Value) (w : World) (e : Ending) (w' : World) : Prop := ∃ (n2 : Int) (l2 : List Tm) (v2 : Value), e = .returned (.int .i64 (setE id at_ R)) ∧ SetS w w' g v v2 n2 l2 ∧ Like l2 (setR id at_ R)
theorem setq24 (v : Value) (n id at_ : Int) (l : List Tm) (R : List On) (hk : Like l R) (h : QAt w g v n l) : Calls Try.prog 24 #[.pointer (some ⟨g, 0, none⟩), .int .i64 id, .int .i64 at_] w (SetQ id at_ R g v w) := by
  cases hok : okB id at_
  · refine (set_bad g w v n id at_ l hok).mono ?_
    rintro e w' ⟨rfl, rfl⟩
    exact ⟨n, l, v, by simp [setE, hok], SetS.refl h, by simpa [setR, hok] using hk⟩
  · refine (set24 g w v n id at_ l hk.le hk.uniq hk.sorted hok h).mono ?_
    rintro e w' ⟨er, n2, l2, rfl, ⟨⟨v2, q1, q2⟩, q3⟩, hl2, ⟨rfl, hn, h64, hm⟩ | ⟨rfl, hn, hm⟩⟩
    · rw [hk.eq] at hn h64 hm
      have hb : noneB id R = true := by rw [← noneB_srt]; exact noneB_iff.2 hn
      rw [len_srt] at h64
      exact ⟨n2, l2, v2, by simp [setE, hok, hb, h64], ⟨q1, q3, q2⟩, by simp only [setR, hok, hb, h64, decide_true, Bool.and_self, if_true]; exact ⟨hm, hk.fit⟩⟩
    · rw [hk.eq] at hn hm
      have hc : (noneB id R && decide (64 ≤ R.length)) = false := by
        cases hb : noneB id R
        · rfl
        · have := hn (noneB_iff.1 (by rw [noneB_srt]; exact hb))
          rw [len_srt] at this
          simp; omega
      refine ⟨n2, l2, v2, by simp [setE, hok, hc], ⟨q1, q3, q2⟩, ⟨?_, hk.fit.set id at_⟩⟩
      rw [hm, ← setL_srt]
      unfold setL
      rw [noneB_srt, len_srt, hc, hok]
      rfl
end Go.Proofs.Ytcgihilcjijckaa.F
