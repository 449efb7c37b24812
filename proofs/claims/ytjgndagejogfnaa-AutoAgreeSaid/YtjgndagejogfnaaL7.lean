import Derived.Test.YtjgndagejogfnaaL6
set_option linter.unusedVariables false
set_option linter.unusedSimpArgs false
namespace Go.Proofs.Ytjgndagejogfnaa.F
open Go.RowKit Go.Proofs.Ytjgndagejogfnaa.K
def canB (c t : Int) : Bool := decide (1 ≤ c) && decide (c ≤ 255) && decide (1 ≤ t) && decide (t ≤ 255)
theorem new28 (c t : Int) (w : World) (h : 1 ≤ c ∧ c ≤ 255 ∧ 1 ≤ t ∧ t ≤ 255) : Calls Try.prog 28 #[.int .i64 c, .int .i64 t] w fun e w' => e = .returned (.pointer (some ⟨w.heap.size, 0, none⟩)) ∧ AtP w' w.heap.size ⟨0, 0, c, t⟩ ∧ Below w.heap.size w w' := by
  obtain ⟨h1, h2, h3, h4⟩ := h
  go_enter Try.func28, Try.ntmps28
  go_wp2
  go_ret
  exact ⟨rfl, ⟨heap_alloc_new _ _⟩, (Below.refl _ _).alloc (Nat.le_refl _) _⟩
theorem new28_no (c t : Int) (w : World) (h : ¬ (1 ≤ c ∧ c ≤ 255 ∧ 1 ≤ t ∧ t ≤ 255)) : Calls Try.prog 28 #[.int .i64 c, .int .i64 t] w fun e w' => e = .returned (.pointer none) ∧ w = w' := by
  have hc : c < 1 ∨ 255 < c ∨ (1 ≤ c ∧ c ≤ 255 ∧ t < 1) ∨ (1 ≤ c ∧ c ≤ 255 ∧ 1 ≤ t ∧ 255 < t) := by omega
  clear h
  rcases hc with hc | hc | ⟨h1, h2, hc⟩ | ⟨h1, h2, h3, hc⟩
  all_goals
    go_enter Try.func28, Try.ntmps28
    go_wp2
    go_ret
    exact ⟨rfl, rfl⟩
theorem new35 (c t : Int) (w : World) (h : 1 ≤ c ∧ c ≤ 255 ∧ 1 ≤ t ∧ t ≤ 255) : Calls Try.prog 35 #[.int .i64 c, .int .i64 t] w fun e w' => e = .returned (.pointer (some ⟨w.heap.size, 0, none⟩)) ∧ AtR w' w.heap.size ⟨0, 0, c, t⟩ ∧ Below w.heap.size w w' := by
  obtain ⟨h1, h2, h3, h4⟩ := h
  go_enter Try.func35, Try.ntmps35
  go_wp2
  go_ret
  exact ⟨rfl, ⟨heap_alloc_new _ _⟩, (Below.refl _ _).alloc (Nat.le_refl _) _⟩
theorem new35_no (c t : Int) (w : World) (h : ¬ (1 ≤ c ∧ c ≤ 255 ∧ 1 ≤ t ∧ t ≤ 255)) : Calls Try.prog 35 #[.int .i64 c, .int .i64 t] w fun e w' => e = .returned (.pointer none) ∧ w = w' := by
  have hc : c < 1 ∨ 255 < c ∨ (1 ≤ c ∧ c ≤ 255 ∧ t < 1) ∨ (1 ≤ c ∧ c ≤ 255 ∧ 1 ≤ t ∧ 255 < t) := by omega
  clear h
  rcases hc with hc | hc | ⟨h1, h2, hc⟩ | ⟨h1, h2, h3, hc⟩
  all_goals
    go_enter Try.func35, Try.ntmps35
    go_wp2
    go_ret
    exact ⟨rfl, rfl⟩
theorem state33 (g : Nat) (a : St) (w : World) (h : AtP w g a) : Calls Try.prog 33 #[.pointer (some ⟨g, 0, none⟩)] w fun e w' => e = .returned (.int .i64 a.st) ∧ w = w' := by
  have c := h.cst
  go_enter Try.func33, Try.ntmps33
  go_wp2
  go_ret
  exact ⟨rfl, rfl⟩
theorem count32 (g : Nat) (a : St) (w : World) (h : AtP w g a) : Calls Try.prog 32 #[.pointer (some ⟨g, 0, none⟩)] w fun e w' => e = .returned (.int .i64 a.cnt) ∧ w = w' := by
  have c := h.ccnt
  go_enter Try.func32, Try.ntmps32
  go_wp2
  go_ret
  exact ⟨rfl, rfl⟩
theorem running31 (g : Nat) (a : St) (w : World) (h : AtP w g a) : Calls Try.prog 31 #[.pointer (some ⟨g, 0, none⟩)] w fun e w' => e = .returned (.bool (runs a.st)) ∧ w = w' := by
  have c := h.cst
  go_enter Try.func31, Try.ntmps31
  go_wp2_with fail
  refine (runs22 a.st _).mono ?_
  rintro e w1 ⟨rfl, rfl⟩
  go_wp2
  go_ret
  exact ⟨by simp, rfl⟩
theorem copy36 (g : Nat) (a : St) (w : World) (h : AtP w g a) : Calls Try.prog 36 #[.pointer (some ⟨g, 0, none⟩)] w fun e w' => e = .returned (.pointer (some ⟨w.heap.size, 0, none⟩)) ∧ AtP w' w.heap.size a ∧ Below w.heap.size w w' := by
  have c := h.cst
  have d := h.ccnt
  have e := h.ccf
  have f := h.ctm
  have hl := h.lt
  go_enter Try.func36, Try.ntmps36
  go_wp2
  go_ret
  exact ⟨rfl, ⟨heap_alloc_new _ _⟩, (Below.refl _ _).alloc (Nat.le_refl _) _⟩
theorem state33_nil (w : World) : Calls Try.prog 33 #[.pointer none] w fun e w' => e = .returned (.int .i64 0) ∧ w = w' := by
  go_enter Try.func33, Try.ntmps33
  go_wp2
  go_ret
  exact ⟨rfl, rfl⟩
theorem count32_nil (w : World) : Calls Try.prog 32 #[.pointer none] w fun e w' => e = .returned (.int .i64 0) ∧ w = w' := by
  go_enter Try.func32, Try.ntmps32
  go_wp2
  go_ret
  exact ⟨rfl, rfl⟩
theorem running31_nil (w : World) : Calls Try.prog 31 #[.pointer none] w fun e w' => e = .returned (.bool false) ∧ w = w' := by
  go_enter Try.func31, Try.ntmps31
  go_wp2
  go_ret
  exact ⟨rfl, rfl⟩
theorem copy36_nil (w : World) : Calls Try.prog 36 #[.pointer none] w fun e w' => e = .returned (.pointer none) ∧ w = w' := by
  go_enter Try.func36, Try.ntmps36
  go_wp2
  go_ret
  exact ⟨rfl, rfl⟩
theorem do30_nil (ev : Int) (w : World) : Calls Try.prog 30 #[.pointer none, .int .i64 ev] w fun e w' => e = .returned (.tuple #[.slice none 0 0, .int .i64 2]) ∧ w = w' := by
  go_enter Try.func30, Try.ntmps30
  go_wp2
  go_ret2
  exact ⟨rfl, rfl⟩
theorem timeout29_nil (w : World) : Calls Try.prog 29 #[.pointer none] w fun e w' => e = .returned (.tuple #[.slice none 0 0, .int .i64 2]) ∧ w = w' := by
  go_enter Try.func29, Try.ntmps29
  go_wp2
  go_ret2
  exact ⟨rfl, rfl⟩
theorem DoR.same {at_ : World → Nat → St → Prop} {g : Nat} {r r' : St × List Int × Int} {w : World} {e : Ending} {w' : World} (h : DoR at_ g r w e w') (hr : r = r') : DoR at_ g r' w e w' := hr ▸ h
theorem timeout29 (g : Nat) (a : St) (w : World) (h : AtP w g a) (hok : a.ok) : Calls Try.prog 29 #[.pointer (some ⟨g, 0, none⟩)] w (DoR AtP g a.timeout w) := by
  have c0 := h.cst
  have c1 := h.ccnt
  have H := Lib.hid h
  have b3 := hok.2.2.1
  have D := Lib.hid (fun ev W h => do30 g a ev W h hok)
  clear h
  cases hr : runs a.st
  · have e1 : a.timeout = (a, [], 290) := by unfold St.timeout; rw [if_neg (by rw [hr]; simp)]
    rw [e1]
    have HR := Lib.hid hr
    clear e1 hr hok
    go_enter Try.func29, Try.ntmps29
    go_wp2_with fail
    refine (running31 g a _ H.out).mono ?_
    rintro e w1 ⟨rfl, rfl⟩
    rw [HR.out]
    go_wp2
    go_ret2
    exact ⟨⟨_, rfl, own_nil _ _⟩, H.out, grownBy_refl _ _⟩
  · by_cases hc : 0 < a.cnt
    · have e1 : a.timeout = a.do_ 4 := by unfold St.timeout; rw [if_pos hr, if_pos hc]
      rw [e1]
      have HR := Lib.hid hr
      clear e1 hr hok
      go_enter Try.func29, Try.ntmps29
      go_wp2_with fail
      refine (running31 g a _ H.out).mono ?_
      rintro e w1 ⟨rfl, rfl⟩
      rw [HR.out]
      go_wp2_with fail
      refine (D.out 4 _ H.out).mono ?_
      rintro e w2 ⟨⟨v, rfl, hv⟩, h2, h3⟩
      generalize a.do_ 4 = r at *
      have hv' := Lib.hid hv
      have h2' := Lib.hid h2
      have h3' := Lib.hid h3
      clear c0 c1 hv h2 h3
      go_wp2
      go_ret2
      exact ⟨⟨_, rfl, hv'.out⟩, h2'.out, h3'.out⟩
    · have e1 : a.timeout = a.do_ 5 := by unfold St.timeout; rw [if_pos hr, if_neg hc]
      rw [e1]
      have HR := Lib.hid hr
      clear e1 hr hok
      go_enter Try.func29, Try.ntmps29
      go_wp2_with fail
      refine (running31 g a _ H.out).mono ?_
      rintro e w1 ⟨rfl, rfl⟩
      rw [HR.out]
      go_wp2_with fail
      refine (D.out 5 _ H.out).mono ?_
      rintro e w2 ⟨⟨v, rfl, hv⟩, h2, h3⟩
      generalize a.do_ 5 = r at *
      have hv' := Lib.hid hv
      have h2' := Lib.hid h2
      have h3' := Lib.hid h3
      clear c0 c1 hv h2 h3
      go_wp2
      go_ret2
      exact ⟨⟨_, rfl, hv'.out⟩, h2'.out, h3'.out⟩
theorem timeout44 (g : Nat) (a : St) (w : World) (h : AtR w g a) (hok : a.ok) : Calls Try.prog 44 #[.pointer (some ⟨g, 0, none⟩)] w (DoR AtR g a.timeout w) := by
  have c0 := h.cst
  have c1 := h.ccnt
  have H := Lib.hid h
  have b3 := hok.2.2.1
  have D := Lib.hid (fun ev W h => do41 g a ev W h hok)
  clear h
  cases hr : runs a.st
  · have e1 : a.timeout = (a, [], 290) := by unfold St.timeout; rw [if_neg (by rw [hr]; simp)]
    rw [e1]
    have HR := Lib.hid hr
    clear e1 hr hok
    go_enter Try.func44, Try.ntmps44
    go_wp2_with fail
    refine (runs23 a.st _).mono ?_
    rintro e w1 ⟨rfl, rfl⟩
    rw [HR.out]
    go_wp2
    go_ret2
    exact ⟨⟨_, rfl, own_nil _ _⟩, H.out, grownBy_refl _ _⟩
  · by_cases hc : 0 < a.cnt
    · have e1 : a.timeout = a.do_ 4 := by unfold St.timeout; rw [if_pos hr, if_pos hc]
      rw [e1]
      have HR := Lib.hid hr
      clear e1 hr hok
      go_enter Try.func44, Try.ntmps44
      go_wp2_with fail
      refine (runs23 a.st _).mono ?_
      rintro e w1 ⟨rfl, rfl⟩
      rw [HR.out]
      go_wp2_with fail
      refine (D.out 4 _ H.out).mono ?_
      rintro e w2 ⟨⟨v, rfl, hv⟩, h2, h3⟩
      generalize a.do_ 4 = r at *
      have hv' := Lib.hid hv
      have h2' := Lib.hid h2
      have h3' := Lib.hid h3
      clear c0 c1 hv h2 h3
      go_wp2
      go_ret2
      exact ⟨⟨_, rfl, hv'.out⟩, h2'.out, h3'.out⟩
    · have e1 : a.timeout = a.do_ 5 := by unfold St.timeout; rw [if_pos hr, if_neg hc]
      rw [e1]
      have HR := Lib.hid hr
      clear e1 hr hok
      go_enter Try.func44, Try.ntmps44
      go_wp2_with fail
      refine (runs23 a.st _).mono ?_
      rintro e w1 ⟨rfl, rfl⟩
      rw [HR.out]
      go_wp2_with fail
      refine (D.out 5 _ H.out).mono ?_
      rintro e w2 ⟨⟨v, rfl, hv⟩, h2, h3⟩
      generalize a.do_ 5 = r at *
      have hv' := Lib.hid hv
      have h2' := Lib.hid h2
      have h3' := Lib.hid h3
      clear c0 c1 hv h2 h3
      go_wp2
      go_ret2
      exact ⟨⟨_, rfl, hv'.out⟩, h2'.out, h3'.out⟩
def eventOf (c : Int) : Int := if c = 1 then 6 else if c = 2 then 8 else -1
theorem event34 (c : Int) (w : World) : Calls Try.prog 34 #[.int .i64 c] w fun e w' => e = .returned (.int .i64 (eventOf c)) ∧ w = w' := by
  have hc : c = 1 ∨ c = 2 ∨ (c ≠ 1 ∧ c ≠ 2) := by omega
  rcases hc with rfl | rfl | ⟨h1, h2⟩
  · go_enter Try.func34, Try.ntmps34
    go_wp2
    go_ret
    exact ⟨rfl, rfl⟩
  · go_enter Try.func34, Try.ntmps34
    go_wp2
    go_ret
    exact ⟨rfl, rfl⟩
  · have e : eventOf c = -1 := by unfold eventOf; rw [if_neg h1, if_neg h2]
    rw [e]
    clear e
    go_enter Try.func34, Try.ntmps34
    go_wp2
    go_ret
    exact ⟨rfl, rfl⟩
end Go.Proofs.Ytjgndagejogfnaa.F
