import Derived.Test.YtcgihilcjijckaaH2
set_option linter.unusedVariables false
set_option linter.unusedSimpArgs false
set_option linter.unnecessarySimpa false
namespace Go.Proofs.Ytcgihilcjijckaa.F
open Go.RowKit Go.Proofs.Ytcgihilcjijckaa.K
/-- which blocks are one's own -/
def Foot := Nat → Prop
def QF (g : Nat) (v : Value) : Foot := fun k => k = g ∨ v.ownBlock = some k
def RF (v : Value) : Foot := fun k => v.ownBlock = some k
/-- several, each with blocks of its own -/
structure Held (w : World) (fs : List Foot) : Prop where
  live : ∀ P ∈ fs, ∀ k, P k → k < w.heap.size
  sep : ∀ (i j : Nat) (hi : i < fs.length) (hj : j < fs.length), i ≠ j → ∀ k, fs[i] k → ¬ fs[j] k
/-- a step of one of them -/
structure Step (w w' : World) (P P' : Foot) : Prop where
  size : w.heap.size ≤ w'.heap.size
  same : ∀ k, k < w.heap.size → ¬ P k → w'.heap[k]? = w.heap[k]?
  own : ∀ k, P' k → k < w'.heap.size ∧ (P k ∨ w.heap.size ≤ k)
theorem Held.nil (w : World) : Held w [] := ⟨fun P hP => (by cases hP), fun i j hi => absurd hi (by simp)⟩
theorem Held.step {w w' : World} {fs : List Foot} {i : Nat} {P P' : Foot} (h : Held w fs) (hi : i < fs.length) (hP : fs[i] = P) (hs : Step w w' P P') : Held w' (fs.set i P') := by
  refine ⟨fun Q hQ k hk => ?_, fun a b ha hb hab k hka hkb => ?_⟩
  · obtain ⟨j, hj, rfl⟩ := List.mem_iff_getElem.1 hQ
    rw [List.getElem_set] at hk
    split at hk
    · exact (hs.own k hk).1
    · have hj2 : j < fs.length := by simpa using hj
      have := h.live (fs[j]'hj2) (List.getElem_mem hj2) k hk
      have := hs.size
      omega
  · rw [List.getElem_set] at hka hkb
    simp only [List.length_set] at ha hb
    split at hka
    · rename_i e1
      subst e1
      rw [if_neg hab] at hkb
      have h2 := h.live fs[b] (List.getElem_mem hb) k hkb
      rcases (hs.own k hka).2 with q | q
      · exact h.sep i b ha hb hab k (by rw [hP]; exact q) hkb
      · omega
    · split at hkb
      · rename_i e1 e2
        subst e2
        have h2 := h.live fs[a] (List.getElem_mem ha) k hka
        rcases (hs.own k hkb).2 with q | q
        · exact h.sep i a hb ha (fun e => hab e.symm) k (by rw [hP]; exact q) hka
        · omega
      · exact h.sep a b ha hb hab k hka hkb
theorem Held.keep {w w' : World} {fs : List Foot} {i j : Nat} {P P' Q : Foot} (h : Held w fs) (hs : Step w w' P P') (hi : i < fs.length) (hj : j < fs.length) (hP : fs[i] = P) (hQ : fs[j] = Q) (hij : i ≠ j) : ∀ k, Q k → w'.heap[k]? = w.heap[k]? := fun k hk =>
  hs.same k (h.live Q (by rw [← hQ]; exact List.getElem_mem hj) k hk) (fun hp => h.sep j i hj hi (fun e => hij e.symm) k (by rw [hQ]; exact hk) (by rw [hP]; exact hp))
theorem Held.below {w w' : World} {fs : List Foot} (h : Held w fs) (hb : Below w.heap.size w w') : Held w' fs := ⟨fun P hP k hk => Nat.lt_of_lt_of_le (h.live P hP k hk) hb.size, h.sep⟩
theorem Held.keepB {w w' : World} {fs : List Foot} {j : Nat} {Q : Foot} (h : Held w fs) (hb : Below w.heap.size w w') (hj : j < fs.length) (hQ : fs[j] = Q) : ∀ k, Q k → w'.heap[k]? = w.heap[k]? := fun k hk => hb.block k (h.live Q (by rw [← hQ]; exact List.getElem_mem hj) k hk)
/-- one more, whose blocks are new -/
theorem Held.new {w w' : World} {fs : List Foot} {P : Foot} (h : Held w fs) (hz : w.heap.size ≤ w'.heap.size) (hP : ∀ k, P k → w.heap.size ≤ k ∧ k < w'.heap.size) : Held w' (P :: fs) := by
  refine ⟨fun Q hQ k hk => ?_, fun a b ha hb hab k hka hkb => ?_⟩
  · rcases List.mem_cons.1 hQ with rfl | hQ
    · exact (hP k hk).2
    · exact Nat.lt_of_lt_of_le (h.live Q hQ k hk) hz
  · cases a with
    | zero =>
      cases b with
      | zero => exact hab rfl
      | succ b =>
        simp only [List.getElem_cons_zero, List.getElem_cons_succ] at hka hkb
        simp only [List.length_cons] at hb
        have h1 := h.live fs[b] (List.getElem_mem (by omega)) k hkb
        have h2 := (hP k hka).1
        omega
    | succ a =>
      simp only [List.length_cons] at ha hb
      cases b with
      | zero =>
        simp only [List.getElem_cons_zero, List.getElem_cons_succ] at hka hkb
        have h1 := h.live fs[a] (List.getElem_mem (by omega)) k hka
        have h2 := (hP k hkb).1
        omega
      | succ b =>
        simp only [List.getElem_cons_succ] at hka hkb
        exact h.sep a b (by omega) (by omega) (by omega) k hka hkb
theorem SetS.step {w w' : World} {g : Nat} {v v' : Value} {n n' : Int} {l l' : List Tm} (h0 : QAt w g v n l) (h : SetS w w' g v v' n' l') : Step w w' (QF g v) (QF g v') :=
  ⟨h.grow.size, fun k hk hn => h.grow.block k hk (fun e => hn (.inl e)) (fun e => hn (.inr e.symm)), fun k hk => by
    rcases hk with rfl | hk
    · exact ⟨(Array.getElem?_eq_some_iff.1 h.q.blk).1, .inl (.inl rfl)⟩
    · exact ⟨(Row.live h.q.row hk).2, (h.own k hk).imp .inr id⟩⟩
theorem RowR.step {w w' : World} {B : Nat} {e : TypeId} {size : Nat} {v v' : Value} {n : Nat} {xs : List Value} (h : RowR w w' B e size v v' n xs) : Step w w' (RF v) (RF v') :=
  ⟨h.grow.size, fun k hk hn => h.grow.block k hk (fun e => hn e.symm), fun k hk => ⟨(Row.live h.row hk).2, h.own k hk⟩⟩
theorem QAt.same {w w' : World} {g : Nat} {v : Value} {n : Int} {l : List Tm} (h : QAt w g v n l) (hs : ∀ k, QF g v k → w'.heap[k]? = w.heap[k]?) : QAt w' g v n l := by
  refine ⟨(hs g (.inl rfl)).trans h.blk, ⟨h.row.len, h.row.form.imp id fun ⟨b, cap, cur, q1, q2, q3, q4⟩ => ⟨b, cap, cur, q1, q2, ?_, q4⟩⟩, h.ne⟩
  exact (hs b (.inr (by rw [q1]; rfl))).trans q3
theorem RAt.same {w w' : World} {g : Nat} {v : Value} {l : List On} (h : RAt w g v l) (hs : ∀ k, QF g v k → w'.heap[k]? = w.heap[k]?) : RAt w' g v l := by
  refine ⟨(hs g (.inl rfl)).trans h.blk, ⟨h.row.len, h.row.form.imp id fun ⟨b, cap, cur, q1, q2, q3, q4⟩ => ⟨b, cap, cur, q1, q2, ?_, q4⟩⟩, h.ne⟩
  exact (hs b (.inr (by rw [q1]; rfl))).trans q3
theorem row_same {w w' : World} {B : Nat} {e : TypeId} {size : Nat} {v : Value} {n : Nat} {xs : List Value} (h : Row w B e size v n xs) (hs : ∀ k, RF v k → w'.heap[k]? = w.heap[k]?) : Row w' B e size v n xs := by
  refine ⟨h.len, h.form.imp id fun ⟨b, cap, cur, q1, q2, q3, q4⟩ => ⟨b, cap, cur, q1, q2, ?_, q4⟩⟩
  exact (hs b (by rw [q1]; rfl)).trans q3
end Go.Proofs.Ytcgihilcjijckaa.F
