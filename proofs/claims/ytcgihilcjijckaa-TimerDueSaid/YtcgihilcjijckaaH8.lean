import Derived.Test.YtcgihilcjijckaaH7
set_option linter.unusedVariables false
set_option linter.unusedSimpArgs false
set_option linter.unnecessarySimpa false
namespace Go.Proofs.Ytcgihilcjijckaa.F
open Go.RowKit Go.Proofs.Ytcgihilcjijckaa.K
/-- what a law holds: a queue; a list of numbers; a list of timers -/
inductive Thing where
  | q (g : Nat) (v : Value) (n : Int) (l : List Tm)
  | ids (u : Value) (D : List Int)
  | all (u : Value) (L : List On)
def Thing.foot : Thing → Foot
  | .q g v _ _ => QF g v
  | .ids u _ => RF u
  | .all u _ => RF u
def Thing.ok (w : World) : Thing → Prop
  | .q g v n l => QAt w g v n l
  | .ids u D => Row w 0 3 1 u D.length (ints D)
  | .all u L => Row w 0 29 2 u L.length (ons L)
theorem Thing.ok_same {w w' : World} {t : Thing} (h : t.ok w) (hs : ∀ k, t.foot k → w'.heap[k]? = w.heap[k]?) : t.ok w' := by
  cases t with
  | q g v n l => exact QAt.same h hs
  | ids u D => exact row_same h hs
  | all u L => exact row_same h hs
structure Things (w0 w : World) (ts : List Thing) : Prop where
  own : Own w0 w (ts.map Thing.foot)
  ok : ∀ t ∈ ts, t.ok w
theorem Things.start (w : World) : Things w w [] := ⟨Own.start w, fun t ht => (by cases ht)⟩
theorem Things.get {w0 w : World} {ts : List Thing} (h : Things w0 w ts) (i : Nat) (hi : i < ts.length) : (ts[i]).ok w := h.ok _ (List.getElem_mem hi)
theorem Things.step {w0 w w' : World} {ts : List Thing} (h : Things w0 w ts) (i : Nat) (hi : i < ts.length) {t' : Thing} (hs : StepW w w' (ts[i]).foot t'.foot) (ht : t'.ok w') : Things w0 w' (ts.set i t') := by
  refine ⟨?_, fun t htm => ?_⟩
  · rw [List.map_set]
    exact h.own.step (i := i) (P := (ts[i]).foot) (by simpa using hi) (by simp) hs
  · obtain ⟨j, hj, rfl⟩ := List.mem_iff_getElem.1 htm
    have hj2 : j < ts.length := by simpa using hj
    rw [List.getElem_set]
    split
    · exact ht
    · rename_i hij
      refine Thing.ok_same (h.get j hj2) (fun k hk => ?_)
      have := h.own.keep (i := i) (P := (ts[i]).foot) (by simpa using hi) (by simp) hs j (by simpa using hj2) hij k
      simp only [List.getElem_map] at this
      exact this hk
theorem Things.below {w0 w w' : World} {ts : List Thing} (h : Things w0 w ts) (hb : Below w.heap.size w w') : Things w0 w' ts := by
  refine ⟨h.own.below hb, fun t ht => ?_⟩
  obtain ⟨j, hj, rfl⟩ := List.mem_iff_getElem.1 ht
  refine Thing.ok_same (h.get j hj) (fun k hk => ?_)
  have := h.own.keepB hb j (by simpa using hj) k
  simp only [List.getElem_map] at this
  exact this hk
theorem Things.new {w0 w w' : World} {ts : List Thing} {t : Thing} (h : Things w0 w ts) (hb : Below w.heap.size w w') (ht : t.ok w') (hn : ∀ k, t.foot k → w.heap.size ≤ k) : Things w0 w' (t :: ts) := by
  refine ⟨?_, fun s hs => ?_⟩
  · rw [List.map_cons]
    refine h.own.new hb (fun k hk => ⟨hn k hk, ?_⟩)
    cases t with
    | q g v n l =>
      rcases hk with rfl | hk
      · exact (Array.getElem?_eq_some_iff.1 (show QAt w' k v n l from ht).blk).1
      · exact (Row.live (show QAt w' g v n l from ht).row hk).2
    | ids u D => exact (Row.live (show Row w' 0 3 1 u D.length (ints D) from ht) hk).2
    | all u L => exact (Row.live (show Row w' 0 29 2 u L.length (ons L) from ht) hk).2
  · rcases List.mem_cons.1 hs with rfl | hs
    · exact ht
    · exact (h.below hb).ok s hs
theorem Things.base {w0 w : World} {ts : List Thing} (h : Things w0 w ts) : Below w0.heap.size w0 w := h.own.base
/-- a queue's turn, and a list that the turn has made -/
theorem Things.turn {w0 w w' : World} {ts : List Thing} (h : Things w0 w ts) (i : Nat) (hi : i < ts.length) {g : Nat} {v v' : Value} {n n' : Int} {l l' : List Tm} (he : ts[i] = .q g v n l) (hs : SetS w w' g v v' n' l') : Things w0 w' (ts.set i (.q g v' n' l')) := by
  have h0 := h.get i hi
  rw [he] at h0
  exact h.step i hi (t' := .q g v' n' l') (by rw [he]; exact hs.stepW h0) hs.q
/-- a list that the last turn has made, apart from the queue -/
theorem Things.made {w0 w w' : World} {ts : List Thing} {g : Nat} {v v' : Value} {n n' : Int} {l l' : List Tm} {i : Nat} {u : Value} {D : List Int} (h : Things w0 w ts) (hi : i < ts.length) (he : ts[i] = .q g v n l) (hs : SetS w w' g v v' n' l') (hr : Row w' w.heap.size 3 1 u D.length (ints D)) (ha : Apart u v') : Things w0 w' (.ids u D :: ts.set i (.q g v' n' l')) := by
  have h1 := h.turn i hi he hs
  have hg : g < w.heap.size := by
    have h0 := h.get i hi
    rw [he] at h0
    exact (Array.getElem?_eq_some_iff.1 (show QAt w g v n l from h0).blk).1
  refine ⟨⟨⟨fun P hP k hk => ?_, fun a b ha' hb' hab k hka hkb => ?_⟩, fun P hP k hk => ?_, h1.own.base⟩, fun t ht => ?_⟩
  · rw [List.map_cons] at hP
    rcases List.mem_cons.1 hP with rfl | hP
    · exact (Row.live hr hk).2
    · exact h1.own.held.live P hP k hk
  · have key : ∀ j (hj : j < ((ts.set i (.q g v' n' l')).map Thing.foot).length), ∀ k, u.ownBlock = some k → ¬ ((ts.set i (.q g v' n' l')).map Thing.foot)[j] k := by
      intro j hj k hk hkj
      have hlow := (Row.live hr hk).1
      rw [List.getElem_map, List.getElem_set] at hkj
      split at hkj
      · rcases hkj with rfl | hkj
        · omega
        · exact ha k hk hkj
      · rename_i hij
        have hj2 : j < ts.length := by simpa using hj
        have h3 := h.own.held.live (ts[j].foot) (by simp only [List.mem_map]; exact ⟨_, List.getElem_mem hj2, rfl⟩) k hkj
        omega
    cases a with
    | zero =>
      cases b with
      | zero => exact hab rfl
      | succ b => exact key b (by simpa using hb') k hka hkb
    | succ a =>
      cases b with
      | zero => exact key a (by simpa using ha') k hkb hka
      | succ b => exact h1.own.held.sep a b (by simpa using ha') (by simpa using hb') (by omega) k hka hkb
  · rw [List.map_cons] at hP
    rcases List.mem_cons.1 hP with rfl | hP
    · exact Nat.le_trans h.own.base.size (Row.live hr hk).1
    · exact h1.own.low P hP k hk
  · rcases List.mem_cons.1 ht with rfl | ht
    · exact hr.weak (Nat.zero_le _)
    · exact h1.ok t ht
end Go.Proofs.Ytcgihilcjijckaa.F
