import Derived.Test.YtcgihilcjijckaaB0
import Derived.Test.YtcgihilcjijckaaA0
import Derived.Test.YtcgihilcjijckaaProg
import Derived.Lib.Hide
import Derived.WalkMore
import Derived.DeepKeys
import Derived.Outline
set_option linter.unusedVariables false
set_option linter.unusedSimpArgs false
namespace Go.Proofs.Ytcgihilcjijckaa.F
open Go.RowKit Go.Proofs.Ytcgihilcjijckaa.K
/-- the program's timer -/
structure Tm where
  id : Int
  at_ : Int
  set_ : Int
def Tm.cells (t : Tm) : List Value := [.int .i64 t.id, .int .i64 t.at_, .int .i64 t.set_]
def On.cells (t : On) : List Value := [.int .i64 t.id, .int .i64 t.at_]
def Tm.on (t : Tm) : On := ⟨t.id, t.at_⟩
def tms (l : List Tm) : List Value := l.flatMap Tm.cells
def ons (l : List On) : List Value := l.flatMap On.cells
theorem tms_len (l : List Tm) : (tms l).length = l.length * 3 := by
  induction l with
  | nil => rfl
  | cons t l ih => unfold tms at *; rw [List.flatMap_cons, List.length_append, ih]; simp [Tm.cells]; omega
theorem ons_len (l : List On) : (ons l).length = l.length * 2 := by
  induction l with
  | nil => rfl
  | cons t l ih => unfold ons at *; rw [List.flatMap_cons, List.length_append, ih]; simp [On.cells]; omega
theorem tms_at {l : List Tm} {k : Nat} (hk : k < l.length) (j : Nat) (hj : j < 3) : (tms l)[k * 3 + j]? = l[k].cells[j]? := by
  induction l generalizing k with
  | nil => simp at hk
  | cons t l ih =>
    have hl : (Tm.cells t).length = 3 := rfl
    unfold tms at *
    rw [List.flatMap_cons]
    cases k with
    | zero =>
      rw [List.getElem?_append_left (by omega)]
      simp
    | succ k =>
      rw [List.getElem?_append_right (by omega), hl, show (k + 1) * 3 + j - 3 = k * 3 + j by omega, ih (by simpa using hk)]
      simp
theorem ons_at {l : List On} {k : Nat} (hk : k < l.length) (j : Nat) (hj : j < 2) : (ons l)[k * 2 + j]? = l[k].cells[j]? := by
  induction l generalizing k with
  | nil => simp at hk
  | cons t l ih =>
    have hl : (On.cells t).length = 2 := rfl
    unfold ons at *
    rw [List.flatMap_cons]
    cases k with
    | zero =>
      rw [List.getElem?_append_left (by omega)]
      simp
    | succ k =>
      rw [List.getElem?_append_right (by omega), hl, show (k + 1) * 2 + j - 2 = k * 2 + j by omega, ih (by simpa using hk)]
      simp
/-- a queue lies at a block: its slice's value, its count -/
structure QAt (w : World) (g : Nat) (v : Value) (n : Int) (l : List Tm) : Prop where
  blk : w.heap[g]? = some (.cells #[v, .int .i64 n] 61 (0, 0))
  row : Row w 0 63 3 v l.length (tms l)
  ne : v.ownBlock ≠ some g
structure RAt (w : World) (g : Nat) (v : Value) (l : List On) : Prop where
  blk : w.heap[g]? = some (.cells #[v] 41 (0, 0))
  row : Row w 0 29 2 v l.length (ons l)
  ne : v.ownBlock ≠ some g
theorem QAt.form {w : World} {g : Nat} {v : Value} {n : Int} {l : List Tm} (h : QAt w g v n l) : ∃ A cap, v = .slice A l.length cap ∧ l.length ≤ cap ∧ cap ≤ maxLen ∧ (A = none → l = []) := by
  rcases h.row.form with ⟨h1, h2⟩ | ⟨g', cap, cur, h1, -, -, h4, h5, -⟩
  · exact ⟨none, 0, by rw [h2]; exact h1, by omega, by simp [maxLen], fun _ => List.eq_nil_of_length_eq_zero h2⟩
  · exact ⟨_, cap, h1, h4, h5, fun e => by cases e⟩
theorem QAt.cell {w : World} {g : Nat} {A : Option Addr} {cap : Nat} {n : Int} {l : List Tm} (h : QAt w g (.slice A l.length cap) n l) {k : Nat} (hk : k < l.length) : ∃ b, A = some ⟨b, 0, none⟩ ∧ b ≠ g ∧ w.cell? ⟨b, k * 3, none⟩ = some (.int .i64 l[k].id) ∧ w.cell? ⟨b, k * 3 + 1, none⟩ = some (.int .i64 l[k].at_) ∧ w.cell? ⟨b, k * 3 + 2, none⟩ = some (.int .i64 l[k].set_) := by
  obtain ⟨b, hA, -, h0⟩ := h.row.cell (j := k * 3 + 0) (u := .int .i64 l[k].id) (by rw [tms_at hk 0 (by omega)]; rfl)
  obtain ⟨b1, hA1, -, h1⟩ := h.row.cell (j := k * 3 + 1) (u := .int .i64 l[k].at_) (by rw [tms_at hk 1 (by omega)]; rfl)
  obtain ⟨b2, hA2, -, h2⟩ := h.row.cell (j := k * 3 + 2) (u := .int .i64 l[k].set_) (by rw [tms_at hk 2 (by omega)]; rfl)
  subst hA
  cases hA1
  cases hA2
  refine ⟨b, rfl, fun e => h.ne (by rw [e]; rfl), h0, h1, h2⟩
theorem QAt.below {w w' : World} {g : Nat} {v : Value} {n : Int} {l : List Tm} (h : QAt w g v n l) (hb : Below w.heap.size w w') : QAt w' g v n l :=
  ⟨(hb.block g (Array.getElem?_eq_some_iff.1 h.blk).1).trans h.blk, h.row.below hb, h.ne⟩
theorem QAt.c0 {w : World} {g : Nat} {v : Value} {n : Int} {l : List Tm} (h : QAt w g v n l) : w.cell? ⟨g, 0, none⟩ = some v := (cell_of_row _ _ _ _ _ _ h.blk).trans rfl
theorem QAt.c1 {w : World} {g : Nat} {v : Value} {n : Int} {l : List Tm} (h : QAt w g v n l) : w.cell? ⟨g, 1, none⟩ = some (.int .i64 n) := (cell_of_row _ _ _ _ _ _ h.blk).trans rfl
theorem QAt.free {w : World} {g : Nat} {v : Value} {n : Int} {l : List Tm} (h : QAt w g v n l) (j : Nat) : w.frozen? ⟨g, j, none⟩ = false := frozen_of_row _ _ _ _ _ h.blk
variable (g : Nat) (w : World)
def FindR (l : List On) (id : Int) (w : World) (e : Ending) (w' : World) : Prop := ∃ k : Int, e = .returned (.int .i64 k) ∧ FindAt l id k ∧ Below w.heap.size w w'
theorem FindAt.step {l : List On} {id : Int} {n : Nat} (hn : n < l.length) (h : ∀ (j : Nat) (hj : j < l.length), j < n → l[j].id ≠ id) (he : l[n].id ≠ id) : ∀ (j : Nat) (hj : j < l.length), j < n + 1 → l[j].id ≠ id := by
  intro j hj hjn
  by_cases e : j = n
  · subst e; exact he
  · exact h j hj (by omega)
set_option maxHeartbeats 2000000 in
theorem find38 (v : Value) (n : Int) (l : List Tm) (id : Int) (h : QAt w g v n l) : Calls Try.prog 38 #[.pointer (some ⟨g, 0, none⟩), .int .i64 id] w (FindR (l.map Tm.on) id w) := by
  have HQ := Lib.hid h
  have c0 := h.c0
  obtain ⟨A, cap, rfl, k1, k2, k3⟩ := h.form
  have K3 := Lib.hid k3
  clear h k3
  unfold maxLen at k2
  go_enter Try.func38, Try.ntmps38
  go_wp2_with fail
  clear c0
  go_loopw [5, 6, 12] (fun _ _ i wr => ∃ k : Nat, k ≤ l.length ∧ i = .int .i64 k ∧ Hid (∀ (j : Nat) (hj : j < (l.map Tm.on).length), j < k → (l.map Tm.on)[j].id ≠ id) ∧ Below w.heap.size w wr) (fun _ _ i _ => l.length - (intOf i).toNat)
  case atStart => exact ⟨0, by omega, rfl, Lib.hid (fun j hj h0 => by omega), Below.refl _ _⟩
  case round =>
    obtain ⟨k, hk, rfl, HN, hB⟩ := hrel
    by_cases hkl : k < l.length
    · obtain ⟨b, rfl, hbg, d0, d1, d2⟩ := (HQ.out.below hB).cell hkl
      have HS : Hid ((l.map Tm.on)[k]'(by simpa using hkl) = l[k].on) := Lib.hid (by simp)
      generalize l[k] = t at *
      obtain ⟨ti, ta, ts⟩ := t
      simp only at d0 d1 d2
      have hi0 : (0 : Int) ≤ (k : Int) := by omega
      have hia : (k : Int) < (l.length : Int) := by omega
      by_cases hx : ti = id
      · subst hx
        go_wp2_with fail
        go_ret
        exact ⟨k, rfl, .inr ⟨k, by simpa using hkl, rfl, by rw [HS.out]; rfl⟩, hB.alloc hB.size _⟩
      · have HX := Lib.hid hx
        have hxb : (ti == id) = false := beq_eq_false_iff_ne.2 hx
        go_wp2_with fail
        go_roundw
        case rel => exact ⟨k + 1, by omega, by go_num, Lib.hid (FindAt.step (by simpa using hkl) HN.out (by rw [HS.out]; exact HX.out)), hB.alloc hB.size _⟩
        case measure => simp [intOf]; omega
    · obtain rfl : k = l.length := by omega
      go_wp2_with fail
      go_ret
      exact ⟨-1, rfl, .inl ⟨rfl, fun y hy => by obtain ⟨j, hj, rfl⟩ := List.mem_iff_getElem.1 hy; exact HN.out j hj (by simpa using hj)⟩, hB⟩
end Go.Proofs.Ytcgihilcjijckaa.F
