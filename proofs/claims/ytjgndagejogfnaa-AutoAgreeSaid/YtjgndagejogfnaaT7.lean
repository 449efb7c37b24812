import Derived.Test.YtjgndagejogfnaaT6
import Derived.BigQuiet
import Derived.Deep.QuietTactic
set_option linter.unusedVariables false
set_option linter.unusedSimpArgs false
namespace Go.Proofs.Ytjgndagejogfnaa.F
open Go.RowKit Go.Proofs.Ytjgndagejogfnaa.K
theorem below_drewN {B : Nat} {w0 w : World} (h : Below B w0 w) (n : Nat) : Below B w0 (w.drewN n) := ⟨h.os, h.tape, h.output, h.size, h.block⟩
def rowE (e : Int) : List (Int × List Int) := (tab.getD e.toNat []).map fun x => match x with | none => (-1, []) | some y => y
theorem row_any (e : Int) (w : World) (h0 : 0 ≤ e) (h1 : e ≤ 15) : Calls Try.prog 38 #[.int .i64 e] w (RowR (rowE e) w) := by
  rcases (show e = 0 ∨ e = 1 ∨ e = 2 ∨ e = 3 ∨ e = 4 ∨ e = 5 ∨ e = 6 ∨ e = 7 ∨ e = 8 ∨ e = 9 ∨ e = 10 ∨ e = 11 ∨ e = 12 ∨ e = 13 ∨ e = 14 ∨ e = 15 by omega) with rfl | rfl | rfl | rfl | rfl | rfl | rfl | rfl | rfl | rfl | rfl | rfl | rfl | rfl | rfl | rfl
  · exact row_0 w
  · exact row_1 w
  · exact row_2 w
  · exact row_3 w
  · exact row_4 w
  · exact row_5 w
  · exact row_6 w
  · exact row_7 w
  · exact row_8 w
  · exact row_9 w
  · exact row_10 w
  · exact row_11 w
  · exact row_12 w
  · exact row_13 w
  · exact row_14 w
  · exact row_15 w
theorem TabR.at {B : Nat} {w : World} {es : List (Int × List Int)} {cs : List Value} (h : TabR B w es cs) : ∀ s (hs : s < es.length), ∃ A m c, (cs.drop (2 * s)).take 2 = [.int .i64 es[s].1, .slice A m c] ∧ Own B w (.slice A m c) es[s].2 := by
  induction h with
  | nil => intro s hs; cases hs
  | @cons n l A m c es cs h _ ih =>
    intro s hs
    cases s with
    | zero => exact ⟨A, m, c, rfl, h⟩
    | succ s =>
      obtain ⟨A', m', c', h1, h2⟩ := ih s (by simpa using hs)
      refine ⟨A', m', c', ?_, h2⟩
      rw [show 2 * (s + 1) = 2 * s + 1 + 1 by omega]
      simpa using h1
theorem rowE_len (e : Int) (h0 : 0 ≤ e) (h1 : e ≤ 15) : (rowE e).length = 10 := by
  have h : ∀ i : Fin 16, (rowE (i.val : Int)).length = 10 := by decide +kernel
  have := h ⟨e.toNat, by omega⟩
  rwa [show ((e.toNat : Nat) : Int) = e by omega] at this
theorem rowE_at (s e : Int) (hi : inT s e) (hs : s.toNat < (rowE e).length) : (rowE e)[s.toNat] = match ent s e with | none => (-1, []) | some y => y := by
  unfold rowE ent at *
  have hl : s.toNat < (tab.getD e.toNat []).length := by simpa using hs
  rw [List.getElem_map]
  rw [List.getD_eq_getElem?_getD (i := s.toNat), List.getElem?_eq_getElem hl]
  rfl
theorem isAgg61 (w : World) : (isAgg 61).run Try.prog w = .ok true w := by kernel_rfl
theorem run_index62 (w : World) (cs : List Value) (s : Int) (n : Int) (A : Option Addr) (m c : Nat) (h0 : 0 ≤ s) (h1 : s ≤ 9) (h : (cs.drop (2 * s.toNat)).take 2 = [.int .i64 n, .slice A m c]) : (Instr.index 62 (.agg cs.toArray) (.int .i64 s)).run Try.prog w = .ok (.agg #[.int .i64 n, .slice A m c]) w := by
  have he : cs.toArray.extract (s.toNat * 2) (s.toNat * 2 + 2) = #[.int .i64 n, .slice A m c] := by
    rw [show s.toNat * 2 = 2 * s.toNat by omega]
    have : (cs.toArray.extract (2 * s.toNat) (2 * s.toNat + 2)).toList = [.int .i64 n, .slice A m c] := by
      rw [← h]; simp [List.extract_eq_take_drop]
    exact Array.toList_inj.1 (by simpa using this)
  have hs : (sizeOf 61).run Try.prog w = .ok 2 w := by kernel_rfl
  have hc : 0 ≤ s ∧ s < 10 := by omega
  simp [Instr.index, asIntOf, run_underlying Try.underlying62, hc, hs, part, isAgg61, he]
  rw [Nat.mul_comm]
  exact h
/-- what the table says, in memory -/
structure NextR (s e : Int) (w : World) (r : Ending) (w' : World) : Prop where
  ret : ∃ v, r = .returned (.tuple #[.int .i64 (nx s e).1, v, .int .i64 (nx s e).2.2]) ∧ Own w.heap.size w' v (nx s e).2.1
  bel : Below w.heap.size w w'
theorem next_out (s e : Int) (w : World) (h : ¬ inT s e) : Calls Try.prog 12 #[.int .i64 s, .int .i64 e] w (NextR s e w) := by
  have hn : nx s e = (0, [], 1) := if_neg h
  have fin : NextR s e w (.returned (.tuple #[.int .i64 0, .slice none 0 0, .int .i64 1])) w := ⟨⟨_, by rw [hn], by rw [hn]; exact own_nil _ _⟩, Below.refl _ _⟩
  clear hn
  unfold inT at h
  by_cases a : s < 0
  · go_enter Try.func12, Try.ntmps12
    go_wp2
    go_ret3
    exact fin
  · by_cases b : 10 ≤ s
    · go_enter Try.func12, Try.ntmps12
      go_wp2
      go_ret3
      exact fin
    · by_cases c : e < 0
      · go_enter Try.func12, Try.ntmps12
        go_wp2
        go_ret3
        exact fin
      · have d : 16 ≤ e := by omega
        go_enter Try.func12, Try.ntmps12
        go_wp2
        go_ret3
        exact fin
set_option maxRecDepth 100000 in
theorem next12 (s e : Int) (w : World) : Calls Try.prog 12 #[.int .i64 s, .int .i64 e] w (NextR s e w) := by
  by_cases hi : inT s e
  · have hi' := hi
    obtain ⟨h0, h9, h1, h15⟩ := hi'
    have hn : nx s e = match ent s e with | none => (0, [], 290) | some (t, l) => (t, l, 0) := if_pos hi
    have hl := rowE_len e h1 h15
    have hat := rowE_at s e hi (by omega)
    cases he : ent s e with
    | none =>
      rw [he] at hn hat
      have fin : ∀ w', Below w.heap.size w w' → NextR s e w (.returned (.tuple #[.int .i64 0, .slice none 0 0, .int .i64 290])) w' := fun w' hb => ⟨⟨_, by rw [hn], by rw [hn]; exact own_nil _ _⟩, hb⟩
      clear hn he
      go_enter Try.func12, Try.ntmps12
      go_wp2_with fail
      refine (row_any e _ h1 h15).mono ?_
      rintro r w1 ⟨⟨cs, rfl, hT⟩, hB⟩
      obtain ⟨A, m, c, h2, h3⟩ := hT.at s.toNat (by omega)
      rw [hat] at h2 h3
      have hx := fun w => run_index62 w cs s _ A m c h0 h9 h2
      have hz : (1 : Int) < 2 := by decide
      clear hT h2 h3 hat hl hi h15 h9
      go_wp2
      go_ret3
      exact fin _ (hB.alloc hB.size _)
    | some y =>
      obtain ⟨t, l⟩ := y
      rw [he] at hn hat
      have ht := (ent_to hi he).1
      have fin : ∀ w' v, Below w.heap.size w w' → Own w.heap.size w' v l → NextR s e w (.returned (.tuple #[.int .i64 t, v, .int .i64 0])) w' := fun w' v hb ho => ⟨⟨_, by rw [hn], by rw [hn]; exact ho⟩, hb⟩
      clear hn he
      go_enter Try.func12, Try.ntmps12
      go_wp2_with fail
      refine (row_any e _ h1 h15).mono ?_
      rintro r w1 ⟨⟨cs, rfl, hT⟩, hB⟩
      obtain ⟨A, m, c, h2, h3⟩ := hT.at s.toNat (by omega)
      rw [hat] at h2 h3
      have hx := fun w => run_index62 w cs s _ A m c h0 h9 h2
      have H3 := Lib.hid h3
      clear hT h2 h3 hat hl hi h15 h9
      go_wp2
      go_quiet (fail)
      go_wp2
      go_ret3
      exact fin _ _ (below_drewN (hB.alloc hB.size _) _) (H3.out.below (below_drewN ((Below.refl _ _).alloc (Nat.le_refl _) _) _))
  · exact next_out s e w hi
end Go.Proofs.Ytjgndagejogfnaa.F
