import Derived.Test.YtamkfalafnlomaaE8
import Derived.Test.YtamkfalafnlomaaS
import Derived.Lib.SmallJoins
import Derived.Outline
set_option linter.unusedVariables false
set_option linter.unusedSimpArgs false
namespace Go.Proofs.Ytamkfalafnlomaa.F
open Go.RowKit Go.Proofs.Ytamkfalafnlomaa.K
open Go.ChangeShapes Go.WideShapes
def O.cells (o : O) : List Value := [.int .i64 o.k, .int .i64 o.ev, .bool o.a, .bool o.b]
theorem read_op {H : Type} {enc : TypeId × Value → H} {W : World} {base : Nat} {spare : Nat → Bool} {held : Bool} (fuel : Nat) (cs : List Value) (x : DataW H × List MemPlace) (h : DataW.trod enc Try.prog W base spare held fuel 32 cs = some x) : ∃ o : O, cs = o.cells ∧ True := by
  have c32 : Try.prog.cellsOf 32 = 4 := by kernel_rfl
  have c3 : Try.prog.cellsOf 3 = 1 := by kernel_rfl
  have c4 : Try.prog.cellsOf 4 = 1 := by kernel_rfl
  obtain ⟨y0, y1, y2, y3, n, _, hl, h0, h1, h2, h3⟩ := Joins.trod_struct4 Try.underlying32 h
  rw [c32] at hl
  match cs, hl with
  | [v0, v1, v2, v3], _ =>
    simp [c3, c4] at h0 h1 h2 h3
    obtain ⟨z0, e0, _⟩ := DataW.trod_int Try.underlying3 h0
    obtain ⟨z1, e1, _⟩ := DataW.trod_int Try.underlying3 h1
    obtain ⟨z2, e2, _⟩ := DataW.trod_bool Try.underlying4 h2
    obtain ⟨z3, e3, _⟩ := DataW.trod_bool Try.underlying4 h3
    simp at e0 e1 e2 e3
    subst e0 e1 e2 e3
    exact ⟨⟨z0, z1, z2, z3⟩, rfl, trivial⟩
theorem open_ops {H : Type} {enc : TypeId × Value → H} {W : World} {base : Nat} {spare : Nat → Bool} {held : Bool} {v : Value} {d : DataW H} {ps : List MemPlace} (hv : ∃ a len cap, v = .slice a len cap) (h : DataW.Trod enc Try.prog W base spare held 28 v d ps) : ∃ l : List O, RecsAt W v 4 O.cells l := by
  obtain ⟨l, hl, _⟩ := open_recs (n := 4) O.cells (fun _ => True) Try.underlying28 (by kernel_rfl) (by decide) (fun fuel cs y hy => read_op fuel cs y hy) hv h
  exact ⟨l, hl⟩
/-! ### what a step leaves is in its bounds -/
theorem ok_to {T : Tk} {n N : Int} (h : T.ok N) (hn : n = 0 ∨ n = 1 ∨ n = 2 ∨ n = 3 ∨ n = 4) : (T.to n).ok (N + 1) := by
  unfold Tk.to
  split
  · unfold Tk.ok at *; omega
  · unfold Tk.ok at *
    simp only
    refine ⟨by omega, by omega, ?_⟩
    refine ⟨?_, ?_, ?_, ?_, ?_, ?_, ?_, ?_, ?_, ?_⟩ <;> (split <;> omega)
theorem ok_more {T : Tk} {N : Int} (h : T.ok N) : T.ok (N + 1) := by unfold Tk.ok at *; omega
theorem ok_goOn {T : Tk} {a b N : Int} (h : T.ok N) (ha : a = 3) (hb : b = 0 ∨ b = 2) : (T.goOn a b).ok (N + 1) := by
  unfold Tk.goOn
  split
  · exact ok_to h (by omega)
  · split
    · exact ok_more h
    · exact ok_to h (by omega)
theorem ok_prove {T : Tk} {k N : Int} (h : T.ok N) : (T.prove k).1.ok (N + 1) := by
  unfold Tk.prove
  split
  · exact ok_more h
  · split
    · refine ok_goOn ?_ rfl (.inl rfl)
      split
      · exact ok_same h rfl rfl rfl rfl rfl rfl
      · exact ok_same h rfl rfl rfl rfl rfl rfl
    · exact ok_more h
theorem ok_act {T : Tk} {e N : Int} (h : T.ok N) : (T.act e).1.ok (N + 1) := by
  unfold Tk.act
  split
  · exact ok_prove h
  · split
    · rename_i h2
      refine ok_to ?_ (nx_k _ _ h2)
      split
      · exact ok_same h rfl rfl rfl rfl rfl rfl
      · exact h
    · exact ok_more h
theorem ok_opened {T : Tk} {a b : Bool} {N : Int} (h : T.ok N) : (T.opened a b).1.ok (N + 1) := by
  unfold Tk.opened
  split
  · exact ok_more h
  · split
    · exact ok_goOn (ok_same h rfl rfl rfl rfl rfl rfl) rfl (.inr rfl)
    · exact ok_more h
theorem ok_step {T : Tk} {o : O} {N : Int} (h : T.ok N) : (T.step o).ok (N + 1) := by
  unfold Tk.step
  split
  · exact ok_act h
  · split
    · exact ok_opened h
    · exact ok_more h
end Go.Proofs.Ytamkfalafnlomaa.F
