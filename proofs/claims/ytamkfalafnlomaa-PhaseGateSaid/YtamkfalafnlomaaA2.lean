import Derived.Test.YtamkfalafnlomaaA1
import Derived.DeepKeys
set_option linter.unusedVariables false
set_option linter.unusedSimpArgs false
namespace Go.Proofs.Ytamkfalafnlomaa.F
open Go.RowKit Go.Proofs.Ytamkfalafnlomaa.K
/-- all is proved that must be -/
def Tk.whole (T : Tk) : Bool := (T.ia || !T.ma) && (T.ib || !T.mb)
theorem whole37 (g : Nat) (T : Tk) (w : World) (h : TkAt w 43 g T) :
  Calls Try.prog 37 #[.pointer (some ⟨g, 0, none⟩)] w fun e w' => e = .returned (.bool T.whole) ∧ w' = w := by
  have c1 := h.c1
  have c2 := h.c2
  have c3 := h.c3
  have c4 := h.c4
  clear h
  obtain ⟨ph, ma, mb, ia, ib, t0, t1, t2, t3, t4⟩ := T
  cases ma <;> cases mb <;> cases ia <;> cases ib
  all_goals
    go_enter Try.func37, Try.ntmps37
    go_wp2
    go_ret
    exact ⟨rfl, rfl⟩
theorem forget39 (g : Nat) (T : Tk) (w : World) (h : TkAt w 43 g T) :
  Calls Try.prog 39 #[.pointer (some ⟨g, 0, none⟩)] w fun e w' => e = .returned (.tuple #[]) ∧ TkAt w' 43 g { T with ma := false, mb := false, ia := false, ib := false } ∧ w.grownBy w' (some g) := by
  have c1 := h.c1
  have c2 := h.c2
  have c3 := h.c3
  have c4 := h.c4
  have f1 := h.free 1
  have f2 := h.free 2
  have f3 := h.free 3
  have f4 := h.free 4
  have H := Lib.hid h
  clear h
  go_enter Try.func39, Try.ntmps39
  go_wp2
  go_end0
  exact ⟨rfl, (((H.out.set 1 (T' := { T with ma := false }) _ rfl).set 2 (T' := { T with ma := false, mb := false }) _ rfl).set 3 (T' := { T with ma := false, mb := false, ia := false }) _ rfl).set 4 _ rfl, grown_setCell (grown_setCell (grown_setCell (grown_setCell (grown_refl _ _) _ _) _ _) _ _) _ _⟩
theorem eq_deep {P : Program} (w : World) {m : Nat} (hm : m ≤ 10000) {t : TypeId} (hk : P.keyTypeAt m t = true) {D D' : Nat} {x y : Value} {L1 L2 : List Lit} (fx : x.formed P t = true) (fy : y.formed P t = true)
    (h1 : P.keyLits D t x.cells.toList = some L1) (h2 : P.keyLits D' t y.cells.toList = some L2) {r : Bool} (hr : r = true ↔ L1 = L2) : (Op.equalIn 10000 t x y).run P w = .ok r w := by
  obtain ⟨r', hr', hiff⟩ := run_equalIn_deep (10000 - m) m t hk w _ _ x y L1 L2 fx fy h1 h2
  rw [show 10000 - m + m = 10000 by omega] at hr'
  rw [hr']
  congr 1
  cases r <;> cases r' <;> simp_all
@[local go_sem] theorem eq55 (a b c d : Bool) (w : World) : (Op.equalIn 10000 55 (.agg #[.bool a, .bool b]) (.agg #[.bool c, .bool d])).run Try.prog w = .ok (a == c && b == d) w :=
  eq_deep w (m := 2) (by decide) (by kernel_rfl) (D := 2) (D' := 2) (L1 := [.bool a, .bool b]) (L2 := [.bool c, .bool d]) (by kernel_rfl) (by kernel_rfl) (by kernel_rfl) (by kernel_rfl) (by cases a <;> cases b <;> cases c <;> cases d <;> simp)
theorem setcell_blk {w : World} {g j : Nat} {cs cs' : Array Value} {ty : TypeId} (h : w.heap[g]? = some (.cells cs ty (0, 0))) (v : Value) (e : cs.setIfInBounds j v = cs') : (w.setCell ⟨g, j, none⟩ v).heap[g]? = some (.cells cs' ty (0, 0)) := by
  rw [← e]; exact heap_setCell_same _ _ _ _ _ _ h
theorem whole32 (ma mb ia ib : Bool) (w : World) :
  Calls Try.prog 32 #[.agg #[.bool ma, .bool mb, .bool ia, .bool ib]] w fun e w' => e = .returned (.bool ((ia || !ma) && (ib || !mb))) ∧ Below w.heap.size w w' := by
  go_enter Try.func32, Try.ntmps32
  go_wp2
  generalize hW : World.alloc (World.alloc _ _) _ = W
  have hb0 : Below w.heap.size w W := by rw [← hW]; exact ((Below.refl _ w).alloc (Nat.le_refl _) _).alloc (by simp) _
  have H0 : Hid (W.heap[w.heap.size]? = some (.cells #[.bool ma, .bool mb, .bool ia, .bool ib] 57 (0, 0))) := by rw [← hW]; exact Lib.hid (heap_alloc2_old _ _ _)
  have H1 : Hid (W.heap[w.heap.size + 1]? = some (.cells #[.bool ia, .bool ib] 55 (0, 0))) := by rw [← hW]; exact Lib.hid (heap_alloc2_new _ _ _)
  clear hW
  go_loopw [7] (fun i wr => ∃ x y : Bool, ∃ k : Nat, (k = 0 ∧ x = ia ∧ y = ib ∨ k = 1 ∧ x = (ia || !ma) ∧ y = ib ∨ k = 2 ∧ x = (ia || !ma) ∧ y = (ib || !mb)) ∧ i = .int .i64 k ∧ Hid (wr.heap[w.heap.size]? = some (.cells #[.bool ma, .bool mb, .bool ia, .bool ib] 57 (0, 0))) ∧ Hid (wr.heap[w.heap.size + 1]? = some (.cells #[.bool x, .bool y] 55 (0, 0))) ∧ Below w.heap.size w wr) (fun i _ => 2 - (intOf i).toNat)
  case atStart => exact ⟨ia, ib, 0, .inl ⟨rfl, rfl, rfl⟩, rfl, H0, H1, hb0⟩
  case round =>
    clear H0 H1 hb0 W
    obtain ⟨x, y, k, hk, rfl, H0, H1, hb⟩ := hrel
    have a0 : wr.cell? ⟨w.heap.size, 0, none⟩ = some (.bool ma) := (cell_of_row _ _ _ _ _ _ H0.out).trans rfl
    have a1 : wr.cell? ⟨w.heap.size, 1, none⟩ = some (.bool mb) := (cell_of_row _ _ _ _ _ _ H0.out).trans rfl
    have b0 : wr.cell? ⟨w.heap.size + 1, 0, none⟩ = some (.bool x) := (cell_of_row _ _ _ _ _ _ H1.out).trans rfl
    have b1 : wr.cell? ⟨w.heap.size + 1, 1, none⟩ = some (.bool y) := (cell_of_row _ _ _ _ _ _ H1.out).trans rfl
    have f0 := frozen_of_row wr (w.heap.size + 1) 0 _ 55 H1.out
    have f1 := frozen_of_row wr (w.heap.size + 1) 1 _ 55 H1.out
    rcases hk with ⟨rfl, rfl, rfl⟩ | ⟨rfl, rfl, rfl⟩ | ⟨rfl, rfl, rfl⟩
    · cases x
      all_goals
        go_wp2
        go_roundw
        case rel =>
          refine ⟨_, _, 1, .inr (.inl ⟨rfl, rfl, rfl⟩), by go_num, ?_, ?_, hb.setCell (by simp) _⟩
          · rw [heap_setCell_other _ _ _ _ (by simp)]; exact H0
          · exact Lib.hid (setcell_blk H1.out _ rfl)
        case measure => simp [intOf]
    · cases y
      all_goals
        go_wp2
        go_roundw
        case rel =>
          refine ⟨_, _, 2, .inr (.inr ⟨rfl, rfl, rfl⟩), by go_num, ?_, ?_, hb.setCell (by simp) _⟩
          · rw [heap_setCell_other _ _ _ _ (by simp)]; exact H0
          · exact Lib.hid (setcell_blk H1.out _ rfl)
        case measure => simp [intOf]
    · cases ma <;> cases mb <;> cases ia <;> cases ib
      all_goals
        go_wp2
        go_ret
        exact ⟨rfl, hb⟩
end Go.Proofs.Ytamkfalafnlomaa.F
