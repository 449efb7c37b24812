import Derived.Test.YtedhldcoddbbdaaW1
import Derived.WalkKit
import Derived.Tactics2
import Derived.Outline
import Derived.Deep.LoopGhost
import Derived.Deep.WholeRow
set_option linter.unusedVariables false
set_option linter.unusedSimpArgs false
set_option linter.unnecessarySimpa false
namespace Go.Proofs.Ytedhldcoddbbdaa.F
open Go.RowKit Go.Proofs.Ytedhldcoddbbdaa.K
theorem ReadsB.at_ {w W : World} {A : Option Addr} {l : List (BitVec 8)} (h : ReadsB w A l) (hb : Below w.heap.size w W) (j : Nat) (hj : j < l.length) :
    ∃ b o, A = some ⟨b, o, none⟩ ∧ W.cell? ⟨b, o + j, none⟩ = some (.int .u8 (v8 l[j])) := by
  obtain ⟨b, o, rfl, hc⟩ := h j hj
  exact ⟨b, o, rfl, (hb.cell (World.block_lt_of_cell? w _ hc)).trans hc⟩
theorem ReadsB.get {w W : World} {b o : Nat} {l : List (BitVec 8)} (h : ReadsB w (some ⟨b, o, none⟩) l) (hb : Below w.heap.size w W) (j : Nat) (hj : j < l.length) :
    W.cell? ⟨b, o + j, none⟩ = some (.int .u8 (v8 l[j])) := by
  obtain ⟨b', o', e, hc⟩ := h.at_ hb j hj
  injection e with e; injection e with e1 e2 e3; subst e1; subst e2; exact hc
theorem ReadsB.nonempty {w : World} {A : Option Addr} {a : BitVec 8} {l : List (BitVec 8)} (h : ReadsB w A (a :: l)) : ∃ b o, A = some ⟨b, o, none⟩ := by
  obtain ⟨b, o, rfl, _⟩ := h 0 (by simp); exact ⟨b, o, rfl⟩
theorem ReadsB.head {w W : World} {b o : Nat} {a : BitVec 8} {l : List (BitVec 8)} (h : ReadsB w (some ⟨b, o, none⟩) (a :: l)) (hb : Below w.heap.size w W) :
    W.cell? ⟨b, o, none⟩ = some (.int .u8 (v8 a)) := h.get hb 0 (by simp)
theorem ReadsB.drop {w : World} {b o : Nat} {l : List (BitVec 8)} (h : ReadsB w (some ⟨b, o, none⟩) l) (k : Nat) : ReadsB w (some ⟨b, o + k, none⟩) (l.drop k) := by
  intro j hj
  have hj' : k + j < l.length := by simp at hj; omega
  obtain ⟨b', o', e, hc⟩ := h (k + j) hj'
  injection e with e; injection e with e1 e2 e3; subst e1; subst e2
  exact ⟨b, o + k, rfl, by rw [Nat.add_assoc]; simpa using hc⟩
theorem heap_alloc3_new (w : World) (A B C : Obj) : (((w.alloc A).alloc B).alloc C).heap[w.heap.size + 1 + 1]? = some C := by
  have h := heap_alloc_new ((w.alloc A).alloc B) C
  simpa using h
theorem below_setRow3 (w : World) (A B : Obj) (cs old : Array Value) (t : TypeId) : Below w.heap.size w ((((w.alloc A).alloc B).alloc (.cells old t)).setRow (w.heap.size + 1 + 1) cs) :=
  ⟨rfl, rfl, rfl, by simp; omega, fun k hk => by rw [setRow_other _ _ _ _ (by omega), heap_alloc_old _ _ (by simp; omega), heap_alloc_old _ _ (by simp; omega), heap_alloc_old _ _ hk]⟩
theorem st16_start (w : World) (r : BitVec 16) (B : Obj) (old : Array Value) (t : Nat) : St16 w ((((w.alloc (.cells #[.int .u16 (v16 r)] t)).alloc B).alloc (.cells old 87)).setRow (w.heap.size + 1 + 1) tab16) w.heap.size (w.heap.size + 1 + 1) r := by
  have hb : (((((w.alloc (.cells #[.int .u16 (v16 r)] t)).alloc B).alloc (.cells old 87)).setRow (w.heap.size + 1 + 1) tab16)).heap[w.heap.size]? = some (.cells #[.int .u16 (v16 r)] t) := by
    rw [setRow_other _ _ _ _ (by omega), heap_alloc_old _ _ (by simp; omega), heap_alloc_old _ _ (by simp)]; exact heap_alloc_new _ _
  exact ⟨below_setRow3 _ _ _ _ _ _, Nat.le_refl _, by omega, (cell_of_row _ _ _ _ _ _ hb).trans rfl, frozen_of_row _ _ _ _ _ hb, fun x => tab16_cell (setRow_heap _ _ _ _ _ _ (heap_alloc3_new _ _ _ _)) x⟩
/-- How the loop stands. -/
def At16 (w : World) (c0 : BitVec 16) (R T : Nat) (s : Value) (W : World) : Prop :=
  ∃ (A : Option Addr) (rest : List (BitVec 8)) (cap : Nat) (x : BitVec 16), s = .slice A rest.length cap ∧ rest.length ≤ cap ∧ cap ≤ maxLen ∧ ReadsB w A rest ∧ St16 w W R T x ∧ crc P16 x rest = c0
set_option maxHeartbeats 4000000 in
theorem on16 (r : BitVec 16) (l : List (BitVec 8)) (A : Option Addr) (cap : Nat) (w : World) (h : ReadsB w A l) (hl : l.length ≤ maxLen) (hc : l.length ≤ cap) (hcm : cap ≤ maxLen) :
  Calls Try.prog 50 #[.int .u16 (v16 r), .slice A l.length cap] w fun e w' => e = .returned (.int .u16 (v16 (crc P16 r l))) ∧ Below w.heap.size w w' := by
  go_enter Try.func50, Try.ntmps50
  go_wp2_with (first | (go_at_call 52; refine (half16 _).mono ?_; rintro e w' ⟨rfl, rfl⟩) | (refine wpList_store_row (o := ⟨none, .store 87 (.tmp 5) (.tmp 7), _, _, _, _⟩) rfl 87 (.tmp 5) (.tmp 7) rfl _ tab16 (by rfl) (by rfl) 87 _ (by exact heap_alloc3_new _ _ _ _) (by kernel_rfl) (by kernel_rfl) (by kernel_rfl) ?_))
  generalize hW : World.setRow _ _ _ = W
  have hst : St16 w W w.heap.size (w.heap.size + 1 + 1) r := by rw [← hW]; exact st16_start _ _ _ _ _
  clear hW
  go_loopw [1] (fun s wr => At16 w (crc P16 r l) w.heap.size (w.heap.size + 1 + 1) s wr) (fun s _ => match s with | .slice _ n _ => n | _ => 0)
  case atStart => exact ⟨A, l, cap, r, rfl, hc, hcm, h, hst, rfl⟩
  case round =>
    obtain ⟨A', rest, cap', x, rfl, hcap, hcm', hrd, hS, hcrc⟩ := hrel
    rcases rest with _ | ⟨a, _ | ⟨b, _ | ⟨c, _ | ⟨d, tl⟩⟩⟩⟩
    · have hcell := hS.cell
      go_wp2
      go_ret
      exact ⟨by rw [← hcrc]; rfl, hS.bel⟩
    · obtain ⟨bk, o, rfl⟩ := hrd.nonempty
      have c0 := hrd.head hS.bel
      go_wp2_with (go_at_call 53; refine (hS.one _).mono ?_; rintro e w1 ⟨rfl, h1⟩; have g1 := h1.cell)
      go_ret
      exact ⟨by rw [← hcrc]; rfl, h1.bel⟩
    · obtain ⟨bk, o, rfl⟩ := hrd.nonempty
      have c0 := hrd.head hS.bel
      go_wp2_with (go_at_call 53; refine (hS.one _).mono ?_; rintro e w1 ⟨rfl, h1⟩; have c1 : w1.cell? ⟨bk, o + 1, none⟩ = some (.int .u8 (v8 b)) := hrd.get h1.bel 1 (by simp); clear hS)
      go_wp2_with (go_at_call 53; refine (h1.one _).mono ?_; rintro e w2 ⟨rfl, h2⟩; have g1 := h2.cell)
      go_ret
      exact ⟨by rw [← hcrc]; rfl, h2.bel⟩
    · obtain ⟨bk, o, rfl⟩ := hrd.nonempty
      have c0 := hrd.head hS.bel
      go_wp2_with (go_at_call 53; refine (hS.one _).mono ?_; rintro e w1 ⟨rfl, h1⟩; have c1 : w1.cell? ⟨bk, o + 1, none⟩ = some (.int .u8 (v8 b)) := hrd.get h1.bel 1 (by simp); clear hS)
      go_wp2_with (go_at_call 53; refine (h1.one _).mono ?_; rintro e w2 ⟨rfl, h2⟩; have c2 : w2.cell? ⟨bk, o + 2, none⟩ = some (.int .u8 (v8 c)) := hrd.get h2.bel 2 (by simp); clear h1)
      go_wp2_with (go_at_call 53; refine (h2.one _).mono ?_; rintro e w3 ⟨rfl, h3⟩; have g1 := h3.cell)
      go_ret
      exact ⟨by rw [← hcrc]; rfl, h3.bel⟩
    · obtain ⟨bk, o, rfl⟩ := hrd.nonempty
      have c0 := hrd.head hS.bel
      have hn : tl.length + 1 + 1 + 1 + 1 ≤ cap' := by simpa using hcap
      go_wp2_with (go_at_call 53; refine (hS.one _).mono ?_; rintro e w1 ⟨rfl, h1⟩; have c1 : w1.cell? ⟨bk, o + 1, none⟩ = some (.int .u8 (v8 b)) := hrd.get h1.bel 1 (by simp); clear hS)
      go_wp2_with (go_at_call 53; refine (h1.one _).mono ?_; rintro e w2 ⟨rfl, h2⟩; have c2 : w2.cell? ⟨bk, o + 2, none⟩ = some (.int .u8 (v8 c)) := hrd.get h2.bel 2 (by simp); clear h1)
      go_wp2_with (go_at_call 53; refine (h2.one _).mono ?_; rintro e w3 ⟨rfl, h3⟩; have c3 : w3.cell? ⟨bk, o + 3, none⟩ = some (.int .u8 (v8 d)) := hrd.get h3.bel 3 (by simp); clear h2)
      go_wp2_with (go_at_call 53; refine (h3.one _).mono ?_; rintro e w4 ⟨rfl, h4⟩)
      refine ⟨⟨_, tl, _, _, rfl, by omega, by omega, ?_, h4, by rw [← hcrc]; rfl⟩, by simp; omega⟩
      split
      · have : tl.length = 0 := by omega
        exact fun j hj => by omega
      · exact hrd.drop 4
theorem on16_at (r : BitVec 16) (l : List (BitVec 8)) (v : Value) (w : World) (h : BytesAt w v l) :
  Calls Try.prog 50 #[.int .u16 (v16 r), v] w fun e w' => e = .returned (.int .u16 (v16 (crc P16 r l))) ∧ Below w.heap.size w w' := by
  obtain ⟨A, cap, rfl, h1, h2, h3, h4⟩ := h
  exact on16 r l A cap w (fun j hj => by
    cases A with
    | none => rw [h3 rfl] at hj; cases hj
    | some ad => obtain ⟨b, o, rfl, hc⟩ := h4 ad rfl j hj; exact ⟨b, o, rfl, hc⟩) (Nat.le_trans h1 h2) h1 h2
end Go.Proofs.Ytedhldcoddbbdaa.F
