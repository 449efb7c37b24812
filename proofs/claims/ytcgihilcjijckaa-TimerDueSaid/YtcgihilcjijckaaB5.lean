import Derived.Test.YtcgihilcjijckaaB3
import Derived.Test.YtcgihilcjijckaaB4
set_option linter.unusedVariables false
set_option linter.unusedSimpArgs false
namespace Go.Proofs.Ytcgihilcjijckaa.F
open Go.RowKit Go.Proofs.Ytcgihilcjijckaa.K
theorem Grown2.refl (w : World) (g : Nat) (r : Option Nat) : Grown2 w w g r := ⟨rfl, rfl, rfl, Nat.le_refl _, fun _ _ _ _ => rfl⟩
theorem Grown2.trans {w w1 w2 : World} {g : Nat} {r r1 : Option Nat} (h : Grown2 w w1 g r) (h2 : Grown2 w1 w2 g r1) (hr : ∀ k, r1 = some k → r = some k ∨ w.heap.size ≤ k) : Grown2 w w2 g r :=
  ⟨h2.os.trans h.os, h2.tape.trans h.tape, h2.output.trans h.output, Nat.le_trans h.size h2.size, fun k hk h1 h3 => (h2.block k (Nat.lt_of_lt_of_le hk h.size) h1 (fun e => by
    rcases hr k e.symm with q | q
    · exact h3 q.symm
    · omega)).trans (h.block k hk h1 h3)⟩
theorem Grown2.below {w w1 : World} (h : Below w.heap.size w w1) (g : Nat) (r : Option Nat) : Grown2 w w1 g r := ⟨h.os, h.tape, h.output, h.size, fun k hk _ _ => h.block k hk⟩
theorem QR.trans {g : Nat} {v v1 : Value} {n2 : Int} {l2 : List Tm} {w w1 w2 : World} (hg : Grown2 w w1 g v.ownBlock) (hv : ∀ k, v1.ownBlock = some k → v.ownBlock = some k ∨ w.heap.size ≤ k) (h : QR g v1 n2 l2 w1 w2) : QR g v n2 l2 w w2 := by
  obtain ⟨⟨v', q1, q2⟩, q3⟩ := h
  refine ⟨⟨v', q1, fun k hk => ?_⟩, hg.trans q3 hv⟩
  rcases q2 k hk with q | q
  · exact hv k q
  · exact .inr (Nat.le_trans hg.size q)
/-- the slice's value is written into the queue, behind what the call made -/
theorem q_fin2 {w w1 w2 : World} {g : Nat} {v v0 v' : Value} {n1 : Int} {l' : List Tm} {m : Nat} {xs : List Value} (hd : Below w.heap.size w w2) (hq : w.heap[g]? = some (.cells #[v, .int .i64 n1] 61 (0, 0))) (hv : ∀ k, v0.ownBlock = some k → v.ownBlock = some k) (hg : v.ownBlock ≠ some g) (hr : RowR w2 w1 0 63 3 v0 v' m xs) (hm : m = l'.length) (hx : xs = tms l') : QR g v n1 l' w (w1.setCell ⟨g, 0, none⟩ v') := by
  obtain ⟨r1, r2, r3⟩ := hr
  subst hm hx
  have hlt : g < w.heap.size := (Array.getElem?_eq_some_iff.1 hq).1
  have hs := hd.size
  have hne0 : v0.ownBlock ≠ some g := fun e => hg (hv g e)
  have hb1 : w1.heap[g]? = some (.cells #[v, .int .i64 n1] 61 (0, 0)) := (r2.block g (by omega) (fun e => hne0 e.symm)).trans ((hd.block g hlt).trans hq)
  have hne : v'.ownBlock ≠ some g := fun e => by
    rcases r3 g e with h | h
    · exact hne0 h
    · omega
  have hset : w1.grownBy (w1.setCell ⟨g, 0, none⟩ v') (some g) := ⟨rfl, rfl, rfl, by simp [World.setCell], fun k _ hk => heap_setCell_other _ _ _ _ (fun e => hk (by simp [e]))⟩
  refine ⟨⟨v', ⟨heap_setCell_same _ _ _ _ _ _ hb1, r1.kept hset (fun k hk e => hne (by rw [hk, ← e])), hne⟩, fun k hk => ?_⟩, ⟨?_, ?_, ?_, ?_, fun k hk h1 h2 => ?_⟩⟩
  · rcases r3 k hk with h | h
    · exact .inl (hv k h)
    · exact .inr (by omega)
  · exact r2.os.trans hd.os
  · exact r2.tape.trans hd.tape
  · exact r2.output.trans hd.output
  · have := r2.size
    simp only [World.setCell, Array.size_modify]
    omega
  · rw [heap_setCell_other _ _ _ _ (show k ≠ g from h1)]
    exact (r2.block k (by omega) (fun e => h2 (hv k e.symm).symm)).trans (hd.block k hk)
theorem QAt.setn {w : World} {g : Nat} {v : Value} {n : Int} {l : List Tm} (h : QAt w g v n l) (n' : Int) : QR g v n' l w (w.setCell ⟨g, 1, none⟩ (.int .i64 n')) := by
  have hset : w.grownBy (w.setCell ⟨g, 1, none⟩ (.int .i64 n')) (some g) := ⟨rfl, rfl, rfl, by simp [World.setCell], fun k _ hk => heap_setCell_other _ _ _ _ (fun e => hk (by simp [e]))⟩
  exact ⟨⟨v, ⟨heap_setCell_same _ _ _ _ _ _ h.blk, h.row.kept hset (fun k hk e => h.ne (by rw [hk, ← e])), h.ne⟩, fun k hk => .inl hk⟩, ⟨rfl, rfl, rfl, by simp [World.setCell], fun k hk h1 _ => heap_setCell_other _ _ _ _ h1⟩⟩
theorem row_set {w : World} {B : Nat} {e : TypeId} {size : Nat} {b n cap : Nat} {xs : List Value} (h : Row w B e size (.slice (some ⟨b, 0, none⟩) n cap) n xs) (j : Nat) (u : Value) : Row (w.setCell ⟨b, j, none⟩ u) B e size (.slice (some ⟨b, 0, none⟩) n cap) n (xs.set j u) := by
  rcases h.form with ⟨h1, -⟩ | ⟨g', cap', cur, h1, h2, h3, h4, h5, h6, h7⟩
  · cases h1
  · cases h1
    refine ⟨by rw [List.length_set, h.len], .inr ⟨b, cap, cur.setIfInBounds j u, rfl, h2, heap_setCell_same w b j cur e u h3, h4, h5, by simpa using h6, ?_⟩⟩
    rw [Array.toList_setIfInBounds, ← h7, List.take_set]
theorem tms_zero : ([.int .i64 0, .int .i64 0, .int .i64 0] : List Value) = tms [⟨0, 0, 0⟩] := rfl
theorem tms_drop (l : List Tm) (i : Nat) : (tms l).drop (i * 3) = tms (l.drop i) := by
  refine List.ext_getElem? fun j => ?_
  rw [List.getElem?_drop, tms_get]
/-- put in at a place -/
theorem tms_put (l : List Tm) (k : Nat) (hk : k ≤ l.length) (t z : Tm) : (((shiftX 3 k (l.length + 1) (tms (l ++ [z]))).set (k * 3) (.int .i64 t.id)).set (k * 3 + 1) (.int .i64 t.at_)).set (k * 3 + 2) (.int .i64 t.set_) = tms (l.take k ++ t :: l.drop k) := by
  have h1 : shiftX 3 k (l.length + 1) (tms (l ++ [z])) = tms (l.take k) ++ (((l ++ [z])[k]'(by simp; omega)).cells ++ tms (l.drop k)) := by
    unfold shiftX
    rw [tms_take, tms_drop, tms_take]
    rw [List.take_succ_eq_append_getElem (by simp; omega), List.take_append_of_le_length hk]
    rw [show l.length + 1 - (k + 1) = (l.drop k).length by simp, List.drop_append_of_le_length hk, List.take_left, tms_app, List.append_assoc]
    unfold tms
    simp
  have hl : (tms (l.take k)).length = k * 3 := by rw [tms_len, List.length_take, Nat.min_eq_left hk]
  rw [h1]
  generalize (l ++ [z])[k]'(by simp; omega) = y
  rw [List.set_append_right _ _ (by omega), List.set_append_right _ _ (by omega), List.set_append_right _ _ (by omega), hl]
  rw [show k * 3 - k * 3 = 0 by omega, show k * 3 + 1 - k * 3 = 1 by omega, show k * 3 + 2 - k * 3 = 2 by omega]
  rw [tms_app]
  congr 1
end Go.Proofs.Ytcgihilcjijckaa.F
