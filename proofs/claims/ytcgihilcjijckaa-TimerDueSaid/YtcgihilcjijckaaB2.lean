import Derived.Test.YtcgihilcjijckaaB1
import Derived.Deep.RegionLaw
import Derived.WalkSpells
set_option linter.unusedVariables false
set_option linter.unusedSimpArgs false
namespace Go.Proofs.Ytcgihilcjijckaa.F
open Go.RowKit Go.Proofs.Ytcgihilcjijckaa.K
theorem elT : ElemT Try.prog 59 63 3 24 (.agg #[.int .i64 0, .int .i64 0, .int .i64 0]) := elemT_of Try.underlying59 (by kernel_rfl) rfl (by decide)
theorem elO : ElemT Try.prog 24 29 2 16 (.agg #[.int .i64 0, .int .i64 0]) := elemT_of Try.underlying24 (by kernel_rfl) rfl (by decide)
/-- two blocks may have been written -/
structure Grown2 (w w' : World) (g : Nat) (r : Option Nat) : Prop where
  os : w'.os = w.os
  tape : w'.tape = w.tape
  output : w'.output = w.output
  size : w.heap.size ≤ w'.heap.size
  block : ∀ k, k < w.heap.size → k ≠ g → some k ≠ r → w'.heap[k]? = w.heap[k]?
/-- what a call that turns a queue leaves -/
structure QR (g : Nat) (v : Value) (n' : Int) (l' : List Tm) (w w' : World) : Prop where
  q : ∃ v', QAt w' g v' n' l' ∧ ∀ k, v'.ownBlock = some k → v.ownBlock = some k ∨ w.heap.size ≤ k
  grow : Grown2 w w' g v.ownBlock
theorem tms_take (l : List Tm) (i : Nat) : (tms l).take (i * 3) = tms (l.take i) := by
  induction l generalizing i with
  | nil => simp [tms]
  | cons t l ih =>
    cases i with
    | zero => simp [tms]
    | succ i =>
      have := ih i
      unfold tms at *
      rw [List.take_succ_cons, List.flatMap_cons, List.flatMap_cons, List.take_append, show (Tm.cells t).length = 3 from rfl, show (i + 1) * 3 - 3 = i * 3 by omega, this, List.take_of_length_le (by show 3 ≤ _; omega)]
theorem tms_app (a b : List Tm) : tms (a ++ b) = tms a ++ tms b := by unfold tms; exact List.flatMap_append
theorem erase_eq (l : List Tm) (i : Nat) : l.eraseIdx i = l.take i ++ l.drop (i + 1) := List.eraseIdx_eq_take_drop_succ l i
theorem row_drew {w : World} {B : Nat} {e : TypeId} {size : Nat} {v : Value} {n : Nat} {xs : List Value} (h : Row w B e size v n xs) : Row w.drew B e size v n xs := ⟨h.len, h.form⟩
theorem tms_get (l : List Tm) (k j : Nat) : (tms (l.drop k))[j]? = (tms l)[k * 3 + j]? := by
  by_cases hk : k ≤ l.length
  · have h := tms_app (l.take k) (l.drop k)
    rw [List.take_append_drop] at h
    rw [h, List.getElem?_append_right (by rw [tms_len, List.length_take]; omega), tms_len, List.length_take, Nat.min_eq_left hk, show k * 3 + j - k * 3 = j by omega]
  · rw [List.drop_of_length_le (by omega), show tms [] = [] from rfl]
    have h2 : (tms l)[k * 3 + j]? = none := List.getElem?_eq_none (by rw [tms_len]; omega)
    rw [h2]
    rfl
theorem tms_one {l : List Tm} {u : Value} (h : u ∈ tms l) : u.oneCell' = true := by
  unfold tms at h
  obtain ⟨t, -, ht⟩ := List.mem_flatMap.1 h
  simp only [Tm.cells, List.mem_cons, List.not_mem_nil, or_false] at ht
  rcases ht with rfl | rfl | rfl <;> rfl
/-- what lies behind the first k -/
theorem src_tail {w : World} {g b cap : Nat} {n : Int} {l : List Tm} (h : QAt w g (.slice (some ⟨b, 0, none⟩) l.length cap) n l) (k o : Nat) (c : Nat) (ho : k < l.length → o = k * 3) (hk : k ≤ l.length) : SrcR w 3 (.slice (some ⟨b, o, none⟩) (l.length - k) c) (l.length - k) (tms (l.drop k)) := by
  refine ⟨by rw [tms_len, List.length_drop], fun u hu => tms_one hu, _, _, rfl, fun e => (by cases e), fun ad e j u hj => ?_⟩
  cases e
  have hjl : j < (tms (l.drop k)).length := (List.getElem?_eq_some_iff.1 hj).1
  rw [tms_len, List.length_drop] at hjl
  rw [tms_get] at hj
  obtain ⟨b', hb', -, hc⟩ := h.row.cell hj
  cases hb'
  rw [add_mid, ho (by omega)]
  exact hc
theorem Row.slice {w : World} {B : Nat} {e : TypeId} {size : Nat} {v : Value} {n : Nat} {xs : List Value} (h : Row w B e size v n xs) : ∃ A cap, v = .slice A n cap ∧ n ≤ cap ∧ cap ≤ maxLen := by
  rcases h.form with ⟨h1, h2⟩ | ⟨g', cap, cur, h1, -, -, h4, h5, -⟩
  · exact ⟨none, 0, by rw [h2]; exact h1, by omega, by simp [maxLen]⟩
  · exact ⟨_, cap, h1, h4, h5⟩
/-- the slice's value is written into the queue -/
theorem q_fin {w w1 w2 : World} {g : Nat} {v v0 v' : Value} {n1 : Int} {l' : List Tm} {m : Nat} {xs : List Value} (hd : w2.heap = w.heap ∧ w2.os = w.os ∧ w2.tape = w.tape ∧ w2.output = w.output) (hq : w.heap[g]? = some (.cells #[v, .int .i64 n1] 61 (0, 0))) (hv : ∀ k, v0.ownBlock = some k → v.ownBlock = some k) (hg : v.ownBlock ≠ some g) (hr : RowR w2 w1 0 63 3 v0 v' m xs) (hm : m = l'.length) (hx : xs = tms l') : QR g v n1 l' w (w1.setCell ⟨g, 0, none⟩ v') := by
  obtain ⟨r1, r2, r3⟩ := hr
  subst hm hx
  have hlt : g < w.heap.size := (Array.getElem?_eq_some_iff.1 hq).1
  have hne0 : v0.ownBlock ≠ some g := fun e => hg (hv g e)
  have hb1 : w1.heap[g]? = some (.cells #[v, .int .i64 n1] 61 (0, 0)) := (r2.block g (by rw [hd.1]; exact hlt) (fun e => hne0 e.symm)).trans (by rw [hd.1]; exact hq)
  have hne : v'.ownBlock ≠ some g := fun e => by
    rcases r3 g e with h | h
    · exact hne0 h
    · rw [hd.1] at h; omega
  have hset : w1.grownBy (w1.setCell ⟨g, 0, none⟩ v') (some g) := ⟨rfl, rfl, rfl, by simp [World.setCell], fun k _ hk => heap_setCell_other _ _ _ _ (fun e => hk (by simp [e]))⟩
  refine ⟨⟨v', ⟨heap_setCell_same _ _ _ _ _ _ hb1, r1.kept hset (fun k hk e => hne (by rw [hk, ← e])), hne⟩, fun k hk => ?_⟩, ⟨?_, ?_, ?_, ?_, fun k hk h1 h2 => ?_⟩⟩
  · rcases r3 k hk with h | h
    · exact .inl (hv k h)
    · exact .inr (by rw [← hd.1]; exact h)
  · exact r2.os.trans hd.2.1
  · exact r2.tape.trans hd.2.2.1
  · exact r2.output.trans hd.2.2.2
  · have := r2.size
    rw [hd.1] at this
    simpa [World.setCell] using this
  · rw [heap_setCell_other _ _ _ _ (show k ≠ g from h1)]
    exact (r2.block k (by rw [hd.1]; exact hk) (fun e => h2 (hv k e.symm).symm)).trans (by rw [hd.1])
variable (g : Nat) (w : World)
set_option maxHeartbeats 4000000 in
theorem drop28 (v : Value) (n : Int) (l : List Tm) (i : Nat) (hi : i < l.length) (hl : l.length ≤ 64) (h : QAt w g v n l) : Calls Try.prog 28 #[.pointer (some ⟨g, 0, none⟩), .int .i64 i] w fun e w' => e = .returned (.tuple #[]) ∧ QR g v n (l.eraseIdx i) w w' := by
  have HQ := Lib.hid h
  have c0 := h.c0
  have f0 := h.free 0
  obtain ⟨A, cap, rfl, k1, k2, k3⟩ := h.form
  obtain ⟨b, rfl, hbg, -, -, -⟩ := h.cell hi
  clear h k3
  unfold maxLen at k2
  have i0 : (0 : Int) ≤ (i : Int) := by omega
  have i1 : (i : Int) ≤ (cap : Int) := by omega
  have i2 : (0 : Int) ≤ (i : Int) + 1 := by omega
  have i3 : (i : Int) + 1 ≤ (l.length : Int) := by omega
  have i5 : (l.length : Int) ≤ (cap : Int) := by omega
  have hr := Lib.hid (HQ.out.row.cut (by simp) i (by omega))
  by_cases hc : i + 1 = cap
  · subst hc
    have i4 : (i : Int) ≤ (i : Int) + 1 := by omega
    have i6 : (l.length : Int) ≤ (i : Int) + 1 := by omega
    have hsrc : Hid (SrcR w.drew 3 (.slice (some ⟨b, 0, none⟩) 0 0) 0 []) := Lib.hid ⟨rfl, fun u hu => (by cases hu), _, _, rfl, fun e => (by cases e), fun ad e j u hj => by simp at hj⟩
    have hd0 : l.drop (i + 1) = [] := List.drop_of_length_le (by omega)
    have HD := Lib.hid hd0
    clear hd0
    have s1 : i + 0 ≤ maxLen := by unfold maxLen; omega
    have s2 : (i + 0) * 24 ≤ 140737488355328 := by omega
    have hw2 : ((i : Int) + 1).toNat = i + 1 := by omega
    have hw : IntKind.i64.wrap ((i : Int) + 1) = (i : Int) + 1 := IntWalk.i64_in _ (by omega)
    go_enter Try.func28, Try.ntmps28
    go_wp2_with fail
    go_region_law ((refine step_row elT (by rfl) _ _ (by rfl) 0 _ i _ (by rfl) (row_drew hr.out) _ 0 [] (by rfl) hsrc.out s1 s2 (Nat.zero_le _) ?_; intro v1 w1 hrr; obtain ⟨A1, cp1, rfl, -, -⟩ := Row.slice hrr.row; have HRR := Lib.hid hrr; have hgg := Lib.hid (hrr.grow.block g (Array.getElem?_eq_some_iff.1 HQ.out.blk).1 (by simp [Value.ownBlock]; omega)); have c1 : w1.cell? ⟨g, 0, none⟩ = some (.slice (some ⟨b, 0, none⟩) l.length (i + 1)) := (cell_of_row _ _ _ _ _ _ (hgg.out.trans HQ.out.blk)).trans rfl; have f1 : w1.frozen? ⟨g, 0, none⟩ = false := frozen_of_row _ _ _ _ _ (hgg.out.trans HQ.out.blk)))
    all_goals go_end0
    all_goals exact ⟨rfl, q_fin (w2 := w.drew) (v0 := .slice (some ⟨b, 0, none⟩) i i) ⟨rfl, rfl, rfl, rfl⟩ HQ.out.blk (fun k hk => hk) HQ.out.ne HRR.out (by rw [List.length_eraseIdx_of_lt hi]; omega) (by rw [erase_eq, tms_app, tms_take, HD.out]; rfl)⟩
  · have i4 : (i : Int) + 1 < (cap : Int) := by omega
    have hsrc := Lib.hid (src_drew (src_tail HQ.out (i + 1) ((i + 1) * 3) (cap - (i + 1)) (fun _ => rfl) (by omega)))
    have hc2 : ¬ cap = i + 1 := by omega
    have s1 : i + (l.length - (i + 1)) ≤ maxLen := by unfold maxLen; omega
    have s2 : (i + (l.length - (i + 1))) * 24 ≤ 140737488355328 := by omega
    have hw2 : ((i : Int) + 1).toNat = i + 1 := by omega
    have hw : IntKind.i64.wrap ((i : Int) + 1) = (i : Int) + 1 := IntWalk.i64_in _ (by omega)
    go_enter Try.func28, Try.ntmps28
    go_wp2_with fail
    go_region_law ((refine step_row elT (by rfl) _ _ (by rfl) 0 _ i _ (by rfl) (row_drew hr.out) _ (l.length - (i + 1)) (tms (l.drop (i + 1))) (by rfl) hsrc.out s1 s2 (Nat.zero_le _) ?_; intro v1 w1 hrr; obtain ⟨A1, cp1, rfl, -, -⟩ := Row.slice hrr.row; have HRR := Lib.hid hrr; have hgg := Lib.hid (hrr.grow.block g (Array.getElem?_eq_some_iff.1 HQ.out.blk).1 (by simp [Value.ownBlock]; omega)); have c1 : w1.cell? ⟨g, 0, none⟩ = some (.slice (some ⟨b, 0, none⟩) l.length cap) := (cell_of_row _ _ _ _ _ _ (hgg.out.trans HQ.out.blk)).trans rfl; have f1 : w1.frozen? ⟨g, 0, none⟩ = false := frozen_of_row _ _ _ _ _ (hgg.out.trans HQ.out.blk)))
    all_goals go_end0
    all_goals exact ⟨rfl, q_fin (w2 := w.drew) (v0 := .slice (some ⟨b, 0, none⟩) i i) ⟨rfl, rfl, rfl, rfl⟩ HQ.out.blk (fun k hk => hk) HQ.out.ne HRR.out (by rw [List.length_eraseIdx_of_lt hi]; omega) (by rw [erase_eq, tms_app, tms_take])⟩
end Go.Proofs.Ytcgihilcjijckaa.F
