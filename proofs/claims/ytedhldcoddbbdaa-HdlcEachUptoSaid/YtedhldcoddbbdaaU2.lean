import Derived.Test.YtedhldcoddbbdaaU1
set_option linter.unusedVariables false
set_option linter.unusedSimpArgs false
set_option linter.unnecessarySimpa false
namespace Go.Proofs.Ytedhldcoddbbdaa.F
open Go.RowKit Go.Proofs.Ytedhldcoddbbdaa.K
theorem kept20 (l : List (BitVec 8)) (v u : Value) (base : Nat) (w : World) (h : LentAt w base v l) (h' : BytesAt w u l) :
  Calls Try.prog 20 #[v, u] w fun e w' => e = .returned (.bool true) ∧ Below w.heap.size w w' := by
  have hB := h.bytes
  have HL := Lib.hid h
  obtain ⟨g, cap, cur, rfl, -⟩ := h.at_
  obtain ⟨-, h1, h2, -⟩ := h.mark
  have hS : Hid (Calls Try.prog 18 #[.slice (some ⟨g, 0, none⟩) l.length cap, u] w fun e w' => e = .returned (.bool true) ∧ Below w.heap.size w w') := Lib.hid ((same18 l l _ _ w hB h').mono fun e w' he => by
    obtain ⟨rfl, hb⟩ := he
    simp only [decide_true]
    exact ⟨trivial, hb⟩)
  obtain ⟨A, cap2, rfl, q1, q2, -, -⟩ := h'
  unfold maxLen at h2 q2
  clear h hB
  go_enter Try.func20, Try.ntmps20
  go_wp2_with fail
  refine hS.out.mono ?_
  rintro e w1 ⟨rfl, hb⟩
  obtain ⟨-, -, -, h3⟩ := (HL.out.below hb).mark
  have HB := Lib.hid hb
  clear hb hS
  go_wp2_with fail
  go_ret
  exact ⟨rfl, HB.out⟩
/-- bytes in a row -/
def RowB (w : World) (v : Value) (l : List (BitVec 8)) : Prop := Row w 0 5 1 v l.length (l.map b8)
theorem RowB.bytes {w : World} {v : Value} {l : List (BitVec 8)} (h : RowB w v l) : BytesAt w v l := by
  rcases h.form with ⟨h1, h2⟩ | ⟨g, cap, cur, h1, -, h3, h4, h5, h6, h7⟩
  · obtain rfl := List.eq_nil_of_length_eq_zero h2
    rw [h1]
    exact BytesAt.nil w
  · refine ⟨_, cap, h1, h4, h5, fun e => (by cases e), fun ad e j hj => ⟨g, 0, by cases e; rfl, ?_⟩⟩
    obtain ⟨g', e1, -, hc⟩ := Row.cell (A := some ⟨g, 0, none⟩) (cap := cap) (by rw [← h1]; exact h) (j := j) (u := b8 l[j]) (by simp [List.getElem?_eq_getElem hj])
    cases e1
    rw [Nat.zero_add]
    exact hc
theorem RowB.get {w : World} {A : Option Addr} {cap : Nat} {l : List (BitVec 8)} (h : RowB w (.slice A l.length cap) l) {k : Nat} (hk : k < l.length) : ∃ b, A = some ⟨b, 0, none⟩ ∧ w.cell? ⟨b, k, none⟩ = some (.int .u8 (v8 l[k])) ∧ w.frozen? ⟨b, k, none⟩ = false := by
  obtain ⟨g, e1, -, hc⟩ := h.cell (j := k) (u := b8 l[k]) (by simp [List.getElem?_eq_getElem hk])
  refine ⟨g, e1, hc, ?_⟩
  rcases h.form with ⟨h1, h2⟩ | ⟨g', cap', cur, h1, h2, h3, -⟩
  · omega
  · rw [e1] at h1
    cases h1
    exact frozen_of_row _ _ _ _ _ h3
theorem row_set {w : World} {B : Nat} {e : TypeId} {size : Nat} {b n cap : Nat} {xs : List Value} (h : Row w B e size (.slice (some ⟨b, 0, none⟩) n cap) n xs) (j : Nat) (u : Value) : Row (w.setCell ⟨b, j, none⟩ u) B e size (.slice (some ⟨b, 0, none⟩) n cap) n (xs.set j u) := by
  rcases h.form with ⟨h1, -⟩ | ⟨g', cap', cur, h1, h2, h3, h4, h5, h6, h7⟩
  · cases h1
  · cases h1
    refine ⟨by rw [List.length_set, h.len], .inr ⟨b, cap, cur.setIfInBounds j u, rfl, h2, heap_setCell_same w b j cur e u h3, h4, h5, by simpa using h6, ?_⟩⟩
    rw [Array.toList_setIfInBounds, ← h7, List.take_set]
theorem Row.slice {w : World} {B : Nat} {e : TypeId} {size : Nat} {v : Value} {n : Nat} {xs : List Value} (h : Row w B e size v n xs) : ∃ A cap, v = .slice A n cap ∧ n ≤ cap ∧ cap ≤ maxLen := by
  rcases h.form with ⟨h1, h2⟩ | ⟨g', cap, cur, h1, -, -, h4, h5, -⟩
  · exact ⟨none, 0, by rw [h2]; exact h1, by omega, by simp [maxLen]⟩
  · exact ⟨_, cap, h1, h4, h5⟩
theorem Row.live {w : World} {B : Nat} {e : TypeId} {size : Nat} {v : Value} {n : Nat} {xs : List Value} (h : Row w B e size v n xs) {k : Nat} (hk : v.ownBlock = some k) : B ≤ k ∧ k < w.heap.size := by
  rcases h.form with ⟨h1, h2⟩ | ⟨g, cap, cur, h1, h2, h3, -⟩
  · rw [h1] at hk; simp [Value.ownBlock] at hk
  · rw [h1] at hk
    simp only [Value.ownBlock, Option.some.injEq] at hk
    subst hk
    exact ⟨h2, (Array.getElem?_eq_some_iff.1 h3).1⟩
theorem spoil_grow {w wr wa w4 : World} {r : Value} {b4 n m : Nat} {c4 : Nat} {j : Nat} {u : Value} {xs : List Value} (h1 : w.grownBy wr r.ownBlock) (h2 : Below wr.heap.size wr wa) (h3 : RowR wa w4 0 5 1 r (.slice (some ⟨b4, 0, none⟩) n c4) m xs) : w.grownBy (w4.setCell ⟨b4, j, none⟩ u) r.ownBlock := by
  refine ⟨h3.grow.os.trans (h2.os.trans h1.os), h3.grow.tape.trans (h2.tape.trans h1.tape), h3.grow.output.trans (h2.output.trans h1.output), ?_, fun k hk hn => ?_⟩
  · have := h3.grow.size
    have := h2.size
    have := h1.size
    simp only [World.setCell, Array.size_modify]
    omega
  · have hz := h1.size
    have hz2 := h2.size
    have hne : k ≠ b4 := fun e => by
      subst e
      rcases h3.own k rfl with q | q
      · exact hn q.symm
      · omega
    rw [heap_setCell_other _ _ _ _ (show k ≠ b4 from hne)]
    exact (h3.grow.block k (by omega) hn).trans ((h2.block k (by omega)).trans (h1.block k hk hn))
set_option maxHeartbeats 4000000 in
/-- whatever the bytes are turned into, no other block is touched -/
theorem spoil19 (v : Value) (l : List (BitVec 8)) (w : World) (h : RowB w v l) (hl : l.length < 140737488355328) : Calls Try.prog 19 #[v] w fun e w' => e = .returned (.tuple #[]) ∧ w.grownBy w' v.ownBlock := by
  have H := Lib.hid h
  obtain ⟨A, cap, rfl, k1, k2⟩ := Row.slice h
  unfold maxLen at k2
  have hlv := Lib.hid (fun k hk => (Row.live h (k := k) hk).2)
  clear h
  go_enter Try.func19, Try.ntmps19
  go_wp2_with fail
  go_loopw [2] (fun i wr => ∃ (k : Nat) (l' : List (BitVec 8)), k ≤ l.length ∧ l'.length = l.length ∧ i = .int .i64 k ∧ Hid (Row wr 0 5 1 (.slice A l.length cap) l.length (l'.map b8)) ∧ Hid (w.grownBy wr (Value.slice A l.length cap).ownBlock)) (fun i _ => l.length - (intOf i).toNat)
  case atStart => exact ⟨0, l, by omega, rfl, rfl, H, Lib.hid ⟨rfl, rfl, rfl, Nat.le_refl _, fun _ _ _ => rfl⟩⟩
  case round =>
    obtain ⟨k, l', hk, hl', rfl, HR, HG⟩ := hrel
    by_cases hkl : k < l.length
    · have hR : RowB wr (.slice A l'.length cap) l' := by unfold RowB; rw [hl']; exact HR.out
      obtain ⟨b, hA, d0, f0⟩ := hR.get (k := k) (by omega)
      subst hA
      obtain ⟨x, hx⟩ : ∃ x, x = l'[k] := ⟨_, rfl⟩
      rw [← hx] at d0
      have HL' := Lib.hid hl'
      have hz := xor8 x 90#8
      have h90 : v8 90#8 = 90 := rfl
      rw [h90] at hz
      have i0 : (0 : Int) ≤ (k : Int) := by omega
      have i1 : (k : Int) < (l.length : Int) := by omega
      clear hx hR hl'
      go_wp2_with fail
      go_roundw
      case rel => exact ⟨k + 1, l'.set k (x ^^^ 90#8), by omega, by rw [List.length_set]; exact HL'.out, by go_num, Lib.hid (by
        have := row_set HR.out k (b8 (x ^^^ 90#8))
        rw [List.map_set]
        exact this), Lib.hid (by
        have h2 := HG.out
        refine ⟨h2.os, h2.tape, h2.output, by simpa [World.setCell] using h2.size, fun j hj hn => ?_⟩
        rw [heap_setCell_other _ _ _ _ (show j ≠ b from fun e => hn (by rw [e]; rfl))]
        exact h2.block j hj hn)⟩
      case measure => simp [intOf]; omega
    · obtain rfl : k = l.length := by omega
      have hb1 : Below wr.heap.size wr (wr.alloc (.cells #[.int .u8 99] 5)) := (Below.refl _ wr).alloc (Nat.le_refl _) _
      have HB := Lib.hid hb1
      have HR2 := Lib.hid (HR.out.below hb1)
      clear hb1
      have s1 : l.length + 1 ≤ maxLen := by unfold maxLen; omega
      have s2 : (l.length + 1) * 1 ≤ 140737488355328 := by omega
      go_wp2_with (at_builtin; refine wpList_row elB rfl _ _ rfl 0 _ _ _ rfl HR2.out _ 1 _ rfl (src_one wr (.int .u8 99) 5 rfl) s1 s2 (Nat.zero_le _) ?_)
      intro v4 w4 hr4
      obtain ⟨A4, c4, hv4, k3, k4⟩ := Row.slice hr4.row
      subst hv4
      unfold maxLen at k4
      have hlen4 := hr4.row.len
      obtain ⟨b4, hA4, -, d4⟩ := hr4.row.cell (j := l.length) (u := .int .u8 99) (by rw [List.getElem?_append_right (by simp [hl'])]; simp [hl'])
      subst hA4
      have f4 : w4.frozen? ⟨b4, l.length, none⟩ = false := by
        rcases hr4.row.form with ⟨h1, h2⟩ | ⟨g', cap', cur, h1, h2, h3, -⟩
        · omega
        · cases h1
          exact frozen_of_row _ _ _ _ _ h3
      have hw4 : wrap64 ((l.length : Int) + 1 - 1) = (l.length : Int) := by unfold wrap64; omega
      have hw5 : (l.length : Int) + 1 - 1 = (l.length : Int) := by omega
      have i0 : (0 : Int) ≤ (l.length : Int) := by omega
      have i1 : (l.length : Int) < (l.length : Int) + 1 := by omega
      have HG4 : Hid (w.grownBy (w4.setCell ⟨b4, l.length, none⟩ (.int .u8 98)) (Value.slice A l.length cap).ownBlock) := Lib.hid (spoil_grow HG.out HB.out hr4)
      clear hr4 hlen4 HR HR2 HG HB
      go_wp2_with fail
      go_end0
      exact ⟨rfl, HG4.out⟩
end Go.Proofs.Ytedhldcoddbbdaa.F
