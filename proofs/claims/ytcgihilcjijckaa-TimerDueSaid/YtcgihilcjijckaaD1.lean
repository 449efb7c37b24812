import Derived.Test.YtcgihilcjijckaaC2
set_option linter.unusedVariables false
set_option linter.unusedSimpArgs false
namespace Go.Proofs.Ytcgihilcjijckaa.F
open Go.RowKit Go.Proofs.Ytcgihilcjijckaa.K
theorem ons_app (a b : List On) : ons (a ++ b) = ons a ++ ons b := by unfold ons; exact List.flatMap_append
theorem ons_drop (l : List On) (k : Nat) (hk : k ≤ l.length) : (ons l).drop (k * 2) = ons (l.drop k) := by
  have h := ons_app (l.take k) (l.drop k)
  rw [List.take_append_drop] at h
  have hl : (ons (l.take k)).length = k * 2 := by rw [ons_len, List.length_take, Nat.min_eq_left hk]
  rw [h, ← hl, List.drop_left]
theorem ons_take (l : List On) (k : Nat) (hk : k ≤ l.length) : (ons l).take (k * 2) = ons (l.take k) := by
  have h := ons_app (l.take k) (l.drop k)
  rw [List.take_append_drop] at h
  have hl : (ons (l.take k)).length = k * 2 := by rw [ons_len, List.length_take, Nat.min_eq_left hk]
  rw [h, ← hl, List.take_left]
theorem ons_one {l : List On} {u : Value} (h : u ∈ ons l) : u.oneCell' = true := by
  unfold ons at h
  obtain ⟨t, -, ht⟩ := List.mem_flatMap.1 h
  simp only [On.cells, List.mem_cons, List.not_mem_nil, or_false] at ht
  rcases ht with rfl | rfl <;> rfl
/-- a part of a row, to be appended -/
theorem Row.part {w : World} {B : Nat} {e : TypeId} {size b cap n : Nat} {xs : List Value} (h : Row w B e size (.slice (some ⟨b, 0, none⟩) n cap) n xs) (hone : ∀ u ∈ xs, u.oneCell' = true) (k m o c : Nat) (ho : 0 < m → o = k * size) (hk : k + m ≤ n) : SrcR w size (.slice (some ⟨b, o, none⟩) m c) m ((xs.drop (k * size)).take (m * size)) := by
  have hxl := h.len
  have hm : (k + m) * size ≤ n * size := Nat.mul_le_mul_right _ hk
  rw [Nat.add_mul] at hm
  refine ⟨by rw [List.length_take, List.length_drop, hxl]; omega, fun u hu => hone u (List.mem_of_mem_drop (List.mem_of_mem_take hu)), _, _, rfl, fun e => (by cases e), fun ad e j u hj => ?_⟩
  cases e
  rw [List.getElem?_take] at hj
  split at hj
  · rename_i hjm
    have hm0 : 0 < m := by
      rcases Nat.eq_zero_or_pos m with h0 | h0
      · subst h0; simp at hjm
      · exact h0
    rw [List.getElem?_drop] at hj
    obtain ⟨b', hb', -, hc⟩ := h.cell hj
    cases hb'
    rw [add_mid, ho hm0]
    exact hc
  · cases hj
theorem SrcR.none0 (w : World) (size : Nat) : SrcR w size (.slice none 0 0) 0 [] := ⟨by simp, fun u hu => (by cases hu), _, _, rfl, fun e => rfl, fun ad e => (by cases e)⟩
theorem RAt.form {w : World} {g : Nat} {v : Value} {l : List On} (h : RAt w g v l) : ∃ A cap, v = .slice A l.length cap ∧ l.length ≤ cap ∧ cap ≤ maxLen ∧ (A = none → l = []) := by
  rcases h.row.form with ⟨h1, h2⟩ | ⟨g', cap, cur, h1, -, -, h4, h5, -⟩
  · exact ⟨none, 0, by rw [h2]; exact h1, by omega, by simp [maxLen], fun _ => List.eq_nil_of_length_eq_zero h2⟩
  · exact ⟨_, cap, h1, h4, h5, fun e => by cases e⟩
theorem RAt.cell {w : World} {g : Nat} {A : Option Addr} {cap : Nat} {l : List On} (h : RAt w g (.slice A l.length cap) l) {k : Nat} (hk : k < l.length) : ∃ b, A = some ⟨b, 0, none⟩ ∧ b ≠ g ∧ w.cell? ⟨b, k * 2, none⟩ = some (.int .i64 l[k].id) ∧ w.cell? ⟨b, k * 2 + 1, none⟩ = some (.int .i64 l[k].at_) := by
  obtain ⟨b, hA, -, h0⟩ := h.row.cell (j := k * 2 + 0) (u := .int .i64 l[k].id) (by rw [ons_at hk 0 (by omega)]; rfl)
  obtain ⟨b1, hA1, -, h1⟩ := h.row.cell (j := k * 2 + 1) (u := .int .i64 l[k].at_) (by rw [ons_at hk 1 (by omega)]; rfl)
  subst hA
  cases hA1
  refine ⟨b, rfl, fun e => h.ne (by rw [e]; rfl), h0, h1⟩
theorem RAt.below {w w' : World} {g : Nat} {v : Value} {l : List On} (h : RAt w g v l) (hb : Below w.heap.size w w') : RAt w' g v l :=
  ⟨(hb.block g (Array.getElem?_eq_some_iff.1 h.blk).1).trans h.blk, h.row.below hb, h.ne⟩
theorem RAt.c0 {w : World} {g : Nat} {v : Value} {l : List On} (h : RAt w g v l) : w.cell? ⟨g, 0, none⟩ = some v := (cell_of_row _ _ _ _ _ _ h.blk).trans rfl
theorem RAt.free {w : World} {g : Nat} {v : Value} {l : List On} (h : RAt w g v l) (j : Nat) : w.frozen? ⟨g, j, none⟩ = false := frozen_of_row _ _ _ _ _ h.blk
/-- the reference's queue behind some calls -/
structure RS (w w1 : World) (g : Nat) (v v1 : Value) (l1 : List On) : Prop where
  q : RAt w1 g v1 l1
  grow : Grown2 w w1 g v.ownBlock
  own : ∀ k, v1.ownBlock = some k → v.ownBlock = some k ∨ w.heap.size ≤ k
theorem RS.refl {w : World} {g : Nat} {v : Value} {l : List On} (h : RAt w g v l) : RS w w g v v l := ⟨h, Grown2.refl _ _ _, fun k hk => .inl hk⟩
theorem RS.trans {w w1 w2 : World} {g : Nat} {v v1 v2 : Value} {l1 l2 : List On} (h : RS w w1 g v v1 l1) (h2 : RS w1 w2 g v1 v2 l2) : RS w w2 g v v2 l2 :=
  ⟨h2.q, h.grow.trans h2.grow h.own, fun k hk => by
    rcases h2.own k hk with q | q
    · exact h.own k q
    · exact .inr (Nat.le_trans h.grow.size q)⟩
theorem RS.below {w w1 w2 : World} {g : Nat} {v v1 : Value} {l1 : List On} (h : RS w w1 g v v1 l1) (hb : Below w1.heap.size w1 w2) : RS w w2 g v v1 l1 := h.trans ⟨h.q.below hb, Grown2.below hb _ _, fun k hk => .inl hk⟩
/-- the row's value is written into the queue -/
theorem rs_fin {w w1 : World} {g : Nat} {v v' : Value} {l l' : List On} {m : Nat} {xs : List Value} (hq : RAt w g v l) (hg : Grown2 w w1 g v.ownBlock) (ho : ∀ k, v'.ownBlock = some k → v.ownBlock = some k ∨ w.heap.size ≤ k) (hb1 : w1.heap[g]? = w.heap[g]?) (hr : Row w1 0 29 2 v' m xs) (hm : m = l'.length) (hx : xs = ons l') : RS w (w1.setCell ⟨g, 0, none⟩ v') g v v' l' := by
  subst hm hx
  have hlt : g < w.heap.size := (Array.getElem?_eq_some_iff.1 hq.blk).1
  have hne : v'.ownBlock ≠ some g := fun e => by
    rcases ho g e with h | h
    · exact hq.ne h
    · omega
  have hset : w1.grownBy (w1.setCell ⟨g, 0, none⟩ v') (some g) := ⟨rfl, rfl, rfl, by simp [World.setCell], fun k _ hk => heap_setCell_other _ _ _ _ (fun e => hk (by simp [e]))⟩
  refine ⟨⟨heap_setCell_same _ _ _ _ _ _ (hb1.trans hq.blk), hr.kept hset (fun k hk e => hne (by rw [hk, ← e])), hne⟩, hg.trans (r1 := none) ⟨rfl, rfl, rfl, by simp [World.setCell], fun k hk h1 _ => heap_setCell_other _ _ _ _ h1⟩ (fun k e => by cases e), ho⟩
variable (g : Nat) (w : World)
set_option maxHeartbeats 2000000 in
theorem find41 (v : Value) (l : List On) (id : Int) (h : RAt w g v l) : Calls Try.prog 41 #[.pointer (some ⟨g, 0, none⟩), .int .i64 id] w (FindR l id w) := by
  have HQ := Lib.hid h
  have c0 := h.c0
  obtain ⟨A, cap, rfl, k1, k2, k3⟩ := h.form
  clear h k3
  unfold maxLen at k2
  go_enter Try.func41, Try.ntmps41
  go_wp2_with fail
  clear c0
  go_loopw [5, 6, 12] (fun _ _ i wr => ∃ k : Nat, k ≤ l.length ∧ i = .int .i64 k ∧ Hid (∀ (j : Nat) (hj : j < l.length), j < k → l[j].id ≠ id) ∧ Below w.heap.size w wr) (fun _ _ i _ => l.length - (intOf i).toNat)
  case atStart => exact ⟨0, by omega, rfl, Lib.hid (fun j hj h0 => by omega), Below.refl _ _⟩
  case round =>
    obtain ⟨k, hk, rfl, HN, hB⟩ := hrel
    by_cases hkl : k < l.length
    · obtain ⟨b, rfl, hbg, d0, d1⟩ := (HQ.out.below hB).cell hkl
      obtain ⟨t, htt⟩ : ∃ t, t = l[k] := ⟨_, rfl⟩
      have HS := Lib.hid htt
      rw [← htt] at d0 d1
      clear htt
      obtain ⟨ti, ta⟩ := t
      simp only at d0 d1
      have hi0 : (0 : Int) ≤ (k : Int) := by omega
      have hia : (k : Int) < (l.length : Int) := by omega
      by_cases hx : ti = id
      · subst hx
        go_wp2_with fail
        go_ret
        exact ⟨k, rfl, .inr ⟨k, hkl, rfl, by rw [← HS.out]⟩, hB.alloc hB.size _⟩
      · have HX := Lib.hid hx
        have hxb : (ti == id) = false := beq_eq_false_iff_ne.2 hx
        go_wp2_with fail
        go_roundw
        case rel => exact ⟨k + 1, by omega, by go_num, Lib.hid (FindAt.step hkl HN.out (by rw [← HS.out]; exact HX.out)), hB.alloc hB.size _⟩
        case measure => simp [intOf]; omega
    · obtain rfl : k = l.length := by omega
      go_wp2_with fail
      go_ret
      exact ⟨-1, rfl, .inl ⟨rfl, fun y hy => by obtain ⟨j, hj, rfl⟩ := List.mem_iff_getElem.1 hy; exact HN.out j hj hj⟩, hB⟩
end Go.Proofs.Ytcgihilcjijckaa.F
