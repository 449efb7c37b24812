import Derived.Test.YtjgndagejogfnaaP8
import Derived.Deep.AppendSrc
import Derived.Deep.Upon
import Derived.Deep.MidRow
import Derived.Laws.IdiomCopy
set_option linter.unusedVariables false
set_option linter.unusedSimpArgs false
namespace Go.Proofs.Ytjgndagejogfnaa.F
open Go.RowKit Go.Proofs.Ytjgndagejogfnaa.K
/-- A queue: a slice of the call's own, wherever in its block it begins. -/
structure QueAt (B : Nat) (w : World) (v : Value) (l : List Int) : Prop where
  at_ : ∃ A cap, v = .slice A l.length cap ∧ l.length ≤ cap ∧ cap ≤ maxLen ∧ (A = none → cap = 0) ∧
    ∀ ad, A = some ad → ∃ b o, ad = ⟨b, o, none⟩ ∧ B ≤ b ∧ b < w.heap.size ∧ (∀ j, j < cap → (w.cell? ⟨b, o + j, none⟩).isSome = true ∧ w.frozen? ⟨b, o + j, none⟩ = false) ∧ ∀ j (h : j < l.length), w.cell? ⟨b, o + j, none⟩ = some (.int .i64 l[j])
theorem QueAt.nil (B : Nat) (w : World) : QueAt B w (.slice none 0 0) [] := ⟨none, 0, rfl, by simp, by decide, fun _ => rfl, fun _ h => by cases h⟩
theorem QueAt.kept {B : Nat} {w w' : World} {v : Value} {l : List Int} {r : Option Nat} (h : QueAt B w v l) (hg : w.grownBy w' r) (hne : v.ownBlock = none ∨ v.ownBlock ≠ r) : QueAt B w' v l := by
  obtain ⟨A, cap, rfl, h1, h2, h3, h4⟩ := h
  refine ⟨A, cap, rfl, h1, h2, h3, fun ad e => ?_⟩
  obtain ⟨b, o, rfl, k1, k2, k3, k4⟩ := h4 ad e
  subst e
  have hb : w'.heap[b]? = w.heap[b]? := hg.block b k2 (by
    rcases hne with hne | hne
    · simp [Value.ownBlock] at hne
    · exact hne)
  have hc : ∀ x : Nat, w'.cell? ⟨b, x, none⟩ = w.cell? ⟨b, x, none⟩ := fun x => World.cell?_of_block hb
  have hf : ∀ x : Nat, w'.frozen? ⟨b, x, none⟩ = w.frozen? ⟨b, x, none⟩ := fun x => World.frozen?_of_block hb
  refine ⟨b, o, rfl, k1, Nat.lt_of_lt_of_le k2 hg.size, fun j hj => ?_, fun j hj => ?_⟩
  · rw [hc, hf]; exact k3 j hj
  · rw [hc]; exact k4 j hj
theorem QueAt.below {B : Nat} {w w' : World} {v : Value} {l : List Int} (h : QueAt B w v l) (hb : Below w.heap.size w w') : QueAt B w' v l :=
  h.kept (below_grown0 hb none) (by cases v.ownBlock <;> simp)
theorem QueAt.lt {B : Nat} {w : World} {v : Value} {l : List Int} (h : QueAt B w v l) {k : Nat} (hk : v.ownBlock = some k) : B ≤ k ∧ k < w.heap.size := by
  obtain ⟨A, cap, rfl, h1, h2, h3, h4⟩ := h
  cases A with
  | none => cases hk
  | some ad =>
    obtain ⟨b, o, rfl, k1, k2, -⟩ := h4 ad rfl
    cases hk
    exact ⟨k1, k2⟩
theorem QueAt.new {B : Nat} {w : World} (arr : Array Value) (l : List Int) (cap : Nat) (hB : B ≤ w.heap.size) (hs : arr.size = cap) (hl : l.length ≤ cap) (hm : cap ≤ maxLen) (hc : ∀ j (h : j < l.length), arr[j]? = some (.int .i64 l[j])) :
    QueAt B (w.alloc (.cells arr 3)) (.slice (some ⟨w.heap.size, 0, none⟩) l.length cap) l := by
  have hh : (w.alloc (.cells arr 3)).heap[w.heap.size]? = some (.cells arr 3 (0, 0)) := heap_alloc_new _ _
  refine ⟨_, cap, rfl, hl, hm, (fun e => by cases e), fun ad e => ?_⟩
  cases e
  refine ⟨w.heap.size, 0, rfl, hB, by simp, fun j hj => ⟨?_, frozen_of_row _ _ _ _ _ hh⟩, fun j hj => ?_⟩
  · rw [cell_of_row _ _ _ _ _ _ hh]
    simp
    omega
  · rw [cell_of_row _ _ _ _ _ _ hh]
    simpa using hc j hj
theorem QueAt.tail {B : Nat} {w : World} {A : Option Addr} {n cap : Nat} {x : Int} {l : List Int} (h : QueAt B w (.slice A n cap) (x :: l)) : ∃ b o, A = some ⟨b, o, none⟩ ∧ n = l.length + 1 ∧ n ≤ cap ∧ w.cell? ⟨b, o, none⟩ = some (.int .i64 x) ∧ QueAt B w (.slice (some ⟨b, if cap = 1 then o else o + 1, none⟩) l.length (cap - 1)) l := by
  obtain ⟨A', cap', e, h1, h2, h3, h4⟩ := h
  cases e
  cases A with
  | none => have := h3 rfl; simp at h1; omega
  | some ad =>
    obtain ⟨b, o, rfl, k1, k2, k3, k4⟩ := h4 ad rfl
    refine ⟨b, o, rfl, rfl, h1, (by have h5 := k4 0 (by simp); rw [Nat.add_zero] at h5; exact h5), ⟨_, cap - 1, rfl, by simp at h1; omega, by omega, (fun e => by cases e), fun ad e => ?_⟩⟩
    cases e
    by_cases hc : cap = 1
    · have hl0 : l.length = 0 := by simp at h1; omega
      rw [if_pos hc]
      exact ⟨b, o, rfl, k1, k2, fun j hj => by omega, fun j hj => by omega⟩
    · rw [if_neg hc]
      refine ⟨b, o + 1, rfl, k1, k2, fun j hj => ?_, fun j hj => ?_⟩
      · have := k3 (j + 1) (by omega)
        rwa [show o + (j + 1) = o + 1 + j by omega] at this
      · have := k4 (j + 1) (by simpa using hj)
        rw [show o + (j + 1) = o + 1 + j by omega] at this
        simpa using this
theorem setCells_keeps (b : Nat) : ∀ (vs : List Value) (o : Nat) (w : World), (w.setCells b o vs).tape = w.tape ∧ (w.setCells b o vs).heap.size = w.heap.size
  | [], _, _ => ⟨rfl, rfl⟩
  | v :: r, o, w => by
    obtain ⟨h1, h2⟩ := setCells_keeps b r (o + 1) (w.setCell ⟨b, o, none⟩ v)
    rw [World.setCells]
    exact ⟨h1, by rw [h2]; simp⟩
theorem run_que {w : World} {B : Nat} (ty : TypeId) {v x : Value} {l L : List Int} (hq : QueAt B w v l) (hs : SrcR w 1 x L.length (L.map (Value.int .i64))) (hn : l.length + L.length ≤ 1000) (hB : B ≤ w.heap.size) :
    ∃ v' w', (Builtin.append_ #[22, 22] ty #[v, x]).run Try.prog w = .ok v' w' ∧ QueAt B w' v' (l ++ L) ∧ w.grownBy w' v.ownBlock ∧ (v'.ownBlock = v.ownBlock ∨ v'.ownBlock = some w.heap.size) := by
  obtain ⟨i, hi, hz0, hz1, hz2⟩ := elI.hi
  obtain ⟨Ax, cx, rfl, hxn, hxc⟩ := hs.at_
  have hsrc : Src Try.prog i.size 22 (.slice Ax L.length cx) L.length (L.map (Value.int .i64)) w := by
    rw [hz1]
    cases Ax with
    | some ad => exact Src.ofSlice w Try.underlying22 ad L.length cx _ (by simp) (hxc ad rfl) hs.one
    | none =>
      have : L = [] := List.eq_nil_of_length_eq_zero (hxn rfl)
      subst this
      exact Src.ofNil w Try.underlying22 cx
  obtain ⟨A, cap, rfl, h1, h2, h3, h4⟩ := hq
  have grow : ∀ (olds : List Value), olds = l.map (Value.int .i64) → (Builtin.firstCells i.size l.length (.slice A l.length cap)).run Try.prog w.drew = .ok olds.toArray w.drew → cap < l.length + L.length →
      ∃ v' w', (Builtin.append_ #[22, 22] ty #[.slice A l.length cap, .slice Ax L.length cx]).run Try.prog w = .ok v' w' ∧ QueAt B w' v' (l ++ L) ∧ w.grownBy w' (Value.ownBlock (.slice A l.length cap)) ∧ (v'.ownBlock = Value.ownBlock (.slice A l.length cap) ∨ v'.ownBlock = some w.heap.size) := by
    intro olds ho hold hg
    have hr := run_append_grow_src (P := Try.prog) w 22 22 ty 3 i (.int .i64 0) Try.underlying22 hi hz0 A l.length cap olds hold _ L.length _ hsrc hg (by omega) (by have := nextslicecap_le hg; rw [hz2]; omega)
    refine ⟨_, _, hr, ?_, ⟨rfl, rfl, rfl, by simp, fun k hk _ => by rw [heap_alloc_old _ _ (by simpa using hk)]; rfl⟩, .inr rfl⟩
    have hge := grownCap_ge w (l.length + L.length) cap 3
    have hml := grownCap_le_maxLen w (l.length + L.length) cap 3 (by simp [maxLen]; omega)
    generalize grownCap w (l.length + L.length) cap 3 = gc at *
    have hq := QueAt.new (B := B) (w := w.drew) ((olds ++ L.map (Value.int .i64)).toArray ++ Builtin.zeroCells (Value.int .i64 0).cells (gc - (l.length + L.length))) (l ++ L) gc hB (by
      rw [Array.size_append, size_zeroCells]
      simp [ho, Value.cells]
      omega) (by simp; omega) hml (fun j hj => by
      subst ho
      rw [← List.map_append]
      have hj' : j < ((l ++ L).map (Value.int .i64)).toArray.size := by simpa using hj
      rw [Array.getElem?_append_left hj', List.getElem?_toArray, List.getElem?_map, List.getElem?_eq_getElem hj]
      rfl)
    rw [show (l ++ L).length = l.length + L.length by simp] at hq
    exact hq
  cases A with
  | none =>
    have hc0 := h3 rfl
    subst hc0
    have hl : l = [] := List.eq_nil_of_length_eq_zero (by omega)
    subst hl
    by_cases hL : L.length = 0
    · have hLe : L = [] := List.eq_nil_of_length_eq_zero hL
      subst hLe
      refine ⟨.slice none 0 0, w, ?_, QueAt.nil B w, grownBy_refl w _, .inl rfl⟩
      cases Ax with
      | none => simp [Builtin.append_, run_underlying Try.underlying22, sizeOf, typeInfo, hi, Builtin.lenOf, Builtin.firstCells]
      | some ad => simp [Builtin.append_, run_underlying Try.underlying22, sizeOf, typeInfo, hi, Builtin.lenOf, Builtin.firstCells, loadCells, loadCellsFrom]
    · exact grow [] rfl (run_firstCells_none w.drew i.size 0 0 0) (by simp; omega)
  | some ad =>
    obtain ⟨b, o, rfl, k1, k2, k3, k4⟩ := h4 ad rfl
    by_cases hroom : l.length + L.length ≤ cap
    · have hsome : ∀ j, j < (L.map (Value.int .i64)).length → (w.cell? ⟨b, o + l.length * i.size + j, none⟩).isSome = true ∧ w.frozen? ⟨b, o + l.length * i.size + j, none⟩ = false := by
        intro j hj
        rw [hz1]
        have := k3 (l.length + j) (by simp at hj; omega)
        rwa [show o + l.length * 1 + j = o + (l.length + j) by omega]
      have hr := run_append_room_src (P := Try.prog) w 22 22 ty 3 i Try.underlying22 hi b o l.length cap _ L.length _ hsrc hroom (fun j hj => (hsome j hj).1) (fun j hj => (hsome j hj).2)
      rw [hz1] at hr hsome
      have hkb := World.keptBut_setCells b (may := fun _ => True) (L.map (Value.int .i64)) (o + l.length * 1) w (fun _ _ => trivial)
      refine ⟨_, _, hr, ⟨_, cap, by rw [List.length_append], by simpa using hroom, h2, (fun e => by cases e), fun ad e => ?_⟩, ⟨World.os_setCells _ _ _ _, ?_, World.output_setCells _ _ _ _, ?_, fun k hk hne => World.heap_setCells_other _ _ _ _ hk (fun e => hne (by rw [e]; rfl))⟩, .inl rfl⟩
      · cases e
        refine ⟨b, o, rfl, k1, ?_, fun j hj => ?_, fun j hj => ?_⟩
        · rw [(setCells_keeps b _ _ w).2]; exact k2
        · rw [World.frozen?_setCells]
          exact ⟨World.isSome_setCells b _ _ w _ (k3 j hj).1, (k3 j hj).2⟩
        · by_cases hjl : j < l.length
          · rw [World.cell?_setCells_out b _ _ w _ (fun _ _ => .inl (by simp; omega)), List.getElem_append_left hjl]
            exact k4 j hjl
          · have hj2 : j - l.length < L.length := by simp at hj; omega
            have := World.cell?_setCells_in b (L.map (Value.int .i64)) (o + l.length * 1) w (fun j hj => (hsome j hj).1) (j - l.length) (by simpa using hj2)
            rw [show o + l.length * 1 + (j - l.length) = o + j by omega] at this
            rw [this, List.getElem_append_right (by omega)]
            simp
      · exact (setCells_keeps b _ _ w).1
      · rw [(setCells_keeps b _ _ w).2]; exact Nat.le_refl _
    · refine grow (l.map (Value.int .i64)) rfl (run_firstCells_some w.drew i.size l.length ⟨b, o, none⟩ l.length cap _ (by simp [hz1]) (fun j u hj => ?_)) (by omega)
      have hj' : j < l.length := by have := (List.getElem?_eq_some_iff.1 hj).1; simpa using this
      rw [add_mid]
      have := k4 j hj'
      simp [List.getElem?_eq_getElem hj'] at hj
      rw [← hj]
      simpa using this
/-- 'append' onto a queue, at the walk. -/
theorem wpList_que {w : World} {ops : Array Oper} {rest : List Oper} {o : Oper} {a : Act} {Q : Exit → Act → World → Prop} (hgd : o.guard = none) (s x : Operand) (ho : o.op = .call { callee := .builtin .append, args := #[s, x], argTypes := #[22, 22] })
    (B : Nat) (v : Value) (l : List Int) (hv : a.eval s = v) (hq : QueAt B w v l) (xv : Value) (L : List Int) (hx : a.eval x = xv) (hs : SrcR w 1 xv L.length (L.map (Value.int .i64))) (hn : l.length + L.length ≤ 1000) (hB : B ≤ w.heap.size)
    (h : ∀ v' w', QueAt B w' v' (l ++ L) → w.grownBy w' v.ownBlock → (v'.ownBlock = v.ownBlock ∨ v'.ownBlock = some w.heap.size) → wpList Try.prog ops Q rest (a.put o.dst v') w') : wpList Try.prog ops Q (o :: rest) a w := by
  refine wpList_plain hgd fun K hK => ?_
  obtain ⟨v', w', hr, h2, h3, h4⟩ := run_que o.type hq hs hn hB
  unfold Oper.wp execOp
  simp only [ho, resolve, invoke, builtin, Sem.run_bind, Sem.run_pure, Result.andThen_ok, List.map_toArray, List.map_cons, List.map_nil, hv, hx, hr]
  exact hK _ _ (h v' w' h2 h3 h4)
end Go.Proofs.Ytjgndagejogfnaa.F
