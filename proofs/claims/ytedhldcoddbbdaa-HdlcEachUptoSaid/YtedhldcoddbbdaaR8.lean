import Derived.Test.YtedhldcoddbbdaaR7
set_option linter.unusedVariables false
set_option linter.unusedSimpArgs false
set_option linter.unnecessarySimpa false
namespace Go.Proofs.Ytedhldcoddbbdaa.F
open Go.RowKit Go.Proofs.Ytedhldcoddbbdaa.K Go.Shelf
attribute [local go_sem] Oper.semAt_some
/-- between two rounds that never come -/
structure NI (w : World) (Bo : Nat) (t : TypeId) (v : Value) (pre : List Fv) (W : World) : Prop where
  empty : pre = []
  out : W.heap[Bo]? = some (.cells #[v] t (0, 0))
  below : Below w.heap.size w W
theorem NI.own {w : World} {Bo B : Nat} {t : TypeId} {v : Value} (hB : w.heap.size ≤ B) : OwnFrom B (NI w Bo t v) := fun s W W' row hs hg hr => by
  obtain ⟨h1, h2, h3⟩ := hs
  refine ⟨h1, (hg.block Bo (Array.getElem?_eq_some_iff.1 h2).1 (fun e => ?_)).trans h2, h3.grown hg h3.size (fun k e => Nat.le_trans hB (hr k e).1)⟩
  obtain ⟨-, o', q1, q2⟩ := hr Bo e.symm
  rw [h2] at q1
  cases q1
  cases q2
theorem NI.fin {w W : World} {Bo D : Nat} {t : TypeId} {v : Value} {xs : List Fv} {B : Nat} (hB : w.heap.size ≤ B) (h : NI w Bo t v xs W) (hD : B ≤ D) (hK : W.heap[D]? = some (.deferred (some []))) : Below w.heap.size w (W.putObj D (.deferred none)) := ((NI.own hB).putObj (.deferred none) h hD hK rfl).below
variable (w : World)
set_option maxRecDepth 100000 in
set_option maxHeartbeats 8000000 in
theorem feed28_nil (bs : List (BitVec 8)) (vb : Value) (hb : BytesAt w vb bs) (hl : bs.length ≤ 140737488355328) :
    Calls Try.prog 28 #[.pointer none, vb] w fun e w' => e = .returned (.slice none 0 0) ∧ Below w.heap.size w w' := by
  refine (callsIn_wide (n := 9)).1 ?_
  obtain ⟨F, hF⟩ : ∃ F, F = Fence.wide := ⟨_, rfl⟩
  have h28 : F.fn 28 := by rw [hF]; trivial
  have h34 : F.fn 34 := by rw [hF]; trivial
  have h43 : F.fn 43 := by rw [hF]; trivial
  have hro : F.round = none := by rw [hF]; rfl
  have hb1 : Below w.heap.size w (w.alloc (.cells #[.slice none 0 0] 42)) := (Below.refl _ w).alloc (Nat.le_refl _) _
  have hA := Lib.hid (each34_in F (9 - 1) h34 hro none bs vb _ (hb.below hb1) (by omega))
  have H0 := Lib.hid (heap_alloc_new w (.cells #[.slice none 0 0] 42))
  have HB1 := Lib.hid hb1
  rw [← hF]
  clear hF hb hb1
  refine callsIn_of_wp_marks Try.func28 rfl h28 ?_ hro
  simp only [Try.ntmps28, List.size_toArray, List.length_cons, List.length_nil, Nat.reduceAdd, Nat.reduceSub, Array.replicate_succ, Array.replicate_zero, List.push_toArray, List.append_toArray, List.nil_append, List.cons_append]
  have hz : (w.alloc (.cells #[.slice none 0 0] 42)).heap.size = w.heap.size + 1 := by simp
  rw [hz] at hA
  gi_wp2_with (gi_at_call 34; refine hA.out.mono ?_; rintro e w3 ⟨rfl, hB3, hbl, vc, hbx, hcopy⟩)
  gi_wp2
  have hz3 : w.heap.size + 1 ≤ w3.heap.size := by have := hB3.size; omega
  have hbo : w3.heap[w.heap.size]? = some (.cells #[.slice none 0 0] 42 (0, 0)) := (hB3.block _ (by omega)).trans H0.out
  have hB : Below w.heap.size w w3 := HB1.out.trans (hB3.mono (by omega))
  have hseq := each43_nil (F := F) (nf := 9 - 1) (bl := w.heap.size + 1) (bx := w.heap.size + 1 + 1) (N := 1) (R := fun A B => A = B) (K := fun _ _ => True) (G := fun _ _ _ _ => False) h43 hro hbl
  have hI0 : NI w w.heap.size 42 (.slice none 0 0) [] w3 := ⟨rfl, hbo, hB⟩
  clear hA hbl hbx hcopy hbo hB3 hB
  refine wpIn_rangeFunc_R hro (by omega) (gf := 43) (lb := #[.pointer (some ⟨w.heap.size + 1, 0, none⟩), .pointer (some ⟨w.heap.size + 1 + 1, 0, none⟩)]) rfl h43 (enters_of Try.func43 (by kernel_rfl) rfl) hseq (fun hr k o h1 h2 => by cases hr; exact h1) (fun h1 h2 => trivial) (fun W l o o' _ h1 h2 => trivial) (Below.refl _ _) (fun x => rfl)
    (NI w w.heap.size 42 (.slice none 0 0)) (fun _ _ => False) (fun _ _ => False)
    (fun _ _ _ => False) (NI.own (by omega)) (fun s W W' row hs _ _ => hs) (fun c s W W' row hs _ _ => hs) (fun s A B hs hr => by cases hr; exact hs) (fun c s A B hs hr => hs) (fun pre x A B h1 h2 h3 h4 => h3) hI0 ?assign ?body ?done ?stop
  case stop => exact fun D c pre W W0 hD hS hp hx hK => hx.elim
  case assign => exact fun _ _ _ _ _ h _ => h.elim
  case body => exact fun _ _ _ _ _ h => h.elim
  case done =>
    rintro D xs W W0 hD hS - hI hK
    have c1 : W.cell? ⟨w.heap.size, 0, none⟩ = some (.slice none 0 0) := cell_of_row _ _ _ _ _ _ hI.out
    have H3 := Lib.hid (hI.fin (B := w3.heap.size) (by omega) hD hK)
    clear hS hI
    gi_wp2
    refine ⟨by simp, .inl ⟨_, _, rfl, run_takeDeferred hK, ?_⟩⟩
    exact ⟨_, results_tmp (t := 4) rfl _ _ _, rfl, H3.out⟩
end Go.Proofs.Ytedhldcoddbbdaa.F
