import Derived.Test.YtedhldcoddbbdaaS5
set_option linter.unusedVariables false
set_option linter.unusedSimpArgs false
set_option linter.unnecessarySimpa false
namespace Go.Proofs.Ytedhldcoddbbdaa.F
open Go.RowKit Go.Proofs.Ytedhldcoddbbdaa.K Go.Shelf
attribute [local go_sem] Oper.semAt_some
set_option maxRecDepth 100000 in
set_option maxHeartbeats 8000000 in
theorem nil9 (bs : List (BitVec 8)) (vb : Value) (w : World) (hb : BytesAt w vb bs) (hl : bs.length ≤ 140737488351232) :
    Calls Try.prog 9 #[vb] w fun e w' => e = .returned (.bool true) ∧ Below w.heap.size w w' := by
  refine (callsIn_wide (n := 9)).1 ?_
  obtain ⟨F, hF⟩ : ∃ F, F = Fence.wide := ⟨_, rfl⟩
  have h9 : F.fn 9 := by rw [hF]; trivial
  have h21 : F.fn 21 := by rw [hF]; trivial
  have h28 : F.fn 28 := by rw [hF]; trivial
  have h30 : F.fn 30 := by rw [hF]; trivial
  have h32 : F.fn 32 := by rw [hF]; trivial
  have h33 : F.fn 33 := by rw [hF]; trivial
  have h34 : F.fn 34 := by rw [hF]; trivial
  have h43 : F.fn 43 := by rw [hF]; trivial
  have hro : F.round = none := by rw [hF]; rfl
  have hb1 : Below w.heap.size w (w.alloc (.cells #[.int .i64 0] 3)) := (Below.refl _ w).alloc (Nat.le_refl _) _
  have hA := Lib.hid (each34_in F (9 - 1) h34 hro none bs vb _ (hb.below hb1) (by omega))
  have hR := Lib.hid (fun W => (by rw [hF]; exact callsIn_wide.2 (reset_nil W) : CallsIn F (9 - 1) Try.prog 30 #[.pointer none] W _))
  have hD := Lib.hid (fun W (h : BytesAt W vb bs) => (by rw [hF]; exact callsIn_wide.2 (feed28_nil W bs vb h (by omega)) : CallsIn F (9 - 1) Try.prog 28 #[.pointer none, vb] W _))
  have hC := Lib.hid (fun W => (by rw [hF]; exact callsIn_wide.2 (counts_nil W) : CallsIn F (9 - 1) Try.prog 33 #[.pointer none] W _))
  have hQ := Lib.hid (fun W => (by rw [hF]; exact callsIn_wide.2 (counts32 ⟨0, 0, 0, 0, 0, 0⟩ ⟨0, 0, 0, 0, 0, 0⟩ W) : CallsIn F (9 - 1) Try.prog 32 _ W _))
  have hK := Lib.hid (fun W => (by rw [hF]; exact callsIn_wide.2 (known21 W) : CallsIn F (9 - 1) Try.prog 21 #[] W _))
  have H0 := Lib.hid (heap_alloc_new w (.cells #[.int .i64 0] 3))
  have HB1 := Lib.hid hb1
  have HBY := Lib.hid hb
  rw [← hF]
  clear hF hb hb1
  have hneq := neq64
  refine callsIn_of_wp_marks Try.func9 rfl h9 ?_ hro
  simp only [Try.ntmps9, List.size_toArray, List.length_cons, List.length_nil, Nat.reduceAdd, Nat.reduceSub, Array.replicate_succ, Array.replicate_zero, List.push_toArray, List.append_toArray, List.nil_append, List.cons_append]
  have hz : (w.alloc (.cells #[.int .i64 0] 3)).heap.size = w.heap.size + 1 := by simp
  rw [hz] at hA
  gi_wp2_with (gi_at_call 30; refine (hR.out _).mono ?_; rintro e w' ⟨rfl, rfl⟩)
  gi_wp2_with (gi_at_call 34; refine hA.out.mono ?_; rintro e w3 ⟨rfl, hB3, hbl, vc, hbx, hcopy⟩)
  gi_wp2
  have hz3 : w.heap.size + 1 ≤ w3.heap.size := by have := hB3.size; omega
  have hbo : w3.heap[w.heap.size]? = some (.cells #[.int .i64 0] 3 (0, 0)) := (hB3.block _ (by omega)).trans H0.out
  have hB : Below w.heap.size w w3 := HB1.out.trans (hB3.mono (by omega))
  have hseq := each43_nil (F := F) (nf := 9 - 1) (bl := w.heap.size + 1) (bx := w.heap.size + 1 + 1) (N := 1) (R := fun A B => A = B) (K := fun _ _ => True) (G := fun _ _ _ _ => False) h43 hro hbl
  have hI0 : NI w w.heap.size 3 (.int .i64 0) [] w3 := ⟨rfl, hbo, hB⟩
  clear hA hbl hbx hcopy hbo hB3 hB
  refine wpIn_rangeFunc_R hro (by omega) (gf := 43) (lb := #[.pointer (some ⟨w.heap.size + 1, 0, none⟩), .pointer (some ⟨w.heap.size + 1 + 1, 0, none⟩)]) rfl h43 (enters_of Try.func43 (by kernel_rfl) rfl) hseq (fun hr k o h1 h2 => by cases hr; exact h1) (fun h1 h2 => trivial) (fun W l o o' _ h1 h2 => trivial) (Below.refl _ _) (fun x => rfl)
    (NI w w.heap.size 3 (.int .i64 0)) (fun _ _ => False) (fun _ _ => False)
    (fun _ _ _ => False) (NI.own (by omega)) (fun s W W' row hs _ _ => hs) (fun c s W W' row hs _ _ => hs) (fun s A B hs hr => by cases hr; exact hs) (fun c s A B hs hr => hs) (fun pre x A B h1 h2 h3 h4 => h3) hI0 ?assign ?body ?done ?stop
  case stop => exact fun D c pre W W0 hD hS hp hx hK => hx.elim
  case assign => exact fun _ _ _ _ _ h _ => h.elim
  case body => exact fun _ _ _ _ _ h => h.elim
  case done =>
    rintro D xs W W0 hDl hS - hI hKd
    have HI := Lib.hid hI
    have HBW := Lib.hid (HBY.out.below hI.below)
    clear hS hI
    gi_wp2_with (gi_at_call 28; refine (hD.out _ HBW.out).mono ?_; rintro e w5 ⟨rfl, hb5⟩; have c5 : w5.cell? ⟨w.heap.size, 0, none⟩ = some (.int .i64 0) := (cell_of_row _ _ _ _ _ _ ((hb5.block _ (Array.getElem?_eq_some_iff.1 HI.out.out).1).trans HI.out.out)); have k5 := (hb5.block _ (Array.getElem?_eq_some_iff.1 hKd).1).trans hKd)
    gi_wp2
    refine (hC.out _).mono ?_
    rintro e w6 ⟨rfl, hb6⟩
    have k6 := (hb6.block _ (Array.getElem?_eq_some_iff.1 k5).1).trans k5
    unfold C6.val at hQ
    dsimp only at hQ
    gi_wp2
    refine (hQ.out _).mono ?_
    rintro e w7 ⟨rfl, hb7⟩
    have k7 := (hb7.block _ (Array.getElem?_eq_some_iff.1 k6).1).trans k6
    gi_wp2
    refine (hK.out _).mono ?_
    rintro e w8 ⟨rfl, hb8⟩
    have k8 := (hb8.block _ (Array.getElem?_eq_some_iff.1 k7).1).trans k7
    gi_wp2
    refine ⟨by simp, .inl ⟨_, _, rfl, run_takeDeferred k8, ?_⟩⟩
    have hz8 := below_then (below_then (below_then (below_then HI.out.below hb5) hb6) hb7) hb8
    exact ⟨_, results_tmp (t := 2) rfl _ _ _, rfl, hz8.grown (grownBy_putObj' w8 D (.deferred none)) hz8.size (fun k e => by cases e; omega)⟩
end Go.Proofs.Ytedhldcoddbbdaa.F
