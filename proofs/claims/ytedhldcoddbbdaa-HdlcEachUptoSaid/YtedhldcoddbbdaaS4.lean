import Derived.Test.YtedhldcoddbbdaaS3
set_option linter.unusedVariables false
set_option linter.unusedSimpArgs false
set_option linter.unnecessarySimpa false
namespace Go.Proofs.Ytedhldcoddbbdaa.F
open Go.RowKit Go.Proofs.Ytedhldcoddbbdaa.K
theorem known21 (w : World) : Calls Try.prog 21 #[] w fun e w' => e = .returned (.bool true) ∧ Below w.heap.size w w' := by
  have hb : Below w.heap.size w (w.alloc (.cells #[.int .u8 1, .int .u8 1, .int .u8 0, .int .u8 4] 5)) := (Below.refl _ w).alloc (Nat.le_refl _) _
  have hrow : Row (w.alloc (.cells #[.int .u8 1, .int .u8 1, .int .u8 0, .int .u8 4] 5)) 0 5 1 (.slice (some ⟨w.heap.size, 0, none⟩) 4 4) kI.length (kI.map b8) := ⟨rfl, .inr ⟨w.heap.size, 4, #[.int .u8 1, .int .u8 1, .int .u8 0, .int .u8 4], rfl, Nat.zero_le _, heap_alloc_new _ _, by decide, by decide, by decide, rfl⟩⟩
  have HE := Lib.hid (enc11 49185 ⟨0, false, false⟩ kI _ _ (RowB.bytes hrow) kE)
  have HB := Lib.hid hb
  clear hb hrow
  unfold Sn.val at HE
  dsimp only at HE
  go_enter Try.func21, Try.ntmps21
  go_wp2_with fail
  refine HE.out.mono ?_
  rintro e w2 ⟨u, rfl, hr, hb2⟩
  rw [kL] at hr
  have HR := Lib.hid hr
  have HB2 := Lib.hid (below_then HB.out hb2)
  have HN := Lib.hid (new26 1500 0 true true w2 kN)
  clear hr hb2
  obtain ⟨A, cap, rfl, -, -⟩ := Row.slice HR.out
  go_wp2_with fail
  refine HN.out.mono ?_
  rintro e w3 ⟨rfl, hl, hb3⟩
  have HB3 := Lib.hid (below_then HB2.out hb3)
  have hr3 := HR.out.below hb3
  have HF := Lib.hid (feed28 w2.heap.size w3 _ _ (kO 1500 0 true true kN) hl kB _ (RowB.bytes (hr3.weak (Nat.zero_le _))) (by decide))
  have HR3 := Lib.hid hr3
  clear hl hb3 hr3
  go_wp2_with fail
  refine HF.out.mono ?_
  rintro e w4 ⟨u', v, xs, rfl, hfed⟩
  have h0 := hfed.told
  rw [kF] at h0
  obtain ⟨x, rfl⟩ : ∃ x, xs = [x] := by
    rcases xs with _ | ⟨x, _ | ⟨y, r⟩⟩
    · simp at h0
    · exact ⟨x, rfl⟩
    · simp at h0
  obtain ⟨xn, xu, xl⟩ := x
  simp only [List.map_cons, List.map_nil, Fv.fr, List.cons.injEq, Prod.mk.injEq, and_true] at h0
  obtain ⟨rfl, rfl⟩ := h0
  obtain ⟨A2, cp2, hu, -, -⟩ := Row.slice (hfed.info _ (List.mem_singleton.2 rfl))
  dsimp only at hu
  subst hu
  have hrw := hfed.row
  obtain ⟨A1, cp1, rfl, -, -⟩ := Row.slice hrw
  obtain ⟨b, hA, -, e0⟩ := hrw.cell (j := 0) (u := .int .i64 49185) (by rfl)
  obtain ⟨b1, hA1, -, e1⟩ := hrw.cell (j := 1) (u := .slice A2 kI.length cp2) (by rfl)
  subst hA
  cases hA1
  simp only [List.length_cons, List.length_nil, Nat.reduceAdd] at *
  have hkb := (HR3.out.grown2 hfed.ln.grow (fun e => by have := (Row.live HR.out e).2; omega) (fun k hk => by simp [Value.ownBlock])).weak (Nat.zero_le _)
  have HH := Lib.hid (hex42 kB _ w4 (RowB.bytes hkb) (by decide))
  have hb4 : Below w.heap.size w w4 := HB3.out.trans ⟨hfed.ln.grow.os, hfed.ln.grow.tape, hfed.ln.grow.output, hfed.ln.grow.size, fun k hk => hfed.ln.grow.block k (Nat.lt_of_lt_of_le hk HB3.out.size) (by have := HB2.out.size; omega) (by simp [Value.ownBlock])⟩
  have HB4 := Lib.hid hb4
  clear hfed hrw hkb hb4
  have hstr : str (hexL kB) = { data := #[55, 101, 102, 102, 55, 100, 50, 51, 99, 48, 50, 49, 55, 100, 50, 49, 55, 100, 50, 49, 55, 100, 50, 48, 55, 100, 50, 52, 100, 49, 98, 53, 55, 101] } := by decide +kernel
  rw [hstr] at HH
  have hk4 : kI.length = 4 := rfl
  rw [hk4] at e1
  go_wp2_with fail
  refine HH.out.mono ?_
  rintro e w5 ⟨rfl, hb5⟩
  have d0 := (hb5.cell (p := ⟨b, 0, none⟩) (World.block_lt_of_cell? w4 _ e0)).trans e0
  have d1 := (hb5.cell (p := ⟨b, 1, none⟩) (World.block_lt_of_cell? w4 _ e1)).trans e1
  have HB5 := Lib.hid (below_then HB4.out hb5)
  clear hb5 e0 e1
  go_wp2_with fail
  go_ret
  exact ⟨rfl, HB5.out⟩
end Go.Proofs.Ytedhldcoddbbdaa.F
