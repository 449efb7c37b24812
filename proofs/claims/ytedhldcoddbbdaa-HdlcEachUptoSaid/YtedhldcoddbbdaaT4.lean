import Derived.Test.YtedhldcoddbbdaaTA
import Derived.Test.YtedhldcoddbbdaaT1
import Derived.Test.YtedhldcoddbbdaaS4
set_option linter.unusedVariables false
set_option linter.unusedSimpArgs false
set_option linter.unnecessarySimpa false
namespace Go.Proofs.Ytedhldcoddbbdaa.F
open Go.RowKit Go.Proofs.Ytedhldcoddbbdaa.K
theorem LentAt.block {W : World} {base : Nat} {v : Value} {l : List (BitVec 8)} (h : LentAt W base v l) : ∃ g, v.ownBlock = some g ∧ base ≤ g ∧ g < W.heap.size := by
  obtain ⟨g, cap, cur, rfl, hb, hh, -⟩ := h.at_
  exact ⟨g, rfl, hb, (Array.getElem?_eq_some_iff.1 hh).1⟩
theorem LentAt.grown {W W' : World} {base : Nat} {v : Value} {l : List (BitVec 8)} {r : Option Nat} (h : LentAt W base v l) (hg : W.grownBy W' r) (hne : v.ownBlock ≠ r) : LentAt W' base v l := by
  obtain ⟨g, cap, cur, rfl, hb', hh, hr⟩ := h
  exact ⟨g, cap, cur, rfl, hb', (hg.block g (Array.getElem?_eq_some_iff.1 hh).1 hne).trans hh, hr⟩
theorem frame_one {w : World} {n : Int} {A : Option Addr} {m cap : Nat} {l : List (BitVec 8)} (h : BytesAt w (.slice A m cap) l) : FramesAt (w.alloc (.cells #[.int .i64 n, .slice A m cap] 24)) (.slice (some ⟨w.heap.size, 0, none⟩) 1 1) [(n, l)] := by
  refine ⟨_, 1, rfl, by simp, by simp [maxLen], fun i hi => ?_⟩
  have hi0 : i = 0 := by simpa using hi
  subst hi0
  have hk := heap_alloc_new w (.cells #[.int .i64 n, .slice A m cap] 24)
  exact ⟨w.heap.size, 0, _, rfl, (cell_of_row _ _ _ _ _ _ hk).trans rfl, (cell_of_row _ _ _ _ _ _ hk).trans rfl, h.below ((Below.refl _ w).alloc (Nat.le_refl _) _)⟩
set_option maxRecDepth 100000 in
set_option maxHeartbeats 8000000 in
theorem parses4 (bs : List (BitVec 8)) (vb : Value) (p q : Bool) (w : World) (hb : BytesAt w vb bs) (hl : bs.length ≤ 140737488351232) : Calls Try.prog 4 #[vb, .bool p, .bool q] w fun e w' => e = .returned (.bool true) ∧ Below w.heap.size w w' := by
  have HI := Lib.hid hb
  have HL := Lib.hid (lent bs vb w hb hl)
  have HK := Lib.hid (fun W => known21 W)
  obtain ⟨Ab, cb, rfl, -, -, -, -⟩ := hb.at_
  clear hb
  go_enter Try.func4, Try.ntmps4
  go_wp2_with fail
  refine HL.out.mono ?_
  rintro e w1 ⟨u, rfl, hu, hb1⟩
  have HP := Lib.hid (parse22 bs p q u w1 hu.bytes hl)
  have HU := Lib.hid hu
  obtain ⟨gu, cu, curu, rfl, -⟩ := hu.at_
  have HB1 := Lib.hid hb1
  clear hu hb1 HL
  go_wp2_with fail
  refine HP.out.mono ?_
  rintro e w2 ⟨u2, rfl, hr2, hb2⟩
  have hlen : (parseP bs p q).2.2.length ≤ bs.length := by
    have hs : ∀ r : List (BitVec 8), strip bs = some r → r.length ≤ bs.length := by
      intro r hr
      rcases bs with _ | ⟨a, _ | ⟨b, r'⟩⟩
      · simp [strip] at hr
      · simp [strip] at hr
      · simp only [strip] at hr
        split at hr
        · simp only [Option.some.injEq] at hr; subst hr; simp; omega
        · simp at hr
    unfold parseP headP
    cases h : strip bs with
    | some r =>
      have := hs r h
      dsimp only
      split
      · split
        · simp; omega
        · simp
      · simp
    | none =>
      dsimp only
      cases q
      · simp
      · simp only [if_true]
        split
        · split
          · simp
          · simp
        · simp
  obtain ⟨er, n, rest, hR⟩ : ∃ er n rest, parseP bs p q = (er, n, rest) := ⟨_, _, _, rfl⟩
  rw [hR] at hr2 hlen ⊢
  dsimp only at hr2 hlen ⊢
  have HRR := Lib.hid hR
  clear hR
  obtain ⟨A2, c2, rfl, -, -⟩ := Row.slice hr2
  have hbA : Below w2.heap.size w2 (w2.alloc (.cells #[.int .i64 n, .slice A2 rest.length c2] 24)) := (Below.refl _ _).alloc (Nat.le_refl _) _
  have HB2 := Lib.hid (below_then HB1.out hb2)
  have HB3 := Lib.hid (below_then HB2.out hbA)
  have HK3 := Lib.hid (heap_alloc_new w2 (.cells #[.int .i64 n, .slice A2 rest.length c2] 24))
  have HR3 := Lib.hid (hr2.below hbA)
  have HU3 := Lib.hid ((HU.out.below hb2).below hbA)
  have hz12 := hb2.size
  have HP3 := Lib.hid (parse23 bs p q _ _ (HI.out.below HB3.out) hl)
  have hgl2 := (Array.getElem?_eq_some_iff.1 HK3.out).1
  clear hr2 hbA hb2 HP
  go_wp2_with fail
  generalize hS2 : w2.heap.size = S2 at *
  generalize w2.alloc (.cells #[.int .i64 n, .slice A2 rest.length c2] 24) = W3 at *
  refine HP3.out.mono ?_
  rintro e w4 ⟨u4, rfl, hr4, hb4⟩
  rw [HRR.out] at hr4 ⊢
  dsimp only at hr4 ⊢
  obtain ⟨A4, c4, rfl, -, -⟩ := Row.slice hr4
  have hbB : Below w4.heap.size w4 (w4.alloc (.cells #[.int .i64 n, .slice A4 rest.length c4] 24)) := (Below.refl _ _).alloc (Nat.le_refl _) _
  have hbAB := below_then hb4 hbB
  have HB5 := Lib.hid (below_then HB3.out hbAB)
  have HK5 := Lib.hid ((hbAB.block S2 hgl2).trans HK3.out)
  have HR5 := Lib.hid (HR3.out.below hbAB)
  have HU5 := Lib.hid (HU3.out.below hbAB)
  have HQ5 := Lib.hid (hr4.below hbB)
  have HN5 := Lib.hid (heap_alloc_new w4 (.cells #[.int .i64 n, .slice A4 rest.length c4] 24))
  clear hr4 hb4 hbB hbAB HP3
  go_upto_region 4 with fail
  generalize hS4 : w4.heap.size = S4 at *
  generalize w4.alloc (.cells #[.int .i64 n, .slice A4 rest.length c4] 24) = W5 at *
  have c0 : W5.cell? ⟨S2, 0, none⟩ = some (.int .i64 n) := (cell_of_row _ _ _ _ _ _ HK5.out).trans rfl
  have c1 : W5.cell? ⟨S2, 1, none⟩ = some (.slice A2 rest.length c2) := (cell_of_row _ _ _ _ _ _ HK5.out).trans rfl
  have c2' : W5.cell? ⟨S4, 0, none⟩ = some (.int .i64 n) := (cell_of_row _ _ _ _ _ _ HN5.out).trans rfl
  have c3' : W5.cell? ⟨S4, 1, none⟩ = some (.slice A4 rest.length c4) := (cell_of_row _ _ _ _ _ _ HN5.out).trans rfl
  have hb6 : Below W5.heap.size W5 (W5.alloc (.cells #[.int .i64 n, .slice A2 rest.length c2] 24)) := (Below.refl _ _).alloc (Nat.le_refl _) _
  have hb7 : Below (W5.alloc (.cells #[.int .i64 n, .slice A2 rest.length c2] 24)).heap.size (W5.alloc (.cells #[.int .i64 n, .slice A2 rest.length c2] 24)) ((W5.alloc (.cells #[.int .i64 n, .slice A2 rest.length c2] 24)).alloc (.cells #[.int .i64 n, .slice A4 rest.length c4] 24)) := (Below.refl _ _).alloc (Nat.le_refl _) _
  have c4' := (hb6.cell (p := ⟨S4, 0, none⟩) (World.block_lt_of_cell? W5 _ c2')).trans c2'
  have c5' := (hb6.cell (p := ⟨S4, 1, none⟩) (World.block_lt_of_cell? W5 _ c3')).trans c3'
  have hB2 := RowB.bytes (w := W5) (l := rest) (HR5.out.weak (Nat.zero_le _))
  have hB4 := RowB.bytes (w := W5) (l := rest) (HQ5.out.weak (Nat.zero_le _))
  have HS := Lib.hid (sameFrames24 [(n, rest)] [(n, rest)] _ _ _ ((frame_one (n := n) hB2).below hb7) (frame_one (n := n) (hB4.below hb6)))
  have HB7 := Lib.hid (below_then hb6 hb7)
  rw [World.size_alloc] at HS
  clear hB2 hB4 hb6 hb7
  have z : (er != er) = false := by simp
  go_wp2_with fail
  refine HS.out.mono ?_
  rintro e w8 ⟨rfl, hb8⟩
  have HB8 := Lib.hid (below_then HB7.out hb8)
  have HK8 := Lib.hid ((HB8.out.block S2 (Array.getElem?_eq_some_iff.1 HK5.out).1).trans HK5.out)
  have HR8 := Lib.hid (HR5.out.below HB8.out)
  have HU8 := Lib.hid (HU5.out.below HB8.out)
  have HBW8 := Lib.hid (below_then HB5.out HB8.out)
  have d0 : w8.cell? ⟨S2, 1, none⟩ = some (.slice A2 rest.length c2) := (cell_of_row _ _ _ _ _ _ HK8.out).trans rfl
  have HSP := Lib.hid (spoil19 _ rest w8 (HR8.out.weak (Nat.zero_le _)) (by omega))
  clear hb8 c0 c1 c2' c3' c4' c5' HS HB7
  go_wp2_with fail
  refine HSP.out.mono ?_
  rintro e w9 ⟨rfl, hg9⟩
  have hown : ∀ k, (Value.slice A2 rest.length c2).ownBlock = some k → w1.heap.size ≤ k := fun k hk => (Row.live HR8.out hk).1
  have hw1 := HB1.out.size
  have HB9 := Lib.hid (HBW8.out.grown hg9 HBW8.out.size (fun k hk => by have := hown k hk; omega))
  have HU9 := Lib.hid (HU8.out.grown hg9 (fun e => by
    have h1 := hown gu e.symm
    have h2 := HU.out.block
    obtain ⟨g', e1, -, e2⟩ := h2
    simp only [Value.ownBlock, Option.some.injEq] at e1
    omega))
  have HK9 := Lib.hid (kept20 bs _ _ _ w9 HU9.out (HI.out.below HB9.out))
  clear hg9 hown HSP d0
  go_wp2_with fail
  refine HK9.out.mono ?_
  rintro e w10 ⟨rfl, hb10⟩
  have HB10 := Lib.hid (below_then HB9.out hb10)
  clear hb10 HK9
  go_wp2_with fail
  refine (HK.out _).mono ?_
  rintro e w11 ⟨rfl, hb11⟩
  have HB11 := Lib.hid (below_then HB10.out hb11)
  go_wp2_with fail
  go_ret
  exact ⟨rfl, HB11.out⟩
end Go.Proofs.Ytedhldcoddbbdaa.F
