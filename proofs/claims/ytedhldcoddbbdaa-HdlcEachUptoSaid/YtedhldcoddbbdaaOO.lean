import Derived.Test.YtedhldcoddbbdaaRows
import Derived.Test.YtedhldcoddbbdaaR
import Derived.Deep.Slices
import Derived.Lib.SmallJoins
import Derived.Test.YtedhldcoddbbdaaT1
set_option linter.unusedVariables false
set_option linter.unusedSimpArgs false
/- A text of bytes is no longer than its datum's bulk. -/
namespace Go.Proofs.Ytedhldcoddbbdaa.R
open Go.ChangeShapes Go.WideShapes Go.Proofs.Ytedhldcoddbbdaa.K
theorem bulk_lits {H : Type} (k : IntKind) (zs : List Int) : Rows.uptoBulkAll (lits (H := H) k zs) = zs.length := by
  induction zs with
  | nil => rfl
  | cons z zs ih =>
    show Rows.uptoBulk (.lit (.int k z)) + Rows.uptoBulkAll (lits k zs) = _
    rw [ih]
    simp [Rows.uptoBulk]
    omega
theorem bulk_bytes {H : Type} {enc : TypeId × Value → H} {P : Program} {W : World} {base : Nat} {spare : Nat → Bool} {held : Bool} {t e : TypeId} {a : Option Addr} {len cap : Nat} {d : DataW H} {ps : List MemPlace}
    (hu : P.underlying t = some (.slice e)) (he : P.underlying e = some (.int .u8)) (hc : P.cellsOf e = 1) (h : DataW.Trod enc P W base spare held t (.slice a len cap) d ps) : len ≤ Rows.uptoBulk d := by
  obtain ⟨fuel, hf⟩ := h
  rcases open_ints hu he hc hf with ⟨hcs, _⟩ | ⟨x, l, c, zs, hcs, _, hl, hm, hz, hx, _⟩
  · simp [Value.cells] at hcs
    obtain ⟨rfl, rfl, rfl⟩ := hcs
    exact Nat.zero_le _
  · simp [Value.cells] at hcs
    obtain ⟨rfl, rfl, rfl⟩ := hcs
    obtain ⟨hx, _⟩ := Prod.mk.inj hx
    subst hx
    have hl2 : len ≤ zs.length := by
      rw [hz]
      split
      · exact hl
      · exact Nat.le_refl _
    rw [Rows.uptoBulk, bulk_lits, bulk_lits]
    simp
    omega
end Go.Proofs.Ytedhldcoddbbdaa.R

/- A slice of texts of bytes: opened, with the bulk of all. -/
namespace Go.Proofs.Ytedhldcoddbbdaa.K
open Go.RowKit
/-- Texts lie in a slice. -/
structure RowsAt (w : World) (v : Value) (L : List (List (BitVec 8))) : Prop where
  at_ : ∃ A cap, v = .slice A L.length cap ∧ L.length ≤ cap ∧ cap ≤ maxLen ∧ (A = none → L = []) ∧
    ∀ ad, A = some ad → ∀ j (h : j < L.length), ∃ b o x, ad = ⟨b, o, none⟩ ∧ w.cell? ⟨b, o + j, none⟩ = some x ∧ BytesAt w x L[j]
theorem RowsAt.below {w w' : World} {v : Value} {L : List (List (BitVec 8))} (h : RowsAt w v L) (hb : Below w.heap.size w w') : RowsAt w' v L := by
  obtain ⟨A, cap, rfl, h1, h2, h3, h4⟩ := h
  refine ⟨A, cap, rfl, h1, h2, h3, fun ad e j hj => ?_⟩
  obtain ⟨b, o, x, rfl, hc, hx⟩ := h4 ad e j hj
  exact ⟨b, o, x, rfl, (hb.cell (World.block_lt_of_cell? w _ hc)).trans hc, hx.below hb⟩
end Go.Proofs.Ytedhldcoddbbdaa.K
namespace Go.Proofs.Ytedhldcoddbbdaa.R
open Go.ChangeShapes Go.WideShapes Go.Proofs.Ytedhldcoddbbdaa.K
theorem spot {w : World} {x : Addr} {v : Value} (h : w.cell? (x.add 0) = some v) : ∃ b o, x = ⟨b, o, none⟩ := by
  obtain ⟨b, o, s⟩ := x
  cases s with
  | none => exact ⟨b, o, rfl⟩
  | some s =>
    exfalso
    have e0 : (⟨b, o, some s⟩ : Addr).add 0 = ⟨b, o, some s⟩ := by unfold Addr.add; simp
    rw [e0] at h
    unfold World.cell? at h
    split at h <;> simp at h
theorem open_bytes0 {H : Type} {enc : TypeId × Value → H} {P : Program} {W : World} {base : Nat} {spare : Nat → Bool} {held : Bool} {t e : TypeId} {v : Value} {d : DataW H} {ps : List MemPlace} {fuel : Nat}
    (hu : P.underlying t = some (.slice e)) (he : P.underlying e = some (.int .u8)) (hc : P.cellsOf e = 1) (hf : DataW.trod enc P W base spare held fuel t [v] = some (d, ps)) : ∃ l, BytesAt W v l ∧ l.length ≤ Rows.uptoBulk d := by
  rcases open_ints hu he hc hf with ⟨hcs, _⟩ | ⟨x, l, c, zs, hcs, _, hl, hm, hz, hx, hcell, hwz⟩
  · obtain rfl : v = .slice none 0 0 := by simpa using hcs
    exact ⟨[], .nil W, by simp⟩
  · obtain rfl : v = .slice (some x) l c := by simpa using hcs
    have hbk : l ≤ Rows.uptoBulk d := bulk_bytes hu he hc ⟨fuel, hf⟩
    obtain ⟨hx, _⟩ := Prod.mk.inj hx
    have hl2 : l ≤ zs.length := by
      rw [hz]
      split
      · exact hl
      · exact Nat.le_refl _
    have hlen : (zs.take l).length = l := by simp; omega
    refine ⟨(zs.take l).map (BitVec.ofInt 8), ⟨_, c, by rw [List.length_map, hlen], by rw [List.length_map, hlen]; exact hl, hm, fun e => by (cases e), fun ad e j hj => ?_⟩, by rw [List.length_map, hlen]; exact hbk⟩
    cases e
    rw [List.length_map, hlen] at hj
    have hj' : j < zs.length := by omega
    have hcj := hcell j hj'
    obtain ⟨b, o, rfl⟩ := spot (hcell 0 (by omega))
    refine ⟨b, o, rfl, ?_⟩
    rw [add_mid] at hcj
    rw [hcj]
    have hw := hwz (zs.getD j 0) (by simp [List.getElem?_eq_getElem hj'])
    have hr : 0 ≤ zs.getD j 0 ∧ zs.getD j 0 ≤ 255 := by simpa [Lit.wf, IntKind.min, IntKind.max, IntKind.signed, IntKind.bits] using hw
    simp only [List.getElem_map, List.getElem_take]
    have hg : zs.getD j 0 = zs[j] := by simp [List.getElem?_eq_getElem hj']
    rw [hg] at hr ⊢
    unfold b8
    rw [v8_ofInt hr.1 hr.2]
theorem bulk_all {H : Type} : ∀ (l : List (DataW H)), Rows.uptoBulkAll l = (l.map Rows.uptoBulk).sum
  | [] => rfl
  | d :: r => by rw [List.map_cons, List.sum_cons, ← bulk_all r]; rfl
theorem open_rows {H : Type} {enc : TypeId × Value → H} {P : Program} {W : World} {base : Nat} {spare : Nat → Bool} {held : Bool} {t u e : TypeId} {v : Value} {d : DataW H} {ps : List MemPlace}
    (hu : P.underlying t = some (.slice u)) (hcu : P.cellsOf u = 1) (hu2 : P.underlying u = some (.slice e)) (he : P.underlying e = some (.int .u8)) (hc : P.cellsOf e = 1)
    (hv : ∃ a len cap, v = .slice a len cap) (h : DataW.Trod enc P W base spare held t v d ps) : ∃ L, RowsAt W v L ∧ (L.map List.length).sum ≤ Rows.uptoBulk d := by
  obtain ⟨a, len, cap, rfl⟩ := hv
  obtain ⟨fuel, hf⟩ := h
  rcases Deep.open_slice1 hu hcu hf with ⟨hcs, _⟩ | ⟨ad, l, c, m, k, V, D, Pl, hcs, hb, hl, hm, hmm, hx, hel⟩
  · simp [Value.cells] at hcs
    obtain ⟨rfl, rfl, rfl⟩ := hcs
    exact ⟨[], ⟨none, 0, rfl, by simp, by decide, fun _ => rfl, fun _ e => by cases e⟩, by simp⟩
  · simp [Value.cells] at hcs
    obtain ⟨rfl, rfl, rfl⟩ := hcs
    have hlm : len ≤ m := by rw [hmm]; split <;> omega
    obtain ⟨hx, _⟩ := Prod.mk.inj hx
    subst hx
    have each : ∀ i, i < len → ∃ x : List (BitVec 8), W.cell? (ad.add i) = some (V i) ∧ BytesAt W (V i) x ∧ x.length ≤ Rows.uptoBulk (D i) := by
      intro i hi
      obtain ⟨h1, h2⟩ := hel i (by omega)
      obtain ⟨x, h3, h4⟩ := open_bytes0 hu2 he hc h2
      exact ⟨x, h1, h3, h4⟩
    have hall : ∃ X : List (List (BitVec 8)), X.length = len ∧ (X.map List.length).sum ≤ (((List.range len).map D).map Rows.uptoBulk).sum ∧ ∀ i (h : i < X.length), W.cell? (ad.add i) = some (V i) ∧ BytesAt W (V i) X[i] := by
      clear hel hmm hlm hl hm hf hx
      induction len with
      | zero => exact ⟨[], rfl, by simp, fun i h => by cases h⟩
      | succ q ih =>
        obtain ⟨X, hX, hs, hall⟩ := ih (fun i hi => each i (by omega))
        obtain ⟨x, hx1, hx2, hx3⟩ := each q (by omega)
        refine ⟨X ++ [x], by simp [hX], ?_, fun i hi => ?_⟩
        · rw [List.range_succ]
          simp only [List.map_append, List.sum_append, List.map_cons, List.map_nil, List.sum_cons, List.sum_nil]
          omega
        · by_cases hq : i < X.length
          · rw [List.getElem_append_left hq]; exact hall i hq
          · have : i = q := by simp at hi; omega
            subst this
            rw [List.getElem_append_right (by omega)]
            simp only [hX, Nat.sub_self, List.getElem_cons_zero]
            exact ⟨hx1, hx2⟩
    obtain ⟨X, hX, hs, hall⟩ := hall
    refine ⟨X, ⟨some ad, cap, by rw [hX], by omega, hm, fun h9 => (by cases h9), fun ad' h9 i hi => ?_⟩, ?_⟩
    · cases h9
      obtain ⟨h1, h2⟩ := hall i hi
      obtain ⟨b, o, rfl⟩ := spot (hall 0 (by omega)).1
      rw [add_mid] at h1
      exact ⟨b, o, _, rfl, h1, h2⟩
    · rw [Rows.uptoBulk, bulk_all]
      omega
/-- a frame, as an argument -/
def FrameV (w : World) (v : Value) (x : Int × List (BitVec 8)) : Prop := ∃ u, v = .agg #[.int .i64 x.1, u] ∧ BytesAt w u x.2
theorem cell_frame {H : Type} {enc : TypeId × Value → H} {W : World} {base : Nat} {spare : Nat → Bool} {held : Bool} {fuel : Nat} {cs : List Value} {y : DataW H × List MemPlace}
    (h : DataW.trod enc Try.prog W base spare held fuel 24 cs = some y) : ∃ (n : Int) (u : Value) (l : List (BitVec 8)), cs = [.int .i64 n, u] ∧ BytesAt W u l ∧ l.length ≤ Rows.uptoBulk y.1 := by
  obtain ⟨y0, y1, n, hx, hl, h0, h1⟩ := _root_.Go.ChangeShapes.trod_struct2 Try.underlying24 h
  have h2 : cs.length = 2 := hl.trans (by kernel_rfl)
  obtain ⟨c0, c1, rfl⟩ : ∃ a b, cs = [a, b] := by
    match cs, h2 with
    | [a, b], _ => exact ⟨a, b, rfl⟩
  have h0' : DataW.trod enc Try.prog W base spare held n 3 [c0] = some y0 := h0
  have h1' : DataW.trod enc Try.prog W base spare held n 22 [c1] = some y1 := h1
  obtain ⟨z, e0, -⟩ := DataW.trod_int Try.underlying3 h0'
  simp only [List.cons.injEq, and_true] at e0
  subst e0
  obtain ⟨l, hb, hk⟩ := open_bytes0 Try.underlying22 Try.underlying5 (by kernel_rfl) (d := y1.1) (ps := y1.2) h1'
  refine ⟨z, c1, l, rfl, hb, ?_⟩
  rw [hx, Rows.uptoBulk, bulk_all]
  simp
  omega
theorem open_frame {H : Type} {enc : TypeId × Value → H} {W : World} {base b0 : Nat} {r : Reach} {spare : Nat → Bool} {held : Bool} {v : Value} {d : DataW H} {ps : List MemPlace}
    (hv : Value.okWide Try.prog W r b0 24 v) (h : DataW.Trod enc Try.prog W base spare held 24 v d ps) : ∃ x, FrameV W v x := by
  obtain ⟨cs, rfl, hsz⟩ := okWide_struct Try.underlying24 hv
  obtain ⟨fuel, hf⟩ := h
  obtain ⟨n, u, l, hc, hb, -⟩ := cell_frame hf
  have : cs = #[.int .i64 n, u] := by
    have : cs.toList = [.int .i64 n, u] := hc
    cases cs
    simp_all
  subst this
  exact ⟨(n, l), u, rfl, hb⟩
theorem open_frameB {H : Type} {enc : TypeId × Value → H} {W : World} {base b0 : Nat} {r : Reach} {spare : Nat → Bool} {held : Bool} {v : Value} {d : DataW H} {ps : List MemPlace}
    (hv : Value.okWide Try.prog W r b0 24 v) (h : DataW.Trod enc Try.prog W base spare held 24 v d ps) : ∃ x, FrameV W v x ∧ x.2.length ≤ Rows.uptoBulk d := by
  obtain ⟨cs, rfl, hsz⟩ := okWide_struct Try.underlying24 hv
  obtain ⟨fuel, hf⟩ := h
  obtain ⟨n, u, l, hc, hb, hk⟩ := cell_frame hf
  have : cs = #[.int .i64 n, u] := by
    have : cs.toList = [.int .i64 n, u] := hc
    cases cs
    simp_all
  subst this
  exact ⟨(n, l), ⟨u, rfl, hb⟩, hk⟩
theorem open_frames {H : Type} {enc : TypeId × Value → H} {W : World} {base : Nat} {spare : Nat → Bool} {held : Bool} {v : Value} {d : DataW H} {ps : List MemPlace}
    (hv : ∃ a len cap, v = .slice a len cap) (h : DataW.Trod enc Try.prog W base spare held 42 v d ps) : ∃ L, F.FramesAt W v L := by
  obtain ⟨a, len, cap, rfl⟩ := hv
  obtain ⟨fuel, hf⟩ := h
  rcases Deep.open_slice Try.underlying42 hf with ⟨hcs, _⟩ | ⟨ad, l, c, m, k, D, Pl, hcs, hb, hl, hm, hmm, hx, hel⟩
  · simp [Value.cells] at hcs
    obtain ⟨rfl, rfl, rfl⟩ := hcs
    exact ⟨[], F.FramesAt.nil W⟩
  · simp [Value.cells] at hcs
    obtain ⟨rfl, rfl, rfl⟩ := hcs
    have hlm : len ≤ m := by rw [hmm]; split <;> omega
    have h24 : Try.prog.cellsOf 24 = 2 := by kernel_rfl
    rw [h24] at hel
    have each : ∀ i, i < len → ∃ (x : Int × List (BitVec 8)) (u : Value), W.cell? ((ad.add (i * 2)).add 0) = some (.int .i64 x.1) ∧ W.cell? ((ad.add (i * 2)).add 1) = some u ∧ BytesAt W u x.2 := by
      intro i hi
      obtain ⟨cs', h1, h2⟩ := hel i (by omega)
      obtain ⟨_, hlen, hcell⟩ := World.cells?_some h1
      obtain ⟨n, u, x, rfl, h3, -⟩ := cell_frame h2
      exact ⟨(n, x), u, hcell 0 (by omega), hcell 1 (by omega), h3⟩
    have hall : ∃ X : List (Int × List (BitVec 8)), X.length = len ∧ ∀ i (h : i < X.length), ∃ u : Value, W.cell? ((ad.add (i * 2)).add 0) = some (.int .i64 X[i].1) ∧ W.cell? ((ad.add (i * 2)).add 1) = some u ∧ BytesAt W u X[i].2 := by
      clear hel hmm hlm hl hm hf hx
      induction len with
      | zero => exact ⟨[], rfl, fun i h => by cases h⟩
      | succ q ih =>
        obtain ⟨X, hX, hall⟩ := ih (fun i hi => each i (by omega))
        obtain ⟨x, u, hx1, hx2, hx3⟩ := each q (by omega)
        refine ⟨X ++ [x], by simp [hX], fun i hi => ?_⟩
        by_cases hq : i < X.length
        · rw [List.getElem_append_left hq]; exact hall i hq
        · have : i = q := by simp at hi; omega
          subst this
          rw [List.getElem_append_right (by omega)]
          simp only [hX, Nat.sub_self, List.getElem_cons_zero]
          exact ⟨u, hx1, hx2, hx3⟩
    obtain ⟨X, hX, hall⟩ := hall
    refine ⟨X, ⟨some ad, cap, by rw [hX], by omega, hm, fun i hi => ?_⟩⟩
    obtain ⟨u, h1, h2, h3⟩ := hall i hi
    obtain ⟨u0, h10, -⟩ := hall 0 (by omega)
    obtain ⟨b, o, e⟩ := spot h10
    obtain ⟨b, o, rfl⟩ : ∃ b o, ad = ⟨b, o, none⟩ := by
      obtain ⟨b', o', s⟩ := ad
      cases s with
      | none => exact ⟨b', o', rfl⟩
      | some s =>
        exfalso
        unfold Addr.add at e
        split at e <;> simp_all
    rw [add_mid, add_mid] at h1 h2
    rw [Nat.add_zero] at h1
    exact ⟨b, o, u, rfl, h1, h2, h3⟩
end Go.Proofs.Ytedhldcoddbbdaa.R

namespace Go.Proofs.Ytedhldcoddbbdaa.K
open Go.RowKit
structure IntsAt (w : World) (v : Value) (l : List Int) : Prop where
  at_ : ∃ A cap, v = .slice A l.length cap ∧ l.length ≤ cap ∧ cap ≤ maxLen ∧ (A = none → l = []) ∧
    ∀ ad, A = some ad → ∀ j (h : j < l.length), ∃ b o, ad = ⟨b, o, none⟩ ∧ w.cell? ⟨b, o + j, none⟩ = some (.int .i64 l[j])
theorem IntsAt.nil (w : World) : IntsAt w (.slice none 0 0) [] := ⟨none, 0, rfl, by simp, by decide, fun _ => rfl, fun _ h => by cases h⟩
theorem IntsAt.mono {w w' : World} {v : Value} {l : List Int} (h : IntsAt w v l) (hc : ∀ b o u, w.cell? ⟨b, o, none⟩ = some u → some b = v.ownBlock → w'.cell? ⟨b, o, none⟩ = some u) : IntsAt w' v l := by
  obtain ⟨A, cap, rfl, h1, h2, h3, h4⟩ := h
  refine ⟨A, cap, rfl, h1, h2, h3, fun ad e j hj => ?_⟩
  obtain ⟨b, o, rfl, hcell⟩ := h4 ad e j hj
  subst e
  exact ⟨b, o, rfl, hc _ _ _ hcell rfl⟩
theorem IntsAt.below {w w' : World} {v : Value} {l : List Int} (h : IntsAt w v l) (hb : Below w.heap.size w w') : IntsAt w' v l :=
  h.mono fun _ _ _ hc _ => (hb.cell (World.block_lt_of_cell? w _ hc)).trans hc
theorem IntsAt.grown {w w' : World} {v : Value} {l : List Int} (h : IntsAt w v l) {row : Option Nat} (hg : w.grownBy w' row) (hne : v.ownBlock = none ∨ v.ownBlock ≠ row) : IntsAt w' v l :=
  h.mono fun b o u hc hb => hg.cell hc (by
    rcases hne with hne | hne
    · rw [hne] at hb; cases hb
    · rw [← hb] at hne; exact hne)
end Go.Proofs.Ytedhldcoddbbdaa.K
namespace Go.Proofs.Ytedhldcoddbbdaa.R
open Go.ChangeShapes Go.WideShapes Go.Proofs.Ytedhldcoddbbdaa.K
theorem open_intsL {H : Type} {enc : TypeId × Value → H} {P : Program} {W : World} {base : Nat} {spare : Nat → Bool} {held : Bool} {t e : TypeId} {v : Value} {d : DataW H} {ps : List MemPlace} {ts : List TypeId} {ds : List (DataW H)} {j : Nat}
    (hsz : (DataW.weightsEach P ts ds).all (· ≤ reachBytes) = true) (ht : ts[j]? = some t) (hd : ds[j]? = some d) (hu : P.underlying t = some (.slice e)) (he : P.underlying e = some (.int .i64)) (hc : P.cellsOf e = 1) (hB : P.bytesOf e = 8)
    (hv : ∃ a len cap, v = .slice a len cap) (h : DataW.Trod enc P W base spare held t v d ps) : ∃ l, IntsAt W v l ∧ l.length ≤ 17592186043904 := by
  obtain ⟨a, len, cap, rfl⟩ := hv
  obtain ⟨fuel, hf⟩ := h
  rcases open_ints hu he hc hf with ⟨hcs, _⟩ | ⟨x, l, c, zs, hcs, _, hl, hm, hz, hx, hcell, hwz⟩
  · simp [Value.cells] at hcs
    obtain ⟨rfl, rfl, rfl⟩ := hcs
    exact ⟨[], .nil W, by simp⟩
  · simp [Value.cells] at hcs
    obtain ⟨rfl, rfl, rfl⟩ := hcs
    obtain ⟨hx, _⟩ := Prod.mk.inj hx
    subst hx
    have z := sized_slice hsz ht hd hu
    rw [hB] at z
    have hl2 : len ≤ zs.length := by
      rw [hz]
      split
      · exact hl
      · exact Nat.le_refl _
    have h1 : (lits (H := H) .i64 (zs.take len)).length + (lits (H := H) .i64 (zs.drop len)).length = zs.length := by
      simp [lits]
      omega
    rw [h1] at z
    have hlen : (zs.take len).length = len := by simp; omega
    refine ⟨zs.take len, ⟨_, cap, by rw [hlen], by rw [hlen]; exact hl, hm, fun e => by (cases e), fun ad e j hj => ?_⟩, ?_⟩
    · cases e
      rw [hlen] at hj
      have hj' : j < zs.length := by omega
      have hcj := hcell j hj'
      have hspot : (x.add j) = ⟨x.block, x.off + j, none⟩ ∧ x = ⟨x.block, x.off, none⟩ := by
        obtain ⟨b, o, s⟩ := x
        cases s with
        | none => exact ⟨add_mid b o j, rfl⟩
        | some s =>
          exfalso
          have h0 := hcell 0 (by omega)
          have e0 : (⟨b, o, some s⟩ : Addr).add 0 = ⟨b, o, some s⟩ := by unfold Addr.add; simp
          rw [e0] at h0
          unfold World.cell? at h0
          split at h0 <;> simp at h0
      refine ⟨x.block, x.off, hspot.2, ?_⟩
      rw [← hspot.1, hcj]
      simp only [List.getElem_take]
      have hg : zs.getD j 0 = zs[j] := by simp [List.getElem?_eq_getElem hj']
      rw [hg]
    · rw [hlen]
      have : reachBytes = 140737488351232 := rfl
      omega
end Go.Proofs.Ytedhldcoddbbdaa.R
