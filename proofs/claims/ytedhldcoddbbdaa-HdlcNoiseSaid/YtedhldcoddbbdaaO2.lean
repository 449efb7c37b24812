import Derived.Test.YtedhldcoddbbdaaR
set_option linter.unusedVariables false
set_option linter.unusedSimpArgs false
namespace Go.Proofs.Ytedhldcoddbbdaa.K
open Go.RowKit
structure IntsAt (w : World) (v : Value) (l : List Int) : Prop where
  at_ : ∃ A cap, v = .slice A l.length cap ∧ l.length ≤ cap ∧ cap ≤ maxLen ∧ (A = none → l = []) ∧
    ∀ ad, A = some ad → ∀ j (h : j < l.length), ∃ b o, ad = ⟨b, o, none⟩ ∧ w.cell? ⟨b, o + j, none⟩ = some (.int .i64 l[j])
theorem IntsAt.nil (w : World) : IntsAt w (.slice none 0 0) [] := ⟨none, 0, rfl, by simp, by decide, fun _ => rfl, fun _ h => by cases h⟩
theorem IntsAt.mono {w w' : World} {v : Value} {l : List Int} (h : IntsAt w v l) (hc : ∀ b o u, w.cell? ⟨b, o, none⟩ = some u → some b = v.ownBlock → w'.cell? ⟨b, o, none⟩ = some u) : IntsAt w' v l := by
  obtain ⟨A, cap, rfl, h1, h2, h3, h4⟩ := h
  refine ⟨A, cap, rfl, h1, h2, h3, fun ad e j hj => ?_⟩
  obtain ⟨b, o, rfl, hcell⟩ := h4 ad e j hj
  subst e
  exact ⟨b, o, rfl, hc _ _ _ hcell rfl⟩
theorem IntsAt.below {w w' : World} {v : Value} {l : List Int} (h : IntsAt w v l) (hb : Below w.heap.size w w') : IntsAt w' v l :=
  h.mono fun _ _ _ hc _ => (hb.cell (World.block_lt_of_cell? w _ hc)).trans hc
theorem IntsAt.grown {w w' : World} {v : Value} {l : List Int} (h : IntsAt w v l) {row : Option Nat} (hg : w.grownBy w' row) (hne : v.ownBlock = none ∨ v.ownBlock ≠ row) : IntsAt w' v l :=
  h.mono fun b o u hc hb => hg.cell hc (by
    rcases hne with hne | hne
    · rw [hne] at hb; cases hb
    · rw [← hb] at hne; exact hne)
end Go.Proofs.Ytedhldcoddbbdaa.K
namespace Go.Proofs.Ytedhldcoddbbdaa.R
open Go.ChangeShapes Go.WideShapes Go.Proofs.Ytedhldcoddbbdaa.K
theorem open_intsL {H : Type} {enc : TypeId × Value → H} {P : Program} {W : World} {base : Nat} {spare : Nat → Bool} {held : Bool} {t e : TypeId} {v : Value} {d : DataW H} {ps : List MemPlace} {ts : List TypeId} {ds : List (DataW H)} {j : Nat}
    (hsz : (DataW.weightsEach P ts ds).all (· ≤ reachBytes) = true) (ht : ts[j]? = some t) (hd : ds[j]? = some d) (hu : P.underlying t = some (.slice e)) (he : P.underlying e = some (.int .i64)) (hc : P.cellsOf e = 1) (hB : P.bytesOf e = 8)
    (hv : ∃ a len cap, v = .slice a len cap) (h : DataW.Trod enc P W base spare held t v d ps) : ∃ l, IntsAt W v l ∧ l.length ≤ 17592186043904 := by
  obtain ⟨a, len, cap, rfl⟩ := hv
  obtain ⟨fuel, hf⟩ := h
  rcases open_ints hu he hc hf with ⟨hcs, _⟩ | ⟨x, l, c, zs, hcs, _, hl, hm, hz, hx, hcell, hwz⟩
  · simp [Value.cells] at hcs
    obtain ⟨rfl, rfl, rfl⟩ := hcs
    exact ⟨[], .nil W, by simp⟩
  · simp [Value.cells] at hcs
    obtain ⟨rfl, rfl, rfl⟩ := hcs
    obtain ⟨hx, _⟩ := Prod.mk.inj hx
    subst hx
    have z := sized_slice hsz ht hd hu
    rw [hB] at z
    have hl2 : len ≤ zs.length := by
      rw [hz]
      split
      · exact hl
      · exact Nat.le_refl _
    have h1 : (lits (H := H) .i64 (zs.take len)).length + (lits (H := H) .i64 (zs.drop len)).length = zs.length := by
      simp [lits]
      omega
    rw [h1] at z
    have hlen : (zs.take len).length = len := by simp; omega
    refine ⟨zs.take len, ⟨_, cap, by rw [hlen], by rw [hlen]; exact hl, hm, fun e => by (cases e), fun ad e j hj => ?_⟩, ?_⟩
    · cases e
      rw [hlen] at hj
      have hj' : j < zs.length := by omega
      have hcj := hcell j hj'
      have hspot : (x.add j) = ⟨x.block, x.off + j, none⟩ ∧ x = ⟨x.block, x.off, none⟩ := by
        obtain ⟨b, o, s⟩ := x
        cases s with
        | none => exact ⟨add_mid b o j, rfl⟩
        | some s =>
          exfalso
          have h0 := hcell 0 (by omega)
          have e0 : (⟨b, o, some s⟩ : Addr).add 0 = ⟨b, o, some s⟩ := by unfold Addr.add; simp
          rw [e0] at h0
          unfold World.cell? at h0
          split at h0 <;> simp at h0
      refine ⟨x.block, x.off, hspot.2, ?_⟩
      rw [← hspot.1, hcj]
      simp only [List.getElem_take]
      have hg : zs.getD j 0 = zs[j] := by simp [List.getElem?_eq_getElem hj']
      rw [hg]
    · rw [hlen]
      have : reachBytes = 140737488351232 := rfl
      omega
end Go.Proofs.Ytedhldcoddbbdaa.R
