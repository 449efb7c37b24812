import Derived.Test.YtedhldcoddbbdaaRows
import Derived.Test.YtedhldcoddbbdaaR
set_option linter.unusedVariables false
/- A text of bytes is no longer than its datum's bulk. -/
namespace Go.Proofs.Ytedhldcoddbbdaa.R
open Go.ChangeShapes Go.WideShapes Go.Proofs.Ytedhldcoddbbdaa.K
theorem bulk_lits {H : Type} (k : IntKind) (zs : List Int) : Rows.uptoBulkAll (lits (H := H) k zs) = zs.length := by
  induction zs with
  | nil => rfl
  | cons z zs ih =>
    show Rows.uptoBulk (.lit (.int k z)) + Rows.uptoBulkAll (lits k zs) = _
    rw [ih]
    simp [Rows.uptoBulk]
    omega
theorem bulk_bytes {H : Type} {enc : TypeId × Value → H} {P : Program} {W : World} {base : Nat} {spare : Nat → Bool} {held : Bool} {t e : TypeId} {a : Option Addr} {len cap : Nat} {d : DataW H} {ps : List MemPlace}
    (hu : P.underlying t = some (.slice e)) (he : P.underlying e = some (.int .u8)) (hc : P.cellsOf e = 1) (h : DataW.Trod enc P W base spare held t (.slice a len cap) d ps) : len ≤ Rows.uptoBulk d := by
  obtain ⟨fuel, hf⟩ := h
  rcases open_ints hu he hc hf with ⟨hcs, _⟩ | ⟨x, l, c, zs, hcs, _, hl, hm, hz, hx, _⟩
  · simp [Value.cells] at hcs
    obtain ⟨rfl, rfl, rfl⟩ := hcs
    exact Nat.zero_le _
  · simp [Value.cells] at hcs
    obtain ⟨rfl, rfl, rfl⟩ := hcs
    obtain ⟨hx, _⟩ := Prod.mk.inj hx
    subst hx
    have hl2 : len ≤ zs.length := by
      rw [hz]
      split
      · exact hl
      · exact Nat.le_refl _
    rw [Rows.uptoBulk, bulk_lits, bulk_lits]
    simp
    omega
end Go.Proofs.Ytedhldcoddbbdaa.R
