import Derived.Test.YtedhldcoddbbdaaK
import Derived.SizedLaws
import Derived.ChangeSlices
import Derived.ProofKit
set_option linter.unusedVariables false
/- A row's arguments, opened: bytes. -/
namespace Go.Proofs.Ytedhldcoddbbdaa.R
open Go.ChangeShapes Go.WideShapes Go.Proofs.Ytedhldcoddbbdaa.K
theorem v8_ofInt {x : Int} (h0 : 0 ≤ x) (h1 : x ≤ 255) : v8 (BitVec.ofInt 8 x) = x := by
  unfold v8
  rw [BitVec.toNat_ofInt]
  omega
theorem open_bytes {H : Type} {enc : TypeId × Value → H} {P : Program} {W : World} {base : Nat} {spare : Nat → Bool} {held : Bool} {t e : TypeId} {v : Value} {d : DataW H} {ps : List MemPlace} {ts : List TypeId} {ds : List (DataW H)} {j : Nat}
    (hsz : (DataW.weightsEach P ts ds).all (· ≤ reachBytes) = true) (ht : ts[j]? = some t) (hd : ds[j]? = some d) (hu : P.underlying t = some (.slice e)) (he : P.underlying e = some (.int .u8)) (hc : P.cellsOf e = 1) (hB : P.bytesOf e = 1)
    (hv : ∃ a len cap, v = .slice a len cap) (h : DataW.Trod enc P W base spare held t v d ps) : ∃ l, BytesAt W v l ∧ l.length ≤ 140737488351232 := by
  obtain ⟨a, len, cap, rfl⟩ := hv
  obtain ⟨fuel, hf⟩ := h
  rcases open_ints hu he hc hf with ⟨hcs, _⟩ | ⟨x, l, c, zs, hcs, _, hl, hm, hz, hx, hcell, hwz⟩
  · simp [Value.cells] at hcs
    obtain ⟨rfl, rfl, rfl⟩ := hcs
    exact ⟨[], .nil W, by simp⟩
  · simp [Value.cells] at hcs
    obtain ⟨rfl, rfl, rfl⟩ := hcs
    obtain ⟨hx, _⟩ := Prod.mk.inj hx
    subst hx
    have z := sized_slice hsz ht hd hu
    rw [hB] at z
    have hl2 : len ≤ zs.length := by
      rw [hz]
      split
      · exact hl
      · exact Nat.le_refl _
    have h1 : (lits (H := H) .u8 (zs.take len)).length + (lits (H := H) .u8 (zs.drop len)).length = zs.length := by
      simp [lits]
      omega
    rw [h1] at z
    have hlen : (zs.take len).length = len := by simp; omega
    refine ⟨(zs.take len).map (BitVec.ofInt 8), ⟨_, cap, by rw [List.length_map, hlen], by rw [List.length_map, hlen]; exact hl, hm, fun e => by (cases e), fun ad e j hj => ?_⟩, ?_⟩
    · cases e
      rw [List.length_map, hlen] at hj
      have hj' : j < zs.length := by omega
      have hcj := hcell j hj'
      have hspot : (x.add j) = ⟨x.block, x.off + j, none⟩ ∧ x = ⟨x.block, x.off, none⟩ := by
        obtain ⟨b, o, s⟩ := x
        cases s with
        | none => exact ⟨add_mid b o j, rfl⟩
        | some s =>
          exfalso
          have h0 := hcell 0 (by omega)
          have e0 : (⟨b, o, some s⟩ : Addr).add 0 = ⟨b, o, some s⟩ := by unfold Addr.add; simp
          rw [e0] at h0
          unfold World.cell? at h0
          split at h0 <;> simp at h0
      refine ⟨x.block, x.off, hspot.2, ?_⟩
      rw [← hspot.1, hcj]
      have hw := hwz (zs.getD j 0) (by simp [List.getElem?_eq_getElem hj'])
      have hr : 0 ≤ zs.getD j 0 ∧ zs.getD j 0 ≤ 255 := by simpa [Lit.wf, IntKind.min, IntKind.max, IntKind.signed, IntKind.bits] using hw
      simp only [List.getElem_map, List.getElem_take]
      have hg : zs.getD j 0 = zs[j] := by simp [List.getElem?_eq_getElem hj']
      rw [hg] at hr ⊢
      rw [b8, v8_ofInt hr.1 hr.2]
    · rw [List.length_map, hlen]
      have : reachBytes = 140737488351232 := rfl
      omega
end Go.Proofs.Ytedhldcoddbbdaa.R
