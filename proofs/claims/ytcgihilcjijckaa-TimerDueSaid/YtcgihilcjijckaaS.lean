import Derived.Test.YtcgihilcjijckaaK
import Derived.Deep.Slices
import Derived.ChangeArms
import Derived.SizedLaws
import Derived.ProofKit
set_option linter.unusedVariables false
/- A slice of records (structs of cells): opened as an argument; its element read by a walk. -/
namespace Go.Proofs.Ytcgihilcjijckaa.K
open Go.ChangeShapes Go.WideShapes Go.RowKit
/-- Records of n cells lie in a slice. -/
structure RecsAt {α : Type} (w : World) (v : Value) (n : Nat) (cells : α → List Value) (l : List α) : Prop where
  at_ : ∃ A cap, v = .slice A l.length cap ∧ l.length ≤ cap ∧ cap ≤ maxLen ∧ (A = none → l = []) ∧
    ∀ ad, A = some ad → ∀ i (h : i < l.length), ∃ b o, ad = ⟨b, o, none⟩ ∧ b < w.heap.size ∧ ∀ j u, (cells l[i])[j]? = some u → w.cell? ⟨b, o + i * n + j, none⟩ = some u
theorem RecsAt.below {α : Type} {w w' : World} {v : Value} {n : Nat} {cells : α → List Value} {l : List α} (h : RecsAt w v n cells l) (hb : Below w.heap.size w w') : RecsAt w' v n cells l := by
  obtain ⟨A, cap, rfl, h1, h2, h3, h4⟩ := h
  refine ⟨A, cap, rfl, h1, h2, h3, fun ad e i hi => ?_⟩
  obtain ⟨b, o, rfl, hlt, hc⟩ := h4 ad e i hi
  exact ⟨b, o, rfl, Nat.lt_of_lt_of_le hlt hb.size, fun j u hu => (hb.cell hlt).trans (hc j u hu)⟩
section
variable {H : Type} {enc : TypeId × Value → H} {P : Program} {W : World} {base : Nat} {spare : Nat → Bool} {held : Bool}
theorem open_recs {α : Type} {t e : TypeId} {v : Value} {d : DataW H} {ps : List MemPlace} {n : Nat} (cells : α → List Value) (good : α → Prop) (hu : P.underlying t = some (.slice e)) (hc : P.cellsOf e = n) (hn : 0 < n)
    (hread : ∀ (fuel : Nat) (cs : List Value) (y : DataW H × List MemPlace), DataW.trod enc P W base spare held fuel e cs = some y → ∃ a : α, cs = cells a ∧ good a)
    (hv : ∃ a len cap, v = .slice a len cap) (h : DataW.Trod enc P W base spare held t v d ps) : ∃ l : List α, RecsAt W v n cells l ∧ ∀ a ∈ l, good a := by
  obtain ⟨a, len, cap, rfl⟩ := hv
  obtain ⟨fuel, hf⟩ := h
  rcases Deep.open_slice hu hf with ⟨hcs, _⟩ | ⟨ad, l, c, m, k, D, Pl, hcs, hb, hl, hm, hmm, hx, hel⟩
  · simp [Value.cells] at hcs
    obtain ⟨rfl, rfl, rfl⟩ := hcs
    exact ⟨[], ⟨none, 0, rfl, by simp, by decide, fun _ => rfl, fun _ e => by cases e⟩, fun _ h => by cases h⟩
  · simp [Value.cells] at hcs
    obtain ⟨rfl, rfl, rfl⟩ := hcs
    have hlm : len ≤ m := by rw [hmm]; split <;> omega
    have each : ∀ i, i < len → ∃ x : α, good x ∧ ∀ j u, (cells x)[j]? = some u → W.cell? ((ad.add (i * n)).add j) = some u := by
      intro i hi
      obtain ⟨cs', h1, h2⟩ := hel i (by omega)
      rw [hc] at h1
      obtain ⟨_, hlen, hcell⟩ := World.cells?_some h1
      obtain ⟨x, rfl, hg⟩ := hread _ _ _ h2
      refine ⟨x, hg, fun j u hu => ?_⟩
      have hj : j < n := by
        have := (List.getElem?_eq_some_iff.1 hu).1
        omega
      rw [hcell j hj]
      exact hu
    have hall : ∃ X : List α, X.length = len ∧ ∀ i (h : i < X.length), good X[i] ∧ ∀ j u, (cells X[i])[j]? = some u → W.cell? ((ad.add (i * n)).add j) = some u := by
      clear hel hx hmm hlm hl hm hf
      induction len with
      | zero => exact ⟨[], rfl, fun i h => by cases h⟩
      | succ q ih =>
        obtain ⟨X, hX, hall⟩ := ih (fun i hi => each i (by omega))
        obtain ⟨x, hg, hx⟩ := each q (by omega)
        refine ⟨X ++ [x], by simp [hX], fun i hi => ?_⟩
        by_cases hq : i < X.length
        · rw [List.getElem_append_left hq]; exact hall i hq
        · have : i = q := by simp at hi; omega
          subst this
          rw [List.getElem_append_right (by omega)]
          simp only [hX, Nat.sub_self, List.getElem_cons_zero]
          exact ⟨hg, hx⟩
    obtain ⟨X, hX, hall⟩ := hall
    refine ⟨X, ⟨some ad, cap, by rw [hX], by omega, hm, fun h9 => (by cases h9), fun ad' h9 i hi => ?_⟩, fun x hx => ?_⟩
    · cases h9
      obtain ⟨b, o, s⟩ := ad
      have h0 := hel 0 (by omega)
      obtain ⟨cs', h1, _⟩ := h0
      rw [hc] at h1
      obtain ⟨_, hlen, hcell⟩ := World.cells?_some h1
      have c0 := hcell 0 hn
      have hz : (cs'[0]?).isSome := by simp; omega
      cases s with
      | some s =>
        exfalso
        have e0 : ((⟨b, o, some s⟩ : Addr).add (0 * n)).add 0 = ⟨b, o, some s⟩ := by unfold Addr.add; simp
        rw [e0] at c0
        rw [← c0] at hz
        unfold World.cell? at hz
        split at hz <;> simp at hz
      | none =>
        rw [add_mid, add_mid] at c0
        rw [← c0] at hz
        obtain ⟨u, hu⟩ := Option.isSome_iff_exists.1 hz
        refine ⟨b, o, rfl, World.block_lt_of_cell? W _ hu, fun j u hu => ?_⟩
        have := (hall i hi).2 j u hu
        rwa [add_mid, add_mid] at this
    · obtain ⟨i, hi, rfl⟩ := List.mem_iff_getElem.1 hx
      exact (hall i hi).1
end
end Go.Proofs.Ytcgihilcjijckaa.K
