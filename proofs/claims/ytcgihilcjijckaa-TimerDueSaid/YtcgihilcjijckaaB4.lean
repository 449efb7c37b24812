import Derived.Test.YtcgihilcjijckaaB0
import Derived.Laws.CopyRow
import Derived.Laws.CopyOwn
/- copy(x[k+1:], x[k:]) of records within a row. -/
set_option linter.unusedVariables false
set_option linter.unusedSimpArgs false
namespace Go.Proofs.Ytcgihilcjijckaa.K
open Go.RowKit
theorem run_copy_recs {P : Program} (w : World) (dT sT ty elem : TypeId) (size : Nat) (g o dLen dCap : Nat) (a : Addr) (sLen sCap : Nat) (cur : Array Value) (t : TypeId) (cs : List Value)
    (hu : P.underlying dT = some (.slice elem)) (hs : ∃ i, P.info? elem = some i ∧ i.size = size)
    (hg : w.heap[g]? = some (.cells cur t (0, 0))) (hn : cs.length = Nat.min sLen dLen * size)
    (hsrc : ∀ j v, cs[j]? = some v → w.cell? (a.add j) = some v) (hfit : o + cs.length ≤ cur.size) (h1 : ∀ v ∈ cs, v.oneCell' = true) :
    (Builtin.copy_ #[dT, sT] ty #[.slice (some ⟨g, o, none⟩) dLen dCap, .slice (some a) sLen sCap]).run P w =
      .ok (goInt (Nat.min sLen dLen)) (w.setRow g (cur.toList.take o ++ cs ++ cur.toList.drop (o + cs.length)).toArray) := by
  have hl := run_loadCells_list (P := P) w a cs hsrc
  have hst := run_storeCells_at P g o t cs 0 cur w hg (by simpa using hfit) h1
  obtain ⟨i, hq, hi⟩ := hs
  simp [Builtin.copy_, run_underlying hu, Builtin.lenOf, Builtin.firstCells, sizeOf, typeInfo, hq, hi, ← hn, hl, hst]
theorem run_copy_zero {P : Program} (w : World) (dT sT ty elem : TypeId) (size : Nat) (d : Addr) (dCap : Nat) (a : Addr) (sLen sCap : Nat)
    (hu : P.underlying dT = some (.slice elem)) (hs : ∃ i, P.info? elem = some i ∧ i.size = size) :
    (Builtin.copy_ #[dT, sT] ty #[.slice (some d) 0 dCap, .slice (some a) sLen sCap]).run P w = .ok (goInt 0) w := by
  obtain ⟨i, hq, hi⟩ := hs
  simp [Builtin.copy_, run_underlying hu, Builtin.lenOf, Builtin.firstCells, sizeOf, typeInfo, hq, hi, loadCells, loadCellsFrom, storeCells]
/-- what lies in the row behind it -/
def shiftX (size k n : Nat) (xs : List Value) : List Value := xs.take ((k + 1) * size) ++ (xs.drop (k * size)).take ((n - (k + 1)) * size)
theorem run_shift {P : Program} {w : World} {t e : TypeId} {size bytes : Nat} {z : Value} (E : ElemT P t e size bytes z) {B b cap n : Nat} {xs : List Value} (h : Row w B e size (.slice (some ⟨b, 0, none⟩) n cap) n xs) (hone : ∀ u ∈ xs, u.oneCell' = true) (k : Nat) (hk : k + 1 ≤ n) (od cd cs : Nat) (hod : k + 1 < n → od = (k + 1) * size) (ty : TypeId) :
    ∃ w', (Builtin.copy_ #[t, t] ty #[.slice (some ⟨b, od, none⟩) (n - (k + 1)) cd, .slice (some ⟨b, k * size, none⟩) (n - k) cs]).run P w = .ok (goInt ((n - (k + 1) : Nat) : Int)) w' ∧ Row w' B e size (.slice (some ⟨b, 0, none⟩) n cap) n (shiftX size k n xs) ∧ w.grownBy w' (some b) := by
  obtain ⟨i, hi, hz, hsz, hby⟩ := E.hi
  by_cases h0 : n - (k + 1) = 0
  · have hr := run_copy_zero (P := P) w t t ty e size ⟨b, od, none⟩ cd ⟨b, k * size, none⟩ (n - k) cs E.ht ⟨i, hi, hsz⟩
    rw [h0]
    refine ⟨w, hr, ?_, ⟨rfl, rfl, rfl, Nat.le_refl _, fun _ _ _ => rfl⟩⟩
    have : shiftX size k n xs = xs := by
      unfold shiftX
      rw [h0, show k + 1 = n by omega, Nat.zero_mul, List.take_zero, List.append_nil, List.take_of_length_le (by rw [h.len]; exact Nat.le_refl _)]
    rw [this]
    exact h
  · have hlt : k + 1 < n := by omega
    rw [hod hlt]
    have hx := h
    rcases h.form with ⟨h1, -⟩ | ⟨g', cap', cur, h1, h2, h3, h4, h5, h6, h7⟩
    · cases h1
    · cases h1
      have e1 : k * size + (n - (k + 1)) * size = (n - 1) * size := by rw [← Nat.add_mul]; congr 1; omega
      have e2 : (k + 1) * size + (n - (k + 1)) * size = n * size := by rw [← Nat.add_mul]; congr 1; omega
      have e3 : n * size ≤ cap * size := Nat.mul_le_mul_right _ h4
      have e4 : (n - 1) * size ≤ n * size := Nat.mul_le_mul_right _ (by omega)
      obtain ⟨cs', hcs⟩ : ∃ l : List Value, l = (xs.drop (k * size)).take ((n - (k + 1)) * size) := ⟨_, rfl⟩
      have hlen : cs'.length = (n - (k + 1)) * size := by rw [hcs, List.length_take, List.length_drop, h.len]; omega
      have hmin : Nat.min (n - k) (n - (k + 1)) = n - (k + 1) := by simp [Nat.min_def]; omega
      have hr := run_copy_recs (P := P) w t t ty e size b ((k + 1) * size) (n - (k + 1)) cd ⟨b, k * size, none⟩ (n - k) cs cur e cs' E.ht ⟨i, hi, hsz⟩ h3 (by rw [hmin]; exact hlen) (fun j v hj => ?_) (by rw [hlen]; omega) (fun v hv => ?_)
      · rw [hmin] at hr
        refine ⟨_, hr, ⟨?_, .inr ⟨b, cap, _, rfl, h2, setRow_heap w b cur _ e _ h3, h4, h5, ?_, ?_⟩⟩, ⟨rfl, rfl, rfl, by simp [World.setRow], fun k' _ hk' => setRow_other w b k' _ (fun e => hk' (by simp [e]))⟩⟩
        · unfold shiftX
          rw [List.length_append, ← hcs, hlen, List.length_take, h.len]
          omega
        · simp only [List.size_toArray, List.length_append, List.length_take, List.length_drop, Array.length_toList, hlen]
          omega
        · have hA : (cur.toList.take ((k + 1) * size)) = xs.take ((k + 1) * size) := by rw [← h7, List.take_take, Nat.min_eq_left (by omega)]
          show List.take (n * size) (List.take ((k + 1) * size) cur.toList ++ cs' ++ List.drop ((k + 1) * size + cs'.length) cur.toList) = _
          rw [hA]
          have hB : (xs.take ((k + 1) * size) ++ cs').length = n * size := by rw [List.length_append, hlen, List.length_take, h.len]; omega
          rw [← hB, List.take_left, hcs]
          rfl
      · rw [add_mid]
        rw [hcs, List.getElem?_take] at hj
        split at hj
        · rw [List.getElem?_drop] at hj
          obtain ⟨g', hg', -, hc⟩ := hx.cell hj
          cases hg'
          exact hc
        · cases hj
      · rw [hcs] at hv
        exact hone v (List.mem_of_mem_drop (List.mem_of_mem_take hv))
theorem step_shift {P : Program} {w : World} {ops : Array Oper} {o : Oper} {a : Act} {K : Act → World → Prop} {Q : Exit → Act → World → Prop} {F : Prop} {t e : TypeId} {size bytes : Nat} {z : Value} (E : ElemT P t e size bytes z)
    (hgd : o.guard = none) (d s : Operand) (ho : o.op = .call { callee := .builtin .copy, args := #[d, s], argTypes := #[t, t] })
    {B b cap n : Nat} {xs : List Value} (hr : Row w B e size (.slice (some ⟨b, 0, none⟩) n cap) n xs) (hone : ∀ u ∈ xs, u.oneCell' = true) (k : Nat) (hk : k + 1 ≤ n) (od cd cs : Nat) (hod : k + 1 < n → od = (k + 1) * size)
    (dl sl : Nat) (hdl : dl = n - (k + 1)) (hsl : sl = n - k) (hd : a.eval d = .slice (some ⟨b, od, none⟩) dl cd) (hs : a.eval s = .slice (some ⟨b, k * size, none⟩) sl cs)
    (h : ∀ w', Row w' B e size (.slice (some ⟨b, 0, none⟩) n cap) n (shiftX size k n xs) → w.grownBy w' (some b) → K (a.put o.dst (goInt ((n - (k + 1) : Nat) : Int))) w') :
    if Region.wanted o (yielded ops a.tmps) = true then Oper.wp P o a w K Q else F := by
  have hw : Region.wanted o (yielded ops a.tmps) = true := by simp [Region.wanted, hgd]
  rw [if_pos hw]
  subst hdl hsl
  obtain ⟨w', hrun, h2, h3⟩ := run_shift (P := P) E hr hone k hk od cd cs hod o.type
  unfold Oper.wp execOp
  simp only [ho, resolve, invoke, builtin, Sem.run_bind, Sem.run_pure, Result.andThen_ok, List.map_toArray, List.map_cons, List.map_nil, hd, hs, hrun]
  exact h w' h2 h3
end Go.Proofs.Ytcgihilcjijckaa.K
