import Derived.Test.YtjgndagejogfnaaK
set_option linter.unusedVariables false
set_option linter.unusedSimpArgs false
/- A region that draws its order, by what each of its operations leaves: no order is gone through. -/
namespace Go.Proofs.Ytjgndagejogfnaa.K
open Go.RowKit
section
variable {P : Program} {ops : Array Oper} {Q : Exit → Act → World → Prop}
/-- a's slots are a0's, but for those that the region writes -/
structure SameA (ops : Array Oper) (a0 a : Act) : Prop where
  defers : a.defers = a0.defers
  size : a.tmps.size = a0.tmps.size
  tmps : ∀ t, (∀ (i : Nat) (o : Oper), ops[i]? = some o → o.dst ≠ some t) → a.tmps[t]? = a0.tmps[t]?
theorem SameA.refl (a : Act) : SameA ops a a := ⟨rfl, rfl, fun _ _ => rfl⟩
theorem SameA.put {a0 a : Act} (h : SameA ops a0 a) {i : Nat} {o : Oper} (ho : ops[i]? = some o) (v : Value) : SameA ops a0 (a.put o.dst v) := by
  cases hd : o.dst with
  | none => exact h
  | some d =>
    refine ⟨h.defers, by simp [Act.put, h.size], fun t ht => ?_⟩
    have hne : d ≠ t := fun e => ht i o ho (by rw [hd, e])
    simp only [Act.put]
    rw [Array.getElem?_setIfInBounds_ne hne]
    exact h.tmps t ht
/-- what operation i left -/
def leftBy (ops : Array Oper) (a : Act) (i : Nat) : Value := match (ops[i]?).bind (·.dst) with | some t => a.eval (.tmp t) | none => undef
theorem leftBy_same {a : Act} {i : Nat} {o : Oper} (ho : ops[i]? = some o) (v : Value) (hb : ∀ t, o.dst = some t → t < a.tmps.size) (hn : o.dst = none → v = undef) : leftBy ops (a.put o.dst v) i = v := by
  unfold leftBy
  rw [ho]
  cases hd : o.dst with
  | none => simp [hd, hn hd]
  | some d =>
    simp [hd, Act.put, Act.eval, hb d hd]
theorem leftBy_other {a : Act} {i j : Nat} {o o' : Oper} (ho : ops[i]? = some o) (ho' : ops[j]? = some o') (v : Value) (hd : ∀ t, o.dst = some t → o'.dst ≠ some t) : leftBy ops (a.put o.dst v) j = leftBy ops a j := by
  unfold leftBy
  rw [ho']
  cases hj : o'.dst with
  | none => simp [hj]
  | some d =>
    simp only [Option.bind_some, hj]
    exact Act.eval_put (x := .tmp d) fun t ht e => hd t ht (by rw [hj]; cases e; rfl)
def cnt (l : Array Bool) : Nat → Nat
  | 0 => 0
  | n + 1 => cnt l n + (if l.getD n true = true then 0 else 1)
theorem getD_set {l : Array Bool} {i j : Nat} (hi : i < l.size) (d : Bool) : (l.setIfInBounds i true).getD j d = if i = j then true else l.getD j d := by
  by_cases h : i = j
  · subst h; simp [hi]
  · simp [h, Array.getElem?_setIfInBounds_ne h]
theorem cnt_far {l : Array Bool} {i : Nat} (hi : i < l.size) : ∀ n, n ≤ i → cnt (l.setIfInBounds i true) n = cnt l n
  | 0, _ => rfl
  | n + 1, h => by
    simp only [cnt]
    rw [cnt_far hi n (by omega), getD_set hi, if_neg (show ¬ i = n by omega)]
theorem cnt_set {l : Array Bool} {i : Nat} (hi : i < l.size) (hl : l.getD i true = false) : ∀ n, i < n → cnt (l.setIfInBounds i true) n + 1 = cnt l n
  | 0, h => by omega
  | n + 1, h => by
    simp only [cnt]
    rw [getD_set hi]
    by_cases h2 : i = n
    · subst h2
      rw [cnt_far hi i (Nat.le_refl _), hl]
      simp
    · rw [if_neg h2]
      have := cnt_set hi hl n (by omega)
      omega
theorem cnt_zero {l : Array Bool} : ∀ n, cnt l n = 0 → ∀ i, i < n → l.getD i true = true
  | 0, _, i, h => by omega
  | n + 1, h, i, hi => by
    simp only [cnt] at h
    by_cases h2 : i = n
    · subst h2
      by_cases h3 : l.getD i true = true
      · exact h3
      · rw [if_neg h3] at h; omega
    · exact cnt_zero n (by omega) i (by omega)
theorem cnt_le (l : Array Bool) : ∀ n, cnt l n ≤ n
  | 0 => Nat.le_refl _
  | n + 1 => by
    simp only [cnt]
    have := cnt_le l n
    split <;> omega
theorem getD_size {l : Array Bool} {i : Nat} (hi : i < l.size) (d : Bool) : l.getD i d = l[i] := by simp [hi]
theorem region_by {id : Nat} {a0 : Act} {w0 : World} (hm : P.follows .mixedOrders = true) (X : Nat → Value → World → Prop) (G : World → Prop) (Ext : Nat → World → World → Prop)
    (hG0 : G w0.drew) (hmono : ∀ k i v w w', k ≠ i → X i v w → G w → Ext k w w' → X i v w')
    (hac : ∀ (i : Nat) (o : Oper), ops[i]? = some o → ∀ e ∈ o.after, e.on < i)
    (hdst : ∀ (i j : Nat) (o o' : Oper) t, ops[i]? = some o → ops[j]? = some o' → o.dst = some t → o'.dst = some t → i = j)
    (hdt : ∀ (i : Nat) (o : Oper) t, ops[i]? = some o → o.dst = some t → t < a0.tmps.size)
    (hg : ∀ (i : Nat) (o : Oper), ops[i]? = some o → o.guard = none)
    (hop : ∀ (i : Nat) (o : Oper), ops[i]? = some o → ∀ a w, SameA ops a0 a → G w → (∀ e ∈ o.after, Region.binds .any e = true → X e.on (leftBy ops a e.on) w) →
      Oper.wp P o a w (fun a' w' => ∃ v, a' = a.put o.dst v ∧ (o.dst = none → v = undef) ∧ G w' ∧ Ext i w w' ∧ X i v w') Q)
    (hend : ∀ a w, SameA ops a0 a → G w → (∀ i, i < ops.size → X i (leftBy ops a i) w) → Q .normal a w) : (Code.region id ops true).wp P Q a0 w0 := by
  refine wp_region_any hm ?_
  have allL : ∀ (listed : Array Bool), listed.size = ops.size → Region.ready .any ops listed = [] → ∀ i, i < ops.size → listed.getD i true = true := by
    intro listed hs hr i
    induction i using Nat.strongRecOn with
    | ind i ih =>
      intro hi
      cases hc : listed.getD i true with
      | true => rfl
      | false =>
        have : i ∈ Region.ready .any ops listed := by
          rw [mem_ready]
          refine ⟨hc, ops[i], by simp [hi], fun e he _ => ?_⟩
          have h1 := hac i ops[i] (by simp [hi]) e he
          have h2 := ih e.on h1 (by omega)
          rw [getD_size (by omega)] at h2 ⊢
          exact h2
        rw [hr] at this
        cases this
  have key : ∀ (fuel : Nat) (listed : Array Bool) (a : Act) (w : World), listed.size = ops.size → cnt listed ops.size ≤ fuel → SameA ops a0 a → G w → (∀ i, i < ops.size → listed.getD i true = true → X i (leftBy ops a i) w) → wpAny P .any ops Q fuel listed a w := by
    intro fuel
    induction fuel with
    | zero =>
      intro listed a w hs hc hA hG hX
      have h0 := cnt_zero ops.size (by omega) (l := listed)
      refine ⟨?_, hend a w hA hG fun i hi => hX i hi (h0 i hi)⟩
      cases hr : Region.ready .any ops listed with
      | nil => rfl
      | cons x xs =>
        have hx : x ∈ Region.ready .any ops listed := by rw [hr]; exact List.mem_cons_self
        rw [mem_ready] at hx
        obtain ⟨h1, o, ho, -⟩ := hx
        have := h0 x (Array.getElem?_eq_some_iff.1 ho).1
        rw [h1] at this
        cases this
    | succ fuel ih =>
      intro listed a w hs hc hA hG hX
      refine ⟨fun hr => hend a w hA hG fun i hi => hX i hi (allL listed hs hr i hi), fun i hi => ?_⟩
      rw [mem_ready] at hi
      obtain ⟨h1, o, ho, hpre⟩ := hi
      have hlt : i < ops.size := (Array.getElem?_eq_some_iff.1 ho).1
      have hpre' : ∀ e ∈ o.after, Region.binds .any e = true → X e.on (leftBy ops a e.on) w := by
        intro e he hb
        have h2 := hac i o ho e he
        have h3 := hpre e he hb
        refine hX e.on (by omega) ?_
        rw [getD_size (by omega)] at h3 ⊢
        exact h3
      have h4 := hop i o ho a w hA hG hpre'
      unfold wpOp
      rw [ho]
      have hw : Region.wanted o (yielded ops a.tmps) = true := by simp [Region.wanted, hg i o ho]
      simp only [hw, if_true]
      refine .inl (Oper.wp_mono ?_ h4)
      rintro a' w' ⟨v, rfl, hn, hG', hE, hXi⟩
      refine ih _ _ _ (by simpa using hs) (by have := cnt_set (l := listed) (by omega) h1 ops.size hlt; omega) (hA.put ho v) hG' fun j hj hlj => ?_
      by_cases hij : i = j
      · subst hij
        rw [leftBy_same ho v (fun t ht => by rw [hA.size]; exact hdt i o t ho ht) hn]
        exact hXi
      · rw [getD_set (by omega), if_neg hij] at hlj
        rw [leftBy_other ho (show ops[j]? = some ops[j] by simp [hj]) v (fun t ht ht' => hij (hdst i j o ops[j] t ho (by simp [hj]) ht ht'))]
        exact hmono i j _ _ _ hij (hX j hj hlj) hG hE
  refine key ops.size _ a0 _ (by simp) (cnt_le _ _) (.refl a0) hG0 fun i hi h => ?_
  rw [getD_size (by simpa using hi)] at h
  simp at h
/-- the checks that hang on the operations' text alone -/
def regChk (ops : Array Oper) (n : Nat) : Bool :=
  (List.range ops.size).all fun i => match ops[i]? with
    | none => true
    | some o => o.guard.isNone && o.after.all (fun e => decide (e.on < i)) && (match o.dst with
      | none => true
      | some t => decide (t < n) && (List.range ops.size).all fun j => decide (i = j) || (match ops[j]? with | none => true | some o' => o'.dst != some t))
theorem regChk_at {n : Nat} (h : regChk ops n = true) {i : Nat} {o : Oper} (ho : ops[i]? = some o) : o.guard = none ∧ (∀ e ∈ o.after, e.on < i) ∧ ∀ t, o.dst = some t → t < n ∧ ∀ (j : Nat) (o' : Oper), ops[j]? = some o' → o'.dst = some t → i = j := by
  unfold regChk at h
  rw [List.all_eq_true] at h
  have h1 := h i (by rw [List.mem_range]; exact (Array.getElem?_eq_some_iff.1 ho).1)
  rw [ho] at h1
  simp only [Bool.and_eq_true] at h1
  obtain ⟨⟨h2, h3⟩, h4⟩ := h1
  refine ⟨by simpa using h2, fun e he => ?_, fun t ht => ?_⟩
  · rw [Array.all_eq_true'] at h3
    simpa using h3 e he
  · rw [ht] at h4
    simp only [Bool.and_eq_true, decide_eq_true_eq] at h4
    refine ⟨h4.1, fun j o' ho' ht' => ?_⟩
    have h5 := h4.2
    rw [List.all_eq_true] at h5
    have h6 := h5 j (by rw [List.mem_range]; exact (Array.getElem?_eq_some_iff.1 ho').1)
    rw [ho'] at h6
    simp only [Bool.or_eq_true, decide_eq_true_eq] at h6
    rcases h6 with h6 | h6
    · exact h6
    · simp [ht'] at h6
/-- does an operation wait for j? -/
def waitsFor (o : Oper) (j : Nat) : Bool := o.after.any fun e => e.on == j && Region.binds .any e
theorem region_by' {id : Nat} {a0 : Act} {w0 : World} (hm : P.follows .mixedOrders = true) (hchk : regChk ops a0.tmps.size = true) (X : Nat → Value → World → Prop) (G : World → Prop) (Ext : Nat → World → World → Prop)
    (hG0 : G w0.drew) (hmono : ∀ k i v w w', k ≠ i → X i v w → G w → Ext k w w' → X i v w')
    (hop : ∀ (i : Nat) (o : Oper), ops[i]? = some o → ∀ a w, SameA ops a0 a → G w → (∀ j, waitsFor o j = true → X j (leftBy ops a j) w) →
      Oper.wp P o a w (fun a' w' => ∃ v, a' = a.put o.dst v ∧ (o.dst = none → v = undef) ∧ G w' ∧ Ext i w w' ∧ X i v w') Q)
    (hend : ∀ a w, SameA ops a0 a → G w → (∀ i, i < ops.size → X i (leftBy ops a i) w) → Q .normal a w) : (Code.region id ops true).wp P Q a0 w0 :=
  region_by hm X G Ext hG0 hmono (fun i o ho => (regChk_at hchk ho).2.1)
    (fun i j o o' t ho ho' ht ht' => ((regChk_at hchk ho).2.2 t ht).2 j o' ho' ht') (fun i o t ho ht => ((regChk_at hchk ho).2.2 t ht).1) (fun i o ho => (regChk_at hchk ho).1)
    (fun i o ho a w hA hG hpre => hop i o ho a w hA hG fun j hj => by
      unfold waitsFor at hj
      rw [Array.any_eq_true'] at hj
      obtain ⟨e, he, h2⟩ := hj
      simp only [Bool.and_eq_true, beq_iff_eq] at h2
      obtain ⟨rfl, h3⟩ := h2
      exact hpre e he h3) hend
/-- The same of a region in the text's order. -/
theorem region_line {id : Nat} {a0 : Act} {w0 : World} (hchk : regChk ops a0.tmps.size = true) (X : Nat → Value → World → Prop) (G : World → Prop) (Ext : Nat → World → World → Prop)
    (hG0 : G w0) (hmono : ∀ k i v w w', k ≠ i → X i v w → G w → Ext k w w' → X i v w')
    (hop : ∀ (i : Nat) (o : Oper), ops[i]? = some o → ∀ a w, SameA ops a0 a → G w → (∀ j, j < i → X j (leftBy ops a j) w) →
      Oper.wp P o a w (fun a' w' => ∃ v, a' = a.put o.dst v ∧ (o.dst = none → v = undef) ∧ G w' ∧ Ext i w w' ∧ X i v w') Q)
    (hend : ∀ a w, SameA ops a0 a → G w → (∀ i, i < ops.size → X i (leftBy ops a i) w) → Q .normal a w) : (Code.region id ops false).wp P Q a0 w0 := by
  refine wp_region ?_
  have key : ∀ (m k : Nat) (a : Act) (w : World), k + m = ops.size → SameA ops a0 a → G w → (∀ i, i < k → X i (leftBy ops a i) w) → wpOps P ops Q (List.range' k m) a w := by
    intro m
    induction m with
    | zero =>
      intro k a w hk hA hG hX
      exact hend a w hA hG fun i hi => hX i (by omega)
    | succ m ih =>
      intro k a w hk hA hG hX
      have hlt : k < ops.size := by omega
      have ho : ops[k]? = some ops[k] := by simp [hlt]
      rw [List.range'_succ, wpOps_cons]
      unfold wpOp
      rw [ho]
      have hw : Region.wanted ops[k] (yielded ops a.tmps) = true := by simp [Region.wanted, (regChk_at hchk ho).1]
      simp only [hw, if_true]
      refine .inl (Oper.wp_mono ?_ (hop k ops[k] ho a w hA hG hX))
      rintro a' w' ⟨v, rfl, hn, hG', hE, hXi⟩
      refine ih (k + 1) _ _ (by omega) (hA.put ho v) hG' fun j hj => ?_
      by_cases hij : k = j
      · subst hij
        rw [leftBy_same ho v (fun t ht => by rw [hA.size]; exact ((regChk_at hchk ho).2.2 t ht).1) hn]
        exact hXi
      · have hj' : j < ops.size := by omega
        rw [leftBy_other ho (show ops[j]? = some ops[j] by simp [hj']) v (fun t ht ht' => hij (((regChk_at hchk ho).2.2 t ht).2 j ops[j] (by simp [hj']) ht'))]
        exact hmono k j _ _ _ hij (hX j (by omega)) hG hE
  rw [List.range_eq_range']
  exact key ops.size 0 a0 w0 (by omega) (.refl a0) hG0 fun i hi => by omega
end
end Go.Proofs.Ytjgndagejogfnaa.K
