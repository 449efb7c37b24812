/- Timers as plain lists: the program's, in order of deadlines; the reference's, in the order in which they were set. -/
set_option linter.unusedVariables false
set_option linter.unusedSimpArgs false
namespace Go.Proofs.Ytcgihilcjijckaa.F
structure On where
  id : Int
  at_ : Int
def Sorted (l : List On) : Prop := l.Pairwise (fun a b => a.at_ ≤ b.at_)
/-- behind all whose deadlines are not later -/
def ins (x : On) : List On → List On
  | [] => [x]
  | y :: l => if x.at_ < y.at_ then x :: y :: l else y :: ins x l
theorem ins_lt {x y : On} {l : List On} (h : x.at_ < y.at_) : ins x (y :: l) = x :: y :: l := by unfold ins; rw [if_pos h]
theorem ins_ge {x y : On} {l : List On} (h : ¬ x.at_ < y.at_) : ins x (y :: l) = y :: ins x l := by rw [ins, if_neg h]
def srt (R : List On) : List On := R.foldl (fun acc x => ins x acc) []
def out (id : Int) (l : List On) : List On := l.filter (fun y => !(y.id == id))
def Uniq (l : List On) : Prop := (l.map On.id).Nodup
theorem mem_ins {x y : On} {l : List On} : y ∈ ins x l ↔ y = x ∨ y ∈ l := by
  induction l with
  | nil => simp [ins]
  | cons z l ih =>
    unfold ins
    split
    · simp
    · simp only [List.mem_cons, ih]
      constructor
      · rintro (h | h | h) <;> simp [h]
      · rintro (h | h | h) <;> simp [h]
theorem len_ins (x : On) (l : List On) : (ins x l).length = l.length + 1 := by
  induction l with
  | nil => rfl
  | cons z l ih =>
    unfold ins
    split
    · rfl
    · simp [ih]
theorem sorted_ins {x : On} {l : List On} (h : Sorted l) : Sorted (ins x l) := by
  induction l with
  | nil => simp [ins, Sorted]
  | cons z l ih =>
    obtain ⟨h1, h2⟩ := List.pairwise_cons.1 h
    unfold ins
    split
    · rename_i hx
      refine List.pairwise_cons.2 ⟨fun y hy => ?_, h⟩
      rcases List.mem_cons.1 hy with rfl | hy
      · omega
      · have := h1 y hy; omega
    · rename_i hx
      refine List.pairwise_cons.2 ⟨fun y hy => ?_, ih h2⟩
      rcases mem_ins.1 hy with rfl | hy
      · omega
      · exact h1 y hy
theorem srt_snoc (R : List On) (x : On) : srt (R ++ [x]) = ins x (srt R) := by unfold srt; rw [List.foldl_append]; rfl
theorem list_snoc_ind {P : List On → Prop} (h0 : P []) (h1 : ∀ l x, P l → P (l ++ [x])) (l : List On) : P l := by
  have : ∀ n, ∀ l : List On, l.length = n → P l := by
    intro n
    induction n with
    | zero => intro l hl; rw [List.eq_nil_of_length_eq_zero hl]; exact h0
    | succ n ih =>
      intro l hl
      have hne : l ≠ [] := by intro e; subst e; cases hl
      rw [← List.dropLast_concat_getLast hne]
      exact h1 _ _ (ih _ (by simp; omega))
  exact this _ l rfl
theorem sorted_srt (R : List On) : Sorted (srt R) := by
  refine list_snoc_ind (P := fun R => Sorted (srt R)) ?_ ?_ R
  · exact List.Pairwise.nil
  · intro l x h; rw [srt_snoc]; exact sorted_ins h
theorem len_srt (R : List On) : (srt R).length = R.length := by
  refine list_snoc_ind (P := fun R => (srt R).length = R.length) rfl ?_ R
  intro l x h; rw [srt_snoc, len_ins, h]; simp
theorem mem_srt {R : List On} {y : On} : y ∈ srt R ↔ y ∈ R := by
  refine list_snoc_ind (P := fun R => (y ∈ srt R ↔ y ∈ R)) ?_ ?_ R
  · exact Iff.rfl
  · intro l x h
    rw [srt_snoc, mem_ins, h]
    simp [or_comm]
theorem out_ins_same {x : On} {id : Int} {l : List On} (hx : x.id = id) : out id (ins x l) = out id l := by
  induction l with
  | nil => simp [ins, out, hx]
  | cons z l ih =>
    unfold ins
    split
    · simp [out, hx]
    · unfold out at ih ⊢
      simp only [List.filter_cons]
      rw [ih]
theorem out_ins {x : On} {id : Int} {l : List On} (hx : x.id ≠ id) (h : Sorted l) : out id (ins x l) = ins x (out id l) := by
  have hb : (!(x.id == id)) = true := by simp [hx]
  induction l with
  | nil => simp [ins, out, hx]
  | cons z l ih =>
    obtain ⟨h1, h2⟩ := List.pairwise_cons.1 h
    have ih := ih h2
    unfold out at ih ⊢
    by_cases hlt : x.at_ < z.at_
    · rw [ins_lt hlt]
      have hall : ∀ y ∈ z :: l, x.at_ < y.at_ := by
        intro y hy
        rcases List.mem_cons.1 hy with rfl | hy
        · exact hlt
        · have := h1 y hy; omega
      have hins : ∀ m : List On, (∀ y ∈ m, x.at_ < y.at_) → ins x m = x :: m := by
        intro m hm
        cases m with
        | nil => rfl
        | cons y m => exact ins_lt (hm y (by simp))
      rw [hins _ (fun y hy => hall y (List.mem_filter.1 hy).1), List.filter_cons, if_pos hb]
    · rw [ins_ge hlt]
      by_cases hz : (!(z.id == id)) = true
      · rw [List.filter_cons, if_pos hz, List.filter_cons, if_pos hz, ih, ins_ge hlt]
      · rw [List.filter_cons, if_neg hz, List.filter_cons, if_neg hz, ih]
theorem out_srt (R : List On) (id : Int) : out id (srt R) = srt (out id R) := by
  refine list_snoc_ind (P := fun R => out id (srt R) = srt (out id R)) rfl ?_ R
  intro l x h
  rw [srt_snoc]
  have ho : out id (l ++ [x]) = out id l ++ out id [x] := by unfold out; rw [List.filter_append]
  by_cases hx : x.id = id
  · rw [out_ins_same hx, h, ho]
    have : out id [x] = [] := by simp [out, hx]
    rw [this, List.append_nil]
  · rw [out_ins hx (sorted_srt _), h, ho]
    have : out id [x] = [x] := by simp [out, hx]
    rw [this, srt_snoc]
/-- where one is put, found from behind -/
theorem ins_at {x : On} {l : List On} {k : Nat} (hk : k ≤ l.length) (h1 : ∀ (j : Nat) (hj : j < l.length), k ≤ j → x.at_ < l[j].at_) (h2 : k = 0 ∨ ∀ hk' : k - 1 < l.length, l[k - 1].at_ ≤ x.at_) (hs : Sorted l) : ins x l = l.take k ++ x :: l.drop k := by
  induction l generalizing k with
  | nil => simp at hk; subst hk; rfl
  | cons z l ih =>
    obtain ⟨s1, s2⟩ := List.pairwise_cons.1 hs
    cases k with
    | zero =>
      have := h1 0 (by simp) (by omega)
      simp only [List.getElem_cons_zero] at this
      unfold ins
      rw [if_pos this]
      rfl
    | succ k =>
      have hz : ¬ x.at_ < z.at_ := by
        rcases h2 with h2 | h2
        · omega
        · have h3 := h2 (by simp at hk ⊢; omega)
          cases k with
          | zero => simp at h3; omega
          | succ k =>
            simp at h3
            have hm : l[k]'(by simp at hk; omega) ∈ l := List.getElem_mem _
            have := s1 _ hm
            omega
      unfold ins
      rw [if_neg hz]
      simp only [List.take_succ_cons, List.drop_succ_cons, List.cons_append]
      rw [ih (k := k) (by simp at hk; omega) ?_ ?_ s2]
      · intro j hj hkj
        have := h1 (j + 1) (by simp; omega) (by omega)
        simpa using this
      · cases k with
        | zero => exact .inl rfl
        | succ k =>
          refine .inr fun hk' => ?_
          rcases h2 with h2 | h2
          · omega
          · have := h2 (by simp at hk ⊢; omega)
            simpa using this
theorem uniq_out {l : List On} (h : Uniq l) (id : Int) : Uniq (out id l) := by
  unfold Uniq out at *
  exact List.Nodup.sublist ((List.filter_sublist).map _) h
/-- taking one out by its place -/
theorem out_erase {l : List On} (h : Uniq l) {k : Nat} (hk : k < l.length) : l.eraseIdx k = out l[k].id l := by
  induction l generalizing k with
  | nil => simp at hk
  | cons z l ih =>
    have hz : z.id ∉ l.map On.id ∧ Uniq l := by unfold Uniq at h ⊢; simpa using h
    cases k with
    | zero =>
      simp only [List.eraseIdx_cons_zero, List.getElem_cons_zero]
      unfold out
      simp only [List.filter_cons, beq_self_eq_true, Bool.not_true, if_false, Bool.false_eq_true]
      rw [List.filter_eq_self.2]
      intro y hy
      have : y.id ≠ z.id := fun e => hz.1 (by rw [← e]; exact List.mem_map_of_mem hy)
      simp [this]
    | succ k =>
      have hk' : k < l.length := by simpa using hk
      simp only [List.eraseIdx_cons_succ, List.getElem_cons_succ]
      have hne : z.id ≠ l[k].id := fun e => hz.1 (by rw [e]; exact List.mem_map_of_mem (List.getElem_mem hk'))
      unfold out
      simp only [List.filter_cons]
      rw [if_pos (by simp [hne])]
      congr 1
      exact ih hz.2 hk'
theorem uniq_srt {R : List On} (h : Uniq R) : Uniq (srt R) := by
  have key : ∀ (x : On) (l : List On), ((ins x l).map On.id).Perm (x.id :: l.map On.id) := by
    intro x l
    induction l with
    | nil => exact List.Perm.refl _
    | cons z l ih =>
      unfold ins
      split
      · exact List.Perm.refl _
      · simp only [List.map_cons]
        exact (List.Perm.cons _ ih).trans (List.Perm.swap _ _ _)
  have : ∀ R : List On, ((srt R).map On.id).Perm (R.map On.id) := by
    intro R
    refine list_snoc_ind (P := fun R => ((srt R).map On.id).Perm (R.map On.id)) (List.Perm.refl _) ?_ R
    intro l x h
    rw [srt_snoc]
    refine (key x (srt l)).trans ?_
    simp only [List.map_append, List.map_cons, List.map_nil]
    exact (List.Perm.cons _ h).trans (List.perm_append_singleton _ _).symm
  exact (this R).symm.nodup h
/-- the first of the least -/
theorem srt_head_step {m : On} {t : List On} {R : List On} (x : On) (h : srt R = m :: t) : (srt (R ++ [x])).head? = some (if x.at_ < m.at_ then x else m) := by
  rw [srt_snoc, h]
  unfold ins
  split <;> rfl
theorem pop_out {R : List On} {m : On} {t : List On} (hu : Uniq R) (h : srt R = m :: t) : srt (out m.id R) = t := by
  rw [← out_srt, h]
  have hs := uniq_srt hu
  rw [h] at hs
  have := out_erase hs (k := 0) (by simp)
  simpa using this.symm
end Go.Proofs.Ytcgihilcjijckaa.F
namespace Go.Proofs.Ytcgihilcjijckaa.F
/-- the reference's 'first', behind n of them -/
def FirstAt (R : List On) (n : Nat) (k : Int) : Prop := (n = 0 ∧ k = -1) ∨ ∃ (j : Nat) (hj : j < R.length) (t : List On), k = j ∧ j < n ∧ srt (R.take n) = R[j] :: t
theorem first_none (R : List On) : FirstAt R 0 (-1) := .inl ⟨rfl, rfl⟩
theorem first_new {R : List On} {n : Nat} {k : Int} (h : FirstAt R n k) (hn : n < R.length) (hc : k < 0 ∨ ∀ (j : Nat) (hj : j < R.length), k = j → R[n].at_ < R[j].at_) : FirstAt R (n + 1) n := by
  refine .inr ⟨n, hn, ?_⟩
  rw [List.take_succ_eq_append_getElem hn, srt_snoc]
  rcases h with ⟨rfl, rfl⟩ | ⟨j, hj, t, rfl, hjn, hs⟩
  · exact ⟨[], rfl, by omega, rfl⟩
  · have hlt : R[n].at_ < R[j].at_ := by
      rcases hc with hc | hc
      · omega
      · exact hc j hj rfl
    rw [hs, ins_lt hlt]
    exact ⟨R[j] :: t, rfl, by omega, rfl⟩
theorem first_keep {R : List On} {n : Nat} {k : Int} (h : FirstAt R n k) (hn : n < R.length) (hc : 0 ≤ k) (hc2 : ∀ (j : Nat) (hj : j < R.length), k = j → ¬ R[n].at_ < R[j].at_) : FirstAt R (n + 1) k := by
  rcases h with ⟨rfl, rfl⟩ | ⟨j, hj, t, rfl, hjn, hs⟩
  · omega
  · refine .inr ⟨j, hj, ins R[n] t, rfl, by omega, ?_⟩
    rw [List.take_succ_eq_append_getElem hn, srt_snoc, hs, ins_ge (hc2 j hj rfl)]
theorem first_end {R : List On} {k : Int} (h : FirstAt R R.length k) : (R = [] ∧ k = -1) ∨ ∃ (j : Nat) (hj : j < R.length) (t : List On), k = j ∧ srt R = R[j] :: t := by
  rcases h with ⟨h1, rfl⟩ | ⟨j, hj, t, rfl, hjn, hs⟩
  · exact .inl ⟨List.eq_nil_of_length_eq_zero h1, rfl⟩
  · rw [List.take_length] at hs
    exact .inr ⟨j, hj, t, rfl, hs⟩
/-- where a timer stands -/
def FindAt (l : List On) (id : Int) (k : Int) : Prop := (k = -1 ∧ ∀ y ∈ l, y.id ≠ id) ∨ ∃ (j : Nat) (hj : j < l.length), k = j ∧ l[j].id = id
theorem find_out {l : List On} {id k : Int} (hu : Uniq l) (h : FindAt l id k) : (k = -1 ∧ out id l = l) ∨ ∃ j : Nat, j < l.length ∧ k = j ∧ l.eraseIdx j = out id l := by
  rcases h with ⟨rfl, h⟩ | ⟨j, hj, rfl, h⟩
  · refine .inl ⟨rfl, ?_⟩
    unfold out
    rw [List.filter_eq_self.2]
    intro y hy
    simp [h y hy]
  · exact .inr ⟨j, hj, rfl, by rw [out_erase hu hj, h]⟩
theorem find_both {R : List On} {id k k' : Int} (h : FindAt R id k) (h' : FindAt (srt R) id k') : (k < 0 ↔ k' < 0) := by
  rcases h with ⟨rfl, h⟩ | ⟨j, hj, rfl, h⟩
  · rcases h' with ⟨rfl, h'⟩ | ⟨j', hj', rfl, h'⟩
    · omega
    · exact absurd h' (h _ (mem_srt.1 (List.getElem_mem hj')))
  · rcases h' with ⟨rfl, h'⟩ | ⟨j', hj', rfl, h'⟩
    · exact absurd h (h' _ (mem_srt.2 (List.getElem_mem hj)))
    · omega
theorem uniq_eq {l : List On} (hu : Uniq l) {x y : On} (hx : x ∈ l) (hy : y ∈ l) (h : x.id = y.id) : x = y := by
  unfold Uniq at hu
  induction l with
  | nil => cases hx
  | cons z l ih =>
    have hz : z.id ∉ l.map On.id ∧ (l.map On.id).Nodup := by simpa using hu
    rcases List.mem_cons.1 hx with hx' | hx'
    · rcases List.mem_cons.1 hy with hy' | hy'
      · rw [hx', hy']
      · exact absurd (by rw [← hx', h]; exact List.mem_map_of_mem hy') hz.1
    · rcases List.mem_cons.1 hy with hy' | hy'
      · exact absurd (by rw [← hy', ← h]; exact List.mem_map_of_mem hx') hz.1
      · exact ih hz.2 hx' hy'
theorem uniq_snoc {l : List On} (hu : Uniq l) (x : On) : Uniq (out x.id l ++ [x]) := by
  have h1 := uniq_out hu x.id
  unfold Uniq at h1 ⊢
  rw [List.map_append, List.nodup_append]
  refine ⟨h1, by simp, ?_⟩
  intro a ha b hb
  simp at hb
  subst hb
  obtain ⟨y, hy, rfl⟩ := List.mem_map.1 ha
  have := (List.mem_filter.1 hy).2
  simpa using this
/-- what is due, and what is left -/
def dueL (now : Int) (l : List On) : List On := l.takeWhile (fun y => decide (y.at_ ≤ now))
def restL (now : Int) (l : List On) : List On := l.dropWhile (fun y => decide (y.at_ ≤ now))
theorem due_filter {l : List On} (h : Sorted l) (now : Int) : l.filter (fun y => decide (y.at_ ≤ now)) = dueL now l := by
  induction l with
  | nil => rfl
  | cons z l ih =>
    obtain ⟨h1, h2⟩ := List.pairwise_cons.1 h
    unfold dueL at ih ⊢
    by_cases hz : z.at_ ≤ now
    · rw [List.filter_cons_of_pos (by simpa using hz), List.takeWhile_cons_of_pos (by simpa using hz), ih h2]
    · rw [List.filter_cons_of_neg (by simpa using hz), List.takeWhile_cons_of_neg (by simpa using hz)]
      rw [List.filter_eq_nil_iff]
      intro y hy
      have := h1 y hy
      simp
      omega
theorem due_two {l : List On} {a b : Int} (h : a ≤ b) : dueL a l ++ dueL b (restL a l) = dueL b l ∧ restL b (restL a l) = restL b l := by
  induction l with
  | nil => exact ⟨rfl, rfl⟩
  | cons z l ih =>
    unfold dueL restL at ih ⊢
    by_cases hz : z.at_ ≤ a
    · have hb : z.at_ ≤ b := by omega
      rw [List.takeWhile_cons_of_pos (by simpa using hz), List.dropWhile_cons_of_pos (by simpa using hz), List.takeWhile_cons_of_pos (by simpa using hb), List.dropWhile_cons_of_pos (by simpa using hb)]
      exact ⟨by rw [List.cons_append, ih.1], ih.2⟩
    · rw [List.takeWhile_cons_of_neg (by simpa using hz), List.dropWhile_cons_of_neg (by simpa using hz)]
      exact ⟨rfl, rfl⟩
end Go.Proofs.Ytcgihilcjijckaa.F
