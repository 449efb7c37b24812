import Derived.Test.YtcgihilcjijckaaH8
set_option linter.unusedVariables false
set_option linter.unusedSimpArgs false
set_option linter.unnecessarySimpa false
namespace Go.Proofs.Ytcgihilcjijckaa.F
open Go.RowKit Go.Proofs.Ytcgihilcjijckaa.K
theorem Things.also {w0 w : World} {ts : List Thing} {t : Thing} (h : Things w0 w ts) (ht : t.ok w) (hn : ∀ k, t.foot k → w0.heap.size ≤ k ∧ k < w.heap.size ∧ ∀ (j : Nat) (hj : j < ts.length), ¬ (ts[j]).foot k) : Things w0 w (t :: ts) := by
  refine ⟨⟨⟨fun P hP k hk => ?_, fun a b ha' hb' hab k hka hkb => ?_⟩, fun P hP k hk => ?_, h.own.base⟩, fun s hs => ?_⟩
  · rw [List.map_cons] at hP
    rcases List.mem_cons.1 hP with rfl | hP
    · exact (hn k hk).2.1
    · exact h.own.held.live P hP k hk
  · cases a with
    | zero =>
      cases b with
      | zero => exact hab rfl
      | succ b =>
        have hb2 : b < ts.length := by simpa using hb'
        simp only [List.map_cons, List.getElem_cons_zero, List.getElem_cons_succ, List.getElem_map] at hka hkb
        exact (hn k hka).2.2 b hb2 hkb
    | succ a =>
      have ha2 : a < ts.length := by simpa using ha'
      cases b with
      | zero =>
        simp only [List.map_cons, List.getElem_cons_zero, List.getElem_cons_succ, List.getElem_map] at hka hkb
        exact (hn k hkb).2.2 a ha2 hka
      | succ b =>
        exact h.own.held.sep a b (by simpa using ha2) (by simpa using hb') (by omega) k (by simpa using hka) (by simpa using hkb)
  · rw [List.map_cons] at hP
    rcases List.mem_cons.1 hP with rfl | hP
    · exact (hn k hk).1
    · exact h.own.low P hP k hk
  · rcases List.mem_cons.1 hs with rfl | hs
    · exact ht
    · exact h.ok s hs
theorem Things.drop {w0 w : World} {t : Thing} {ts : List Thing} (h : Things w0 w (t :: ts)) : Things w0 w ts := ⟨Own.drop (P := t.foot) h.own, fun s hs => h.ok s (List.mem_cons_of_mem _ hs)⟩
def FillT (ops : List O) (w0 : World) (ts : List Thing) (e : Ending) (w' : World) : Prop := ∃ (gq : Nat) (vq u : Value) (n : Int) (l : List Tm), e = .returned (.tuple #[.pointer (some ⟨gq, 0, none⟩), u]) ∧ Like l (fillR ops 300) ∧ Things w0 w' (.all u (srt (fillR ops 300)) :: .q gq vq n l :: ts)
theorem fillT (w0 w : World) (ops : List O) (v : Value) (H : RecsAt w v 4 O.cells ops) (ts : List Thing) (h : Things w0 w ts) : Calls Try.prog 7 #[v] w (FillT ops w0 ts) := by
  refine (filled7 w ops v H).mono ?_
  rintro e w' ⟨gq, vq, u, n, l, rfl, hgq, hq, hl, hv, hr, ha, hne, hb⟩
  have h1 : Things w0 w' (.q gq vq n l :: ts) := h.new hb (show QAt w' gq vq n l from hq) (fun k hk => by
    rcases hk with rfl | hk
    · exact hgq
    · exact hv k hk)
  refine ⟨gq, vq, u, n, l, rfl, hl, h1.also (show Row w' 0 29 2 u _ _ from hr.weak (Nat.zero_le _)) (fun k hk => ?_)⟩
  have hl1 := Row.live hr hk
  refine ⟨Nat.le_trans h.base.size hl1.1, hl1.2, fun j hj hkj => ?_⟩
  cases j with
  | zero =>
    rcases hkj with rfl | hkj
    · exact hne hk
    · exact ha k hk hkj
  | succ j =>
    have hj2 : j < ts.length := by simpa using hj
    have := h.own.held.live (ts[j].foot) (by simp only [List.mem_map]; exact ⟨_, List.getElem_mem hj2, rfl⟩) k hkj
    omega
theorem dueTh (w0 w : World) (ts : List Thing) (h : Things w0 w ts) (i : Nat) (hi : i < ts.length) {g : Nat} {v : Value} {n now : Int} {l : List Tm} {R : List On} (he : ts[i] = .q g v n l) (hk : Like l R) : Calls Try.prog 9 #[.pointer (some ⟨g, 0, none⟩), .int .i64 now] w fun e w' => ∃ (u v' : Value) (n' : Int), e = .returned u ∧ Things w0 w' (.ids u (duE now R) :: ts.set i (.q g v' n' (restT now l))) := by
  have h0 := h.get i hi
  rw [he] at h0
  refine (dueq9 g w v n now l R hk h0).mono ?_
  rintro e w' ⟨u, v2, n2, rfl, hr, hs, ha⟩
  exact ⟨u, v2, n2, rfl, h.made hi he hs hr ha⟩
theorem popT (w0 w : World) (ts : List Thing) (h : Things w0 w ts) (i : Nat) (hi : i < ts.length) {g : Nat} {v : Value} {n now : Int} {l : List Tm} {R : List On} (he : ts[i] = .q g v n l) (hk : Like l R) : Calls Try.prog 10 #[.pointer (some ⟨g, 0, none⟩), .int .i64 now] w fun e w' => ∃ (n' : Int) (l' : List Tm) (v' : Value), e = .returned (.tuple #[.int .i64 (popE now R).1, .int .i64 (popE now R).2]) ∧ Things w0 w' (ts.set i (.q g v' n' l')) ∧ Like l' (popR now R) := by
  have h0 := h.get i hi
  rw [he] at h0
  refine (popq10 g w v n now l R hk h0).mono ?_
  rintro e w' ⟨n2, l2, v2, rfl, hs, hk2⟩
  exact ⟨n2, l2, v2, rfl, h.turn i hi he hs, hk2⟩
theorem idsT (w0 w : World) (ts : List Thing) (h : Things w0 w ts) (i j : Nat) (hi : i < ts.length) (hj : j < ts.length) {u1 u2 : Value} {D : List Int} (he : ts[i] = .ids u1 D) (hf : ts[j] = .ids u2 D) : Calls Try.prog 8 #[u1, u2] w fun e w' => e = .returned (.bool true) ∧ Things w0 w' ts := by
  have h1 := h.get i hi
  have h2 := h.get j hj
  rw [he] at h1
  rw [hf] at h2
  refine (ids_same w 0 0 u1 u2 D h1 h2).mono ?_
  rintro e w' ⟨rfl, hb⟩
  exact ⟨rfl, h.below hb⟩
/-! what is due, in plain lists -/
theorem rest_sorted {now : Int} {L : List On} (h : Sorted L) : Sorted (restL now L) := List.Pairwise.sublist (List.dropWhile_sublist _) h
theorem rest_like {now : Int} {l : List Tm} {R : List On} (h : Like l R) : Like (restT now l) (restL now (srt R)) :=
  ⟨by rw [(dueT_map now l).2, h.eq, srt_self (rest_sorted (sorted_srt R))], by
    have hs : (restL now (srt R)).Sublist (srt R) := List.dropWhile_sublist _
    exact ⟨List.Nodup.sublist (hs.map _) (uniq_srt h.fit.uniq), by have := hs.length_le; rw [len_srt] at this; have := h.fit.len; omega, fun x hx => h.fit.ok x (mem_srt.1 (hs.mem hx))⟩⟩
theorem duE_rest (now : Int) (R : List On) : duE now (restL now (srt R)) = [] := by
  unfold duE
  rw [srt_self (rest_sorted (sorted_srt R))]
  have h := (due_two (l := srt R) (Int.le_refl now)).1
  have := congrArg List.length h
  rw [List.length_append] at this
  rw [List.eq_nil_of_length_eq_zero (l := dueL now (restL now (srt R))) (by omega)]
  rfl
theorem duE_two {lo hi : Int} (h : lo ≤ hi) (R : List On) : duE lo R ++ duE hi (restL lo (srt R)) = duE hi R := by
  unfold duE
  rw [srt_self (rest_sorted (sorted_srt R)), ← List.map_append, (due_two h).1]
theorem due_len (now : Int) (L : List On) : (restL now L).length + (dueL now L).length = L.length := by
  have := congrArg List.length (List.takeWhile_append_dropWhile (p := fun y : On => decide (y.at_ ≤ now)) (l := L))
  rw [List.length_append] at this
  unfold restL dueL
  omega
theorem duE_len (now : Int) (R : List On) : (duE now R).length ≤ R.length := by
  unfold duE
  rw [List.length_map]
  have := due_len now (srt R)
  rw [len_srt] at this
  omega
theorem pop_due (now : Int) {R : List On} (hf : Fit R) : (popE now R = (0, 5) ∧ duE now R = []) ∨ ∃ i, popE now R = (i, 0) ∧ duE now R = i :: duE now (popR now R) := by
  unfold popE popR duE
  cases hs : srt R with
  | nil => exact .inl ⟨rfl, rfl⟩
  | cons m t =>
    by_cases hm : m.at_ ≤ now
    · refine .inr ⟨m.id, by simp [hm], ?_⟩
      simp only [if_pos hm]
      rw [pop_out hf.uniq hs, (dueL_cons_pos hm).1]
      rfl
    · refine .inl ⟨by simp [hm], ?_⟩
      rw [(dueL_cons_neg (by omega)).1]
      rfl
/-- what is wanted, behind k of all -/
def wantK (now : Int) (L : List On) (k : Nat) : List Int := ((L.take k).filter (fun x => decide (x.at_ ≤ now))).map On.id
theorem wantK_yes {now : Int} {L : List On} {k : Nat} (hk : k < L.length) (h : L[k].at_ ≤ now) : wantK now L (k + 1) = wantK now L k ++ [L[k].id] := by
  unfold wantK
  rw [List.take_succ_eq_append_getElem hk, List.filter_append, List.map_append]
  simp [h]
theorem wantK_no {now : Int} {L : List On} {k : Nat} (hk : k < L.length) (h : ¬ L[k].at_ ≤ now) : wantK now L (k + 1) = wantK now L k := by
  unfold wantK
  rw [List.take_succ_eq_append_getElem hk, List.filter_append, List.map_append]
  simp [h]
theorem wantK_all {now : Int} {R : List On} : wantK now (srt R) (srt R).length = duE now R := by
  unfold wantK duE
  rw [List.take_length, due_filter (sorted_srt R)]
theorem wantK_len (now : Int) (L : List On) (k : Nat) : (wantK now L k).length ≤ L.length := by
  unfold wantK
  rw [List.length_map]
  exact Nat.le_trans (List.length_filter_le _ _) (by rw [List.length_take]; omega)
end Go.Proofs.Ytcgihilcjijckaa.F
