import Derived.Test.YtcgihilcjijckaaF3
set_option linter.unusedVariables false
set_option linter.unusedSimpArgs false
namespace Go.Proofs.Ytcgihilcjijckaa.F
open Go.RowKit Go.Proofs.Ytcgihilcjijckaa.K Go.Shelf
attribute [local go_sem] Oper.semAt_some
def SetRR (id at_ : Int) (R : List On) (g : Nat) (v : Value) (w : World) (e : Ending) (w' : World) : Prop := ∃ (v2 : Value), e = .returned (.int .i64 (setE id at_ R)) ∧ RS w w' g v v2 (setR id at_ R)
theorem setr27 (g : Nat) (w : World) (v : Value) (id at_ : Int) (R : List On) (hf : Fit R) (h : RAt w g v R) : Calls Try.prog 27 #[.pointer (some ⟨g, 0, none⟩), .int .i64 id, .int .i64 at_] w (SetRR id at_ R g v w) := by
  cases hok : okB id at_
  · refine (rset_bad g w v id at_ hok).mono ?_
    rintro e w' ⟨rfl, rfl⟩
    exact ⟨v, by simp [setE, hok], by simpa [setR, hok] using RS.refl h⟩
  · refine (set27 g w v id at_ R hf.len hf.uniq hok h).mono ?_
    rintro e w' ⟨er, l2, v2, rfl, hrs, hl2, ⟨rfl, hn, h64, rfl⟩ | ⟨rfl, hn, rfl⟩⟩
    · have hb : noneB id l2 = true := noneB_iff.2 hn
      exact ⟨v2, by simp [setE, hok, hb, h64], by simp only [setR, hok, hb, h64, decide_true, Bool.and_self, if_true]; exact hrs⟩
    · have hc : (noneB id R && decide (64 ≤ R.length)) = false := by
        cases hb : noneB id R
        · rfl
        · have := hn (noneB_iff.1 hb)
          simp; omega
      refine ⟨v2, by simp [setE, hok, hc], ?_⟩
      unfold setR
      rw [hc, hok]
      exact hrs
/-- what is set, one by one -/
def setAll (xs : List On) : List On := xs.foldl (fun R x => setR x.id x.at_ R) []
theorem setAll_snoc (xs : List On) (x : On) : setAll (xs ++ [x]) = setR x.id x.at_ (setAll xs) := by unfold setAll; rw [List.foldl_append]; rfl
theorem setAll_fit (xs : List On) : Fit (setAll xs) := by
  refine list_snoc_ind (P := fun xs => Fit (setAll xs)) Fit.nil ?_ xs
  intro l x h
  rw [setAll_snoc]
  exact h.set _ _
theorem setAll_self {xs : List On} (h : Fit xs) : setAll xs = xs := by
  have key : ∀ xs : List On, Fit xs → setAll xs = xs := by
    intro xs
    refine list_snoc_ind (P := fun xs => Fit xs → setAll xs = xs) (fun _ => rfl) ?_ xs
    intro l x ih hf
    have hl : Fit l := ⟨by
      have := hf.uniq
      unfold Uniq at this ⊢
      rw [List.map_append, List.nodup_append] at this
      exact this.1, by have := hf.len; simp at this; omega, fun y hy => hf.ok y (by simp [hy])⟩
    have hn : noneB x.id l = true := noneB_iff.2 (fun y hy e => by
      have := hf.uniq
      unfold Uniq at this
      rw [List.map_append, List.nodup_append] at this
      exact this.2.2 y.id (List.mem_map_of_mem hy) x.id (by simp) e)
    have hlen : ¬ 64 ≤ l.length := by have := hf.len; simp at this; omega
    rw [setAll_snoc, ih hl]
    unfold setR
    rw [hf.ok x (by simp), hn]
    simp only [hlen, decide_false, Bool.and_false, if_true]
    have : F.out x.id l = l := by
      unfold F.out
      rw [List.filter_eq_self.2]
      intro y hy
      have := noneB_iff.1 hn y hy
      simp [this]
    rw [this]
    simp
  exact key xs h
theorem srt_self {xs : List On} (h : Sorted xs) : srt xs = xs := by
  refine list_snoc_ind (P := fun xs => Sorted xs → srt xs = xs) (fun _ => rfl) ?_ xs h
  intro l x ih hs
  obtain ⟨h1, h2, h3⟩ := List.pairwise_append.1 hs
  rw [srt_snoc, ih h1]
  have : ∀ l : List On, (∀ y ∈ l, y.at_ ≤ x.at_) → ins x l = l ++ [x] := by
    intro l hl
    induction l with
    | nil => rfl
    | cons y l ihl =>
      rw [ins_ge (by have := hl y (by simp); omega), ihl (fun z hz => hl z (by simp [hz]))]
      rfl
  exact this l (fun y hy => h3 y hy x (by simp))
theorem Fit.srt {R : List On} (h : Fit R) : Fit (F.srt R) := ⟨uniq_srt h.uniq, by rw [len_srt]; exact h.len, fun x hx => h.ok x (mem_srt.1 hx)⟩
theorem setAll_srt {R : List On} (h : Fit R) : setAll (srt R) = srt R := setAll_self h.srt
/-- what Copy holds between two rounds -/
structure Cp (w : World) (gc Bc : Nat) (pre : List On) (W : World) : Prop where
  ex : ∃ v n l, QAt W gc v n l ∧ Like l (setAll pre) ∧ (∀ k, v.ownBlock = some k → w.heap.size ≤ k ∧ k ≠ Bc)
  box : W.heap[Bc]? = some (.cells #[.pointer (some ⟨gc, 0, none⟩)] 23 (0, 0))
  below : Below w.heap.size w W
theorem Row.others {W W' : World} {row : Option Nat} {B n size : Nat} {e : TypeId} {v : Value} {xs : List Value} (h : Row W B e size v n xs) (hg : W.grownBy W' row) (hr : ∀ r, row = some r → ∃ o : Obj, W.heap[r]? = some o ∧ o.isCells = false) : Row W' B e size v n xs := by
  refine h.kept hg (fun k hk e => ?_)
  obtain ⟨o', q1, q2⟩ := hr k e
  rcases h.form with ⟨r1, -⟩ | ⟨b, cap, cur, r1, -, r3, -⟩
  · rw [r1] at hk; simp [Value.ownBlock] at hk
  · rw [r1] at hk
    simp only [Value.ownBlock, Option.some.injEq] at hk
    subst hk
    rw [r3] at q1
    cases q1
    cases q2
theorem cp_own {w : World} {gc Bc B : Nat} (hB : w.heap.size ≤ B) : OwnFrom B (Cp w gc Bc) := fun s W W' row hs hg hr => by
  have key : ∀ (k : Nat) (o : Obj), W.heap[k]? = some o → o.isCells = true → W'.heap[k]? = some o := fun k o hk ho => (hg.block k (Array.getElem?_eq_some_iff.1 hk).1 (fun e => by
    obtain ⟨-, o', h1, h2⟩ := hr k e.symm
    rw [hk] at h1
    cases h1
    rw [ho] at h2
    cases h2)).trans hk
  obtain ⟨⟨v, n, l, h1, h2, h3⟩, hm, hb⟩ := hs
  exact ⟨⟨v, n, l, ⟨key _ _ h1.blk rfl, Row.others h1.row hg (fun r e => (hr r e).2), h1.ne⟩, h2, h3⟩, key _ _ hm rfl, hb.grown hg hb.size (fun k e => Nat.le_trans hB (hr k e).1)⟩
theorem cp_step {w W W' : World} {gc Bc : Nat} {pre : List On} {x : On} {v v2 : Value} {n n2 : Int} {l l2 : List Tm} (hg : w.heap.size ≤ gc) (hB : w.heap.size ≤ Bc) (hne : gc ≠ Bc) (hq : QAt W gc v n l) (hv : ∀ k, v.ownBlock = some k → w.heap.size ≤ k ∧ k ≠ Bc) (hbx : W.heap[Bc]? = some (.cells #[.pointer (some ⟨gc, 0, none⟩)] 23 (0, 0))) (hb : Below w.heap.size w W) (hs : SetS W W' gc v v2 n2 l2) (hk : Like l2 (setAll (pre ++ [x]))) :
    KeepsOthers W W' ∧ Kc gc W W' ∧ Cp w gc Bc (pre ++ [x]) W' := by
  have live1 : ∀ k, v.ownBlock = some k → ∃ o, W.heap[k]? = some o ∧ o.isCells = true := fun k hk => by
    rcases hq.row.form with ⟨r1, -⟩ | ⟨b, cap, cur, r1, -, r3, -⟩
    · rw [r1] at hk; simp [Value.ownBlock] at hk
    · rw [r1] at hk
      simp only [Value.ownBlock, Option.some.injEq] at hk
      subst hk
      exact ⟨_, r3, rfl⟩
  have oat : ownAt W gc = v.ownBlock := by unfold ownAt; rw [hq.c0]; rfl
  have oat2 : ownAt W' gc = v2.ownBlock := by unfold ownAt; rw [hs.q.c0]; rfl
  have hlB := (Array.getElem?_eq_some_iff.1 hbx).1
  have rest : ∀ (k : Nat) (o : Obj), W.heap[k]? = some o → k ≠ gc → v.ownBlock ≠ some k → W'.heap[k]? = some o := fun k o hk hn1 hn2 => (hs.grow.block k (Array.getElem?_eq_some_iff.1 hk).1 hn1 (fun e => hn2 e.symm)).trans hk
  refine ⟨⟨hs.grow.size, fun k o hk ho => rest k o hk (fun e => ?_) (fun e => ?_)⟩, ⟨hs.grow.size, fun k o hk ho hn1 hn2 => rest k o hk hn1 (by rw [← oat]; exact hn2), fun k hk => ?_⟩, ⟨⟨v2, n2, l2, hs.q, hk, fun k hk => ?_⟩, rest _ _ hbx (fun e => hne e.symm) (fun e => (hv _ e).2 rfl), ?_⟩⟩
  · subst e; rw [hq.blk] at hk; cases hk; cases ho
  · obtain ⟨o', q1, q2⟩ := live1 k e
    rw [hk] at q1; cases q1; rw [ho] at q2; cases q2
  · rw [oat2] at hk; rw [oat]; exact hs.own k hk
  · rcases hs.own k hk with q | q
    · exact hv k q
    · have := hb.size; exact ⟨by omega, by omega⟩
  · exact ⟨hs.grow.os.trans hb.os, hs.grow.tape.trans hb.tape, hs.grow.output.trans hb.output, Nat.le_trans hb.size hs.grow.size, fun k hk => (hs.grow.block k (Nat.lt_of_lt_of_le hk hb.size) (by omega) (fun e => by have := (hv k e.symm).1; omega)).trans (hb.block k hk)⟩
end Go.Proofs.Ytcgihilcjijckaa.F
