import Derived.Test.YtibdaonhldlmbaaB5
set_option linter.unusedVariables false
set_option linter.unusedSimpArgs false
namespace Go.Proofs.Ytibdaonhldlmbaa.F
open Go.RowKit Go.Proofs.Ytibdaonhldlmbaa.K
def Pol.fok (p : Pol) : Prop := 0 ≤ p.fa ∧ p.fa ≤ 2147483647
theorem fok_of {p q : Pol} (h : p.fok) (e : q.fa = p.fa ∨ q.fa = 0 ∨ q.fa = min (p.fa + 1) 2147483647) : q.fok := by
  unfold Pol.fok at *
  rcases e with e | e | e <;> rw [e] <;> omega
theorem held_fa (p : Pol) : p.held.1.fa = p.fa := by unfold Pol.held Pol.dial; split <;> rfl
theorem fin_fa (p : Pol) : p.fin.1.fa = p.fa := by
  unfold Pol.fin
  split
  · rw [held_fa]
  · rfl
theorem due_fa (p : Pol) : p.due.1.fa = p.fa := by
  unfold Pol.due Pol.due1 Pol.due2 Pol.hang
  split
  · split <;> rfl
  · split
    · split
      · rw [held_fa]
      · rfl
    · rfl
theorem clo_fa (n : Nat) (p : Pol) : (clo n p).1.fa = p.fa ∨ (clo n p).1.fa = 0 ∨ (clo n p).1.fa = min (p.fa + 1) 2147483647 := by
  unfold clo
  split
  · left; unfold Pol.due1 Pol.hang; split <;> rfl
  split
  · left; unfold Pol.due2; split
    · rw [held_fa]
    · rfl
  split
  · left; unfold Pol.start1 Pol.want Pol.dial; split <;> rfl
  split
  · left; rfl
  split
  · left; unfold Pol.packet2 Pol.want Pol.dial; split
    · split <;> rfl
    · rfl
  split
  · right; left; unfold Pol.up1 Pol.dial; split
    · rfl
    · split
      · split
        · rw [held_fa]
        · rfl
      · rfl
  split
  · left; rfl
  split
  · left; rfl
  split
  · right; left; rfl
  · unfold Pol.ldown1 Pol.failed
    split
    · right; right; split
      · rfl
      · rw [fin_fa]
    · split
      · left; rw [fin_fa]
      · split
        · left; rw [fin_fa]
        · left; rw [fin_fa]
theorem does_fok (cs : List (List Int × Nat)) {p : Pol} (h : p.fok) : (does cs p).1.fok := by
  unfold does
  split
  · exact h
  · exact fok_of h (clo_fa _ _)
theorem pick_mem {st : Int} : ∀ {cs : List (List Int × Nat)} {n : Nat}, pick st cs = some n → ∃ c ∈ cs, c.2 = n ∧ st ∈ c.1
  | [], _, h => by cases h
  | c :: r, n, h => by
    rw [pick_cons] at h
    split at h
    · rename_i hc
      exact ⟨c, by simp, Option.some.inj h, by simpa using hc⟩
    · obtain ⟨d, h1, h2⟩ := pick_mem h
      exact ⟨d, by simp [h1], h2⟩
/-- a list of calls as the package writes them -/
def okCs (cs : List (List Int × Nat)) : Prop := ∀ c ∈ cs, isClo c.2 ∧ (c.2 = 44 → ∀ x ∈ c.1, x = 2 ∨ x = 3 ∨ x = 4)
variable (g : Nat) (p : Pol) (w : World)
theorem cloR (n : Nat) (h : PolAt w g p) (hf : p.fok) (hn : isClo n) (h44 : n = 44 → p.st = 2 ∨ p.st = 3 ∨ p.st = 4) : Calls Try.prog n #[.pointer (some ⟨g, 0, none⟩)] w (ActR g (clo n p) w) := by
  rcases hn with rfl | rfl | rfl | rfl | rfl | rfl | rfl | rfl | rfl | rfl
  · exact due58 g p w h
  · exact due60 g p w h
  · exact start46 g p w h
  · exact packet40 g p w h
  · exact packet41 g p w h
  · exact up47 g p w h
  · exact down50 g p w h
  · exact down52 g p w h
  · exact lup43 g p w h
  · exact ldown44 g p w h (h44 rfl) hf
theorem doesR (cs : List (List Int × Nat)) (v : Value) (h : PolAt w g p) (hf : p.fok) (hC : CallsAt w v cs) (hcs : okCs cs) : Calls Try.prog 57 #[.pointer (some ⟨g, 0, none⟩), v] w (ActR g (does cs p) w) := by
  refine first57 g p.st cs v w h.cst hC _ (fun hp w' hb => ?_) (fun n hp => ?_) (fun n hp w' hb => ?_)
  · unfold does
    rw [hp]
    exact ⟨⟨_, rfl, own_nil _ _⟩, h.below hb, below_grown0 hb _⟩
  · obtain ⟨c, h1, rfl, -⟩ := pick_mem hp
    exact (hcs c h1).1
  · obtain ⟨c, h1, h2, h3⟩ := pick_mem hp
    refine (cloR g p w' n (h.below hb) hf (by rw [← h2]; exact (hcs c h1).1) (fun e => (hcs c h1).2 (h2.trans e) _ h3)).mono ?_
    rintro e w2 ⟨⟨u, rfl, q1⟩, q2, q3⟩
    refine ⟨u, rfl, ?_⟩
    unfold does
    rw [hp]
    exact ⟨⟨_, rfl, q1.weak hb.size⟩, q2, grown_trans (below_grown0 hb _) q3⟩
theorem ints_lit {W : World} {b : Nat} (l : List Int) (h : W.heap[b]? = some (.cells (l.map (Value.int .i64)).toArray 3 (0, 0))) (hl : l.length ≤ maxLen) : IntsAt W (.slice (some ⟨b, 0, none⟩) l.length l.length) l :=
  ⟨_, l.length, rfl, Nat.le_refl _, hl, fun e => by (cases e), fun ad e j hj => by
    cases e
    refine ⟨b, 0, rfl, ?_⟩
    rw [cell_of_row _ _ _ _ _ _ h]
    simp [List.getElem?_eq_getElem hj]⟩
theorem calls1 {W : World} {b : Nat} {s : Value} {n : Nat} {ss : List Int} {t : TypeId} (h : W.heap[b]? = some (.cells #[s, .func (.func n) #[] #[]] t (0, 0))) (hs : IntsAt W s ss) : CallsAt W (.slice (some ⟨b, 0, none⟩) 1 1) [(ss, n)] :=
  ⟨_, 1, rfl, Nat.le_refl _, by decide, fun e => by (cases e), fun ad e j hj => by
    cases e
    have : j = 0 := by simp at hj; omega
    subst this
    exact ⟨b, 0, s, rfl, (cell_of_row _ _ 0 _ _ _ h).trans rfl, (cell_of_row _ _ 1 _ _ _ h).trans rfl, hs⟩⟩
theorem calls2 {W : World} {b : Nat} {s s' : Value} {n n' : Nat} {ss ss' : List Int} {t : TypeId} (h : W.heap[b]? = some (.cells #[s, .func (.func n) #[] #[], s', .func (.func n') #[] #[]] t (0, 0))) (hs : IntsAt W s ss) (hs' : IntsAt W s' ss') : CallsAt W (.slice (some ⟨b, 0, none⟩) 2 2) [(ss, n), (ss', n')] :=
  ⟨_, 2, rfl, Nat.le_refl _, by decide, fun e => by (cases e), fun ad e j hj => by
    cases e
    have hj2 : j = 0 ∨ j = 1 := by simp at hj; omega
    rcases hj2 with rfl | rfl
    · exact ⟨b, 0, s, rfl, (cell_of_row _ _ 0 _ _ _ h).trans rfl, (cell_of_row _ _ 1 _ _ _ h).trans rfl, hs⟩
    · exact ⟨b, 0, s', rfl, (cell_of_row _ _ 2 _ _ _ h).trans rfl, (cell_of_row _ _ 3 _ _ _ h).trans rfl, hs'⟩⟩
theorem calls0 (W : World) : CallsAt W (.slice none 0 0) [] := ⟨none, 0, rfl, by simp, by decide, fun _ => rfl, fun _ e => by cases e⟩
theorem due_does (p : Pol) : does [([3], 58), ([1], 60)] p = p.due := by
  unfold does Pol.due
  by_cases h3 : p.st = 3
  · rw [if_pos h3]
    simp [pick, h3, clo]
  · rw [if_neg h3]
    by_cases h1 : p.st = 1
    · rw [if_pos h1]
      simp [pick, h1, clo]
    · rw [if_neg h1]
      simp [pick, h1, h3]
theorem heap_two (w : World) (x y : Obj) : ((w.alloc x).alloc y).heap[w.heap.size]? = some x := by
  rw [heap_alloc_old _ _ (by simp)]
  exact heap_alloc_new w x
theorem calls_w2 (w : World) (l1 l2 : List Int) (n1 n2 : Nat) (h1 : l1.length ≤ 10) (h2 : l2.length ≤ 10) :
    CallsAt (((w.alloc (.cells (l1.map (Value.int .i64)).toArray 3)).alloc (.cells (l2.map (Value.int .i64)).toArray 3)).alloc (.cells #[.slice (some ⟨w.heap.size, 0, none⟩) l1.length l1.length, .func (.func n1) #[] #[], .slice (some ⟨w.heap.size + 1, 0, none⟩) l2.length l2.length, .func (.func n2) #[] #[]] 69)) (.slice (some ⟨w.heap.size + 1 + 1, 0, none⟩) 2 2) [(l1, n1), (l2, n2)] := by
  have e1 : (w.alloc (.cells (l1.map (Value.int .i64)).toArray 3)).heap.size = w.heap.size + 1 := by simp
  refine calls2 (t := 69) (s := .slice (some ⟨w.heap.size, 0, none⟩) l1.length l1.length) (s' := .slice (some ⟨w.heap.size + 1, 0, none⟩) l2.length l2.length) ?_ (ints_lit (b := w.heap.size) l1 ?_ (by simp [maxLen]; omega)) (ints_lit (b := w.heap.size + 1) l2 ?_ (by simp [maxLen]; omega))
  · have := heap_alloc_new ((w.alloc (.cells (l1.map (Value.int .i64)).toArray 3)).alloc (.cells (l2.map (Value.int .i64)).toArray 3)) (.cells #[.slice (some ⟨w.heap.size, 0, none⟩) l1.length l1.length, .func (.func n1) #[] #[], .slice (some ⟨w.heap.size + 1, 0, none⟩) l2.length l2.length, .func (.func n2) #[] #[]] 69)
    simpa using this
  · rw [heap_alloc_old _ _ (by simp; omega)]
    exact heap_two _ _ _
  · have := heap_two (w.alloc (.cells (l1.map (Value.int .i64)).toArray 3)) (.cells (l2.map (Value.int .i64)).toArray 3) (.cells #[.slice (some ⟨w.heap.size, 0, none⟩) l1.length l1.length, .func (.func n1) #[] #[], .slice (some ⟨w.heap.size + 1, 0, none⟩) l2.length l2.length, .func (.func n2) #[] #[]] 69)
    rwa [e1] at this
theorem calls_w1 (w : World) (l1 : List Int) (n1 : Nat) (h1 : l1.length ≤ 10) :
    CallsAt ((w.alloc (.cells (l1.map (Value.int .i64)).toArray 3)).alloc (.cells #[.slice (some ⟨w.heap.size, 0, none⟩) l1.length l1.length, .func (.func n1) #[] #[]] 69)) (.slice (some ⟨w.heap.size + 1, 0, none⟩) 1 1) [(l1, n1)] := by
  refine calls1 (t := 69) (s := .slice (some ⟨w.heap.size, 0, none⟩) l1.length l1.length) ?_ (ints_lit (b := w.heap.size) l1 ?_ (by simp [maxLen]; omega))
  · have := heap_alloc_new (w.alloc (.cells (l1.map (Value.int .i64)).toArray 3)) (.cells #[.slice (some ⟨w.heap.size, 0, none⟩) l1.length l1.length, .func (.func n1) #[] #[]] 69)
    simpa using this
  · exact heap_two _ _ _
theorem below_a2 (w : World) (x y : Obj) : Below w.heap.size w ((w.alloc x).alloc y) := ((Below.refl _ w).alloc (Nat.le_refl _) x).alloc (by simp) y
theorem below_a3 (w : World) (x y z : Obj) : Below w.heap.size w (((w.alloc x).alloc y).alloc z) := (below_a2 w x y).alloc (by simp; omega) z
theorem due56 (h : PolAt w g p) (hf : p.fok) : Calls Try.prog 56 #[.pointer (some ⟨g, 0, none⟩)] w (ActR g p.due w) := by
  rw [← due_does]
  go_enter Try.func56, Try.ntmps56
  go_wp2_with fail
  refine (doesR g p _ [([3], 58), ([1], 60)] _ (h.below (below_a3 _ _ _ _)) hf (calls_w2 w [3] [1] 58 60 (by decide) (by decide)) (by intro c hc; simp at hc; rcases hc with rfl | rfl <;> simp [isClo])).mono ?_
  rintro e w2 ⟨⟨v, rfl, q1⟩, q2, q3⟩
  go_wp2
  go_ret
  exact ⟨⟨_, rfl, q1.weak (below_a3 _ _ _ _).size⟩, q2, grown_trans (below_grown0 (below_a3 _ _ _ _) _) q3⟩
/-- What a call at a time hands back. -/
structure AtR (g : Nat) (r : Pol × List Int × Int) (w : World) (e : Ending) (w' : World) : Prop where
  ret : ∃ v, e = .returned (.tuple #[v, .int .i64 r.2.2]) ∧ Own w.heap.size w' v r.2.1
  obj : PolAt w' g r.1
  grow : w.grownBy w' (some g)
theorem held_len (p : Pol) : p.held.2.length ≤ 1 := by unfold Pol.held Pol.dial; split <;> simp
theorem due_len (p : Pol) : p.due.2.length ≤ 1 := by
  unfold Pol.due Pol.due1 Pol.due2 Pol.hang
  split
  · split <;> simp
  · split
    · split
      · exact held_len p
      · simp
    · simp
theorem clo_len (n : Nat) (p : Pol) : (clo n p).2.length ≤ 1 := by
  unfold clo
  split
  · unfold Pol.due1 Pol.hang; split <;> simp
  split
  · unfold Pol.due2; split
    · exact held_len p
    · simp
  split
  · unfold Pol.start1 Pol.want Pol.dial; split <;> simp
  split
  · simp [Pol.packet1]
  split
  · unfold Pol.packet2 Pol.want Pol.dial; split
    · split <;> simp
    · simp
  split
  · unfold Pol.up1 Pol.dial; split
    · simp
    · split
      · split
        · exact held_len _
        · simp
      · simp
  split
  · simp [Pol.down1, Pol.hang]
  split
  · simp [Pol.down2]
  split
  · simp [Pol.lup1]
  · have hfin : ∀ q : Pol, q.fin.2.length ≤ 1 := fun q => by
      unfold Pol.fin
      split
      · exact held_len _
      · simp
    unfold Pol.ldown1
    split
    · split
      · simp
      · exact hfin _
    · split
      · exact hfin _
      · split <;> exact hfin _
theorem does_len (cs : List (List Int × Nat)) (p : Pol) : (does cs p).2.length ≤ 1 := by
  unfold does
  split
  · simp
  · exact clo_len _ _
end Go.Proofs.Ytibdaonhldlmbaa.F
