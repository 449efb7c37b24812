import Derived.Test.YtibdaonhldlmbaaB6
set_option linter.unusedVariables false
set_option linter.unusedSimpArgs false
namespace Go.Proofs.Ytibdaonhldlmbaa.F
open Go.RowKit Go.Proofs.Ytibdaonhldlmbaa.K
variable (g : Nat) (p : Pol) (w : World)
set_option maxHeartbeats 1000000 in
theorem at39 (now : Int) (cs : List (List Int × Nat)) (v : Value) (h : PolAt w g p) (hf : p.fok) (hcs : okCs cs) (hse : ∀ W : World, w.grownBy W (some g) → CallsAt W v cs) : Calls Try.prog 39 #[.pointer (some ⟨g, 0, none⟩), .int .i64 now, v] w (AtR g (atC cs now p) w) := by
  have c6 := h.cnow
  have f6 := h.free 6
  unfold atC
  by_cases h1 : now < 0
  · rw [if_pos (.inl h1)]
    go_enter Try.func39, Try.ntmps39
    go_wp2_with fail
    go_ret2
    exact ⟨⟨_, rfl, own_nil _ _⟩, h, grownBy_refl _ _⟩
  · by_cases h2 : 1099511627776 < now
    · rw [if_pos (.inr (.inl h2))]
      go_enter Try.func39, Try.ntmps39
      go_wp2_with fail
      go_ret2
      exact ⟨⟨_, rfl, own_nil _ _⟩, h, grownBy_refl _ _⟩
    · by_cases h3 : now < p.now
      · rw [if_pos (.inr (.inr h3))]
        go_enter Try.func39, Try.ntmps39
        go_wp2_with fail
        go_ret2
        exact ⟨⟨_, rfl, own_nil _ _⟩, h, grownBy_refl _ _⟩
      · rw [if_neg (by rintro (h | h | h); exact h1 h; exact h2 h; exact h3 h)]
        have hq := h.snow now
        have hg := grown_setCell (grownBy_refl w (some g)) 6 (.int .i64 now)
        have hf2 : ({ p with now := now } : Pol).fok := hf
        obtain ⟨q, hqe⟩ : ∃ q : Pol, q = { p with now := now } := ⟨_, rfl⟩
        have hs : ∀ x : Pol × List Int × Int, x = ((does cs q.due.1).1, q.due.2 ++ (does cs q.due.1).2, 0) → x = ((does cs ({ p with now := now } : Pol).due.1).1, ({ p with now := now } : Pol).due.2 ++ (does cs ({ p with now := now } : Pol).due.1).2, 0) := fun x e => by rw [e, hqe]
        have hgoal : AtR g ((does cs ({ p with now := now } : Pol).due.1).1, ({ p with now := now } : Pol).due.2 ++ (does cs ({ p with now := now } : Pol).due.1).2, 0) w = AtR g ((does cs q.due.1).1, q.due.2 ++ (does cs q.due.1).2, 0) w := by rw [hqe]
        show Calls _ _ _ _ (AtR g ((does cs ({ p with now := now } : Pol).due.1).1, ({ p with now := now } : Pol).due.2 ++ (does cs ({ p with now := now } : Pol).due.1).2, 0) w)
        rw [hgoal]
        rw [← hqe] at hq hf2
        have hdl := due_len q
        have hel := does_len cs q.due.1
        have hdf : q.due.1.fok := fok_of hf2 (.inl (due_fa q))
        clear hgoal hs hqe
        have HD := Lib.hid (due56 g q _ hq hf2)
        generalize q.due = r at *
        obtain ⟨q2, l1⟩ := r
        simp only at hdl hel hdf
        generalize hde : does cs q2 = r2 at *
        obtain ⟨q3, l2⟩ := r2
        simp only at hel
        have HDe := Lib.hid hde
        clear hde
        go_enter Try.func39, Try.ntmps39
        go_wp2_with fail
        refine HD.out.mono ?_
        rintro e w1 ⟨⟨u1, rfl, o1⟩, k1, g1⟩
        have hg1 := grown_trans hg g1
        have hsz := hg.size
        go_wp2_with fail
        refine (doesR g q2 w1 cs v k1 hdf (hse w1 hg1) hcs).mono ?_
        rw [HDe.out]
        rintro e w2 ⟨⟨u2, rfl, o2⟩, k2', g2⟩
        have o1' : Own w.heap.size w2 u1 l1 := (o1.kept g2 (fun x e => by cases e; exact hq.lt)).weak hsz
        have lt1 := k1.lt
        have hsrc := o2.ints.src
        have hg2 := grown_trans hg1 g2
        have lw := h.lt
        simp only at k2'
        clear c6 f6 h hq hg g1 k1 o1 o2 g2 HD
        go_wp2_with (at_builtin; refine wpList_app elI rfl _ _ rfl w.heap.size _ _ _ rfl o1' _ _ _ rfl hsrc (by simp [maxLen]; omega) (by omega) hg2.size ?_)
        intro v3 w3 ho3 hg3 hn3
        have o3 : Own w.heap.size w3 v3 (l1 ++ l2) := by unfold Own; simpa using ho3
        have k3 := k2'.keep hg3 (fun e => by have := (World.ownsRow.lt o1' _ e.symm).1; omega)
        have g3 : w.grownBy w3 (some g) := ⟨hg3.os.trans hg2.os, hg3.tape.trans hg2.tape, hg3.output.trans hg2.output, Nat.le_trans hg2.size hg3.size, fun k hk hne => (hg3.block k (Nat.lt_of_lt_of_le hk hg2.size) (fun e => by have := (World.ownsRow.lt o1' _ e.symm).1; omega)).trans (hg2.block k hk hne)⟩
        go_wp2_with fail
        go_ret2
        exact ⟨⟨_, rfl, o3⟩, k3, g3⟩
theorem at39_nil (now : Int) (v : Value) (A : Option Addr) (n c : Nat) (hv : v = .slice A n c) (w : World) : Calls Try.prog 39 #[.pointer none, .int .i64 now, v] w fun e w' => e = .returned (.tuple #[.slice none 0 0, .int .i64 2]) ∧ w = w' := by
  subst hv
  go_enter Try.func39, Try.ntmps39
  go_wp2
  go_ret2
  exact ⟨rfl, rfl⟩
theorem calls_k2 (w W : World) (l1 l2 : List Int) (n1 n2 : Nat) (h1 : l1.length ≤ 10) (h2 : l2.length ≤ 10) (hlt : g < w.heap.size)
    (hg : (((w.alloc (.cells (l1.map (Value.int .i64)).toArray 3)).alloc (.cells (l2.map (Value.int .i64)).toArray 3)).alloc (.cells #[.slice (some ⟨w.heap.size, 0, none⟩) l1.length l1.length, .func (.func n1) #[] #[], .slice (some ⟨w.heap.size + 1, 0, none⟩) l2.length l2.length, .func (.func n2) #[] #[]] 69)).grownBy W (some g)) :
    CallsAt W (.slice (some ⟨w.heap.size + 1 + 1, 0, none⟩) 2 2) [(l1, n1), (l2, n2)] := by
  have e1 : (w.alloc (.cells (l1.map (Value.int .i64)).toArray 3)).heap.size = w.heap.size + 1 := by simp
  refine calls2 (t := 69) (s := .slice (some ⟨w.heap.size, 0, none⟩) l1.length l1.length) (s' := .slice (some ⟨w.heap.size + 1, 0, none⟩) l2.length l2.length) ?_ (ints_lit (b := w.heap.size) l1 ?_ (by simp [maxLen]; omega)) (ints_lit (b := w.heap.size + 1) l2 ?_ (by simp [maxLen]; omega))
  · rw [hg.block _ (by simp) (by simp; omega)]
    have := heap_alloc_new ((w.alloc (.cells (l1.map (Value.int .i64)).toArray 3)).alloc (.cells (l2.map (Value.int .i64)).toArray 3)) (.cells #[.slice (some ⟨w.heap.size, 0, none⟩) l1.length l1.length, .func (.func n1) #[] #[], .slice (some ⟨w.heap.size + 1, 0, none⟩) l2.length l2.length, .func (.func n2) #[] #[]] 69)
    simpa using this
  · rw [hg.block _ (by simp; omega) (by simp; omega), heap_alloc_old _ _ (by simp; omega)]
    exact heap_two _ _ _
  · rw [hg.block _ (by simp) (by simp; omega)]
    have := heap_two (w.alloc (.cells (l1.map (Value.int .i64)).toArray 3)) (.cells (l2.map (Value.int .i64)).toArray 3) (.cells #[.slice (some ⟨w.heap.size, 0, none⟩) l1.length l1.length, .func (.func n1) #[] #[], .slice (some ⟨w.heap.size + 1, 0, none⟩) l2.length l2.length, .func (.func n2) #[] #[]] 69)
    rwa [e1] at this
theorem calls_k1 (w W : World) (l1 : List Int) (n1 : Nat) (h1 : l1.length ≤ 10) (hlt : g < w.heap.size)
    (hg : ((w.alloc (.cells (l1.map (Value.int .i64)).toArray 3)).alloc (.cells #[.slice (some ⟨w.heap.size, 0, none⟩) l1.length l1.length, .func (.func n1) #[] #[]] 69)).grownBy W (some g)) :
    CallsAt W (.slice (some ⟨w.heap.size + 1, 0, none⟩) 1 1) [(l1, n1)] := by
  refine calls1 (t := 69) (s := .slice (some ⟨w.heap.size, 0, none⟩) l1.length l1.length) ?_ (ints_lit (b := w.heap.size) l1 ?_ (by simp [maxLen]; omega))
  · rw [hg.block _ (by simp) (by simp; omega)]
    have := heap_alloc_new (w.alloc (.cells (l1.map (Value.int .i64)).toArray 3)) (.cells #[.slice (some ⟨w.heap.size, 0, none⟩) l1.length l1.length, .func (.func n1) #[] #[]] 69)
    simpa using this
  · rw [hg.block _ (by simp; omega) (by simp; omega)]
    exact heap_two _ _ _
theorem start26 (now : Int) (h : PolAt w g p) (hf : p.fok) : Calls Try.prog 26 #[.pointer (some ⟨g, 0, none⟩), .int .i64 now] w (AtR g (atC [([0], 46)] now p) w) := by
  go_enter Try.func26, Try.ntmps26
  go_wp2_with fail
  refine (at39 g p _ now [([0], 46)] _ (h.below (below_a2 _ _ _)) hf (by intro c hc; simp at hc; subst hc; simp [isClo]) (fun W hW => calls_k1 g w W [0] 46 (by decide) h.lt hW)).mono ?_
  rintro e w2 ⟨⟨v, rfl, q1⟩, q2, q3⟩
  go_wp2
  go_ret2
  exact ⟨⟨_, rfl, q1.weak (below_a2 _ _ _).size⟩, q2, grown_trans (below_grown0 (below_a2 _ _ _) _) q3⟩
theorem tick19 (now : Int) (h : PolAt w g p) (hf : p.fok) : Calls Try.prog 19 #[.pointer (some ⟨g, 0, none⟩), .int .i64 now] w (AtR g (atC [] now p) w) := by
  go_enter Try.func19, Try.ntmps19
  go_wp2_with fail
  refine (at39 g p _ now [] _ (h.below (Below.refl w.heap.size w)) hf (by intro c hc; cases hc) (fun W hW => calls0 W)).mono ?_
  rintro e w2 ⟨⟨v, rfl, q1⟩, q2, q3⟩
  go_wp2
  go_ret2
  exact ⟨⟨_, rfl, q1.weak (Below.refl w.heap.size w).size⟩, q2, grown_trans (below_grown0 (Below.refl w.heap.size w) _) q3⟩
theorem up27 (now : Int) (h : PolAt w g p) (hf : p.fok) : Calls Try.prog 27 #[.pointer (some ⟨g, 0, none⟩), .int .i64 now] w (AtR g (atC [([0, 1, 4, 5], 47)] now p) w) := by
  go_enter Try.func27, Try.ntmps27
  go_wp2_with fail
  refine (at39 g p _ now [([0, 1, 4, 5], 47)] _ (h.below (below_a2 _ _ _)) hf (by intro c hc; simp at hc; subst hc; simp [isClo]) (fun W hW => calls_k1 g w W [0, 1, 4, 5] 47 (by decide) h.lt hW)).mono ?_
  rintro e w2 ⟨⟨v, rfl, q1⟩, q2, q3⟩
  go_wp2
  go_ret2
  exact ⟨⟨_, rfl, q1.weak (below_a2 _ _ _).size⟩, q2, grown_trans (below_grown0 (below_a2 _ _ _) _) q3⟩
theorem down28 (now : Int) (h : PolAt w g p) (hf : p.fok) : Calls Try.prog 28 #[.pointer (some ⟨g, 0, none⟩), .int .i64 now] w (AtR g (atC [([2, 3], 50), ([0, 1, 4, 5], 52)] now p) w) := by
  go_enter Try.func28, Try.ntmps28
  go_wp2_with fail
  refine (at39 g p _ now [([2, 3], 50), ([0, 1, 4, 5], 52)] _ (h.below (below_a3 _ _ _ _)) hf (by intro c hc; simp at hc; rcases hc with rfl | rfl <;> simp [isClo]) (fun W hW => calls_k2 g w W [2, 3] [0, 1, 4, 5] 50 52 (by decide) (by decide) h.lt hW)).mono ?_
  rintro e w2 ⟨⟨v, rfl, q1⟩, q2, q3⟩
  go_wp2
  go_ret2
  exact ⟨⟨_, rfl, q1.weak (below_a3 _ _ _ _).size⟩, q2, grown_trans (below_grown0 (below_a3 _ _ _ _) _) q3⟩
theorem lup24 (now : Int) (h : PolAt w g p) (hf : p.fok) : Calls Try.prog 24 #[.pointer (some ⟨g, 0, none⟩), .int .i64 now] w (AtR g (atC [([2], 43)] now p) w) := by
  go_enter Try.func24, Try.ntmps24
  go_wp2_with fail
  refine (at39 g p _ now [([2], 43)] _ (h.below (below_a2 _ _ _)) hf (by intro c hc; simp at hc; subst hc; simp [isClo]) (fun W hW => calls_k1 g w W [2] 43 (by decide) h.lt hW)).mono ?_
  rintro e w2 ⟨⟨v, rfl, q1⟩, q2, q3⟩
  go_wp2
  go_ret2
  exact ⟨⟨_, rfl, q1.weak (below_a2 _ _ _).size⟩, q2, grown_trans (below_grown0 (below_a2 _ _ _) _) q3⟩
theorem ldown25 (now : Int) (h : PolAt w g p) (hf : p.fok) : Calls Try.prog 25 #[.pointer (some ⟨g, 0, none⟩), .int .i64 now] w (AtR g (atC [([2, 3, 4], 44)] now p) w) := by
  go_enter Try.func25, Try.ntmps25
  go_wp2_with fail
  refine (at39 g p _ now [([2, 3, 4], 44)] _ (h.below (below_a2 _ _ _)) hf (by intro c hc; simp at hc; subst hc; simp [isClo]) (fun W hW => calls_k1 g w W [2, 3, 4] 44 (by decide) h.lt hW)).mono ?_
  rintro e w2 ⟨⟨v, rfl, q1⟩, q2, q3⟩
  go_wp2
  go_ret2
  exact ⟨⟨_, rfl, q1.weak (below_a2 _ _ _).size⟩, q2, grown_trans (below_grown0 (below_a2 _ _ _) _) q3⟩
theorem packetT23 (now : Int) (h : PolAt w g p) (hf : p.fok) : Calls Try.prog 23 #[.pointer (some ⟨g, 0, none⟩), .int .i64 now, .bool true] w (AtR g (atC [([3], 40), ([0, 1, 4], 41)] now p) w) := by
  go_enter Try.func23, Try.ntmps23
  go_wp2_with fail
  refine (at39 g p _ now [([3], 40), ([0, 1, 4], 41)] _ (h.below (below_a3 _ _ _ _)) hf (by intro c hc; simp at hc; rcases hc with rfl | rfl <;> simp [isClo]) (fun W hW => calls_k2 g w W [3] [0, 1, 4] 40 41 (by decide) (by decide) h.lt hW)).mono ?_
  rintro e w2 ⟨⟨v, rfl, q1⟩, q2, q3⟩
  go_wp2
  go_ret2
  exact ⟨⟨_, rfl, q1.weak (below_a3 _ _ _ _).size⟩, q2, grown_trans (below_grown0 (below_a3 _ _ _ _) _) q3⟩
theorem packetF23 (now : Int) (h : PolAt w g p) (hf : p.fok) : Calls Try.prog 23 #[.pointer (some ⟨g, 0, none⟩), .int .i64 now, .bool false] w (AtR g (atC [] now p) w) := by
  go_enter Try.func23, Try.ntmps23
  go_wp2_with fail
  refine (at39 g p _ now [] _ (h.below (Below.refl w.heap.size w)) hf (by intro c hc; cases hc) (fun W hW => calls0 W)).mono ?_
  rintro e w2 ⟨⟨v, rfl, q1⟩, q2, q3⟩
  go_wp2
  go_ret2
  exact ⟨⟨_, rfl, q1.weak (Below.refl w.heap.size w).size⟩, q2, grown_trans (below_grown0 (Below.refl w.heap.size w) _) q3⟩
end Go.Proofs.Ytibdaonhldlmbaa.F
