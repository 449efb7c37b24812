import Derived.Test.YtamkfalafnlomaaG3
set_option linter.unusedVariables false
set_option linter.unusedSimpArgs false
namespace Go.Proofs.Ytamkfalafnlomaa.F
open Go.RowKit Go.Proofs.Ytamkfalafnlomaa.K
theorem to_ph (T : Tk) (n : Int) : (T.to n).ph = n := by
  unfold Tk.to
  split
  · assumption
  · rfl
theorem act_down {T : Tk} {N : Int} (h : T.ok N) : ∃ T1, T.act 1 = (T1, 0) ∧ T1.ph = 0 := by
  have hi : inT T.ph 1 := ⟨h.1, h.2.1, by decide, by decide⟩
  have e1 : nx T.ph 1 = (0, 0) := by
    have : ent T.ph 1 = 0 := by unfold ent; simp
    unfold nx
    rw [if_pos hi, this]
    rfl
  refine ⟨T.forget.to 0, ?_, to_ph _ _⟩
  unfold Tk.act
  rw [e1]
  simp
theorem act_up {T : Tk} (h : T.ph = 0) : ∃ T1, T.act 0 = (T1, 0) ∧ T1.ph = 1 := by
  have e1 : nx T.ph 0 = (1, 0) := by rw [h]; rfl
  refine ⟨T.forget.to 1, ?_, to_ph _ _⟩
  unfold Tk.act
  rw [e1]
  simp
theorem act_else {T : Tk} (h : T.ph = 0) (ev : Int) (he : ev ≠ 0) : (T.act ev).1.ph = 0 := by
  unfold Tk.act
  split
  · unfold Tk.prove
    rw [if_pos (.inl h)]
    exact h
  · split
    · rename_i h2
      rw [to_ph]
      have hv := nx_e _ _ h2
      rw [h] at *
      rcases hv with rfl | rfl | rfl | rfl | rfl | rfl
      · exact absurd rfl he
      all_goals first | rfl | (exact absurd h2 (by decide))
    · exact h
theorem pass_mono12 (n : Int) (h : pass 1 n = true) : pass 2 n = true := by
  simp [pass] at h ⊢
  obtain ⟨a, b⟩ := h
  refine ⟨a, ?_⟩
  omega
theorem pass_mono23 (n : Int) (h : pass 2 n = true) : pass 3 n = true := by
  simp [pass] at h ⊢
  obtain ⟨a, b⟩ := h
  refine ⟨a, ?_⟩
  omega
theorem pass_zero (n : Int) : pass 0 n = false := by simp [pass]
set_option maxHeartbeats 4000000 in
theorem law_down (l : List O) (v : Value) (ev n : Int) (w : World) (h : RecsAt w v 4 O.cells l) :
    Calls Try.prog 6 #[v, .int .i64 ev, .int .i64 n] w fun e w' => e = .returned (.bool true) ∧ Below w.heap.size w w' := by
  have H := Lib.hid h
  obtain ⟨A, cap, rfl, k1, k2, k3, k4⟩ := h
  unfold maxLen at k2
  have K3 := Lib.hid k3
  clear k3 k4
  go_enter Try.func6, Try.ntmps6
  go_upto_block 0 with (go_at_call 14; refine (new14 _).mono ?_; rintro E w1 ⟨rfl, rfl⟩)
  generalize hW : World.alloc _ _ = W
  have hb0 : Below w.heap.size w W := by rw [← hW]; exact (Below.refl _ w).alloc (Nat.le_refl _) _
  have HT : Hid (TkAt W 59 w.heap.size Tk.zero) := by
    rw [← hW]; exact Lib.hid (TkAt.mk4 (heap_alloc_new _ _) rfl)
  clear hW
  go_cut [8, 9] from 19 to 31 (fun _ _ wx => ∃ T : Tk, T.ok 300 ∧ Hid (TkAt wx 59 w.heap.size T) ∧ Below w.heap.size w wx)
  case first =>
    go_wp2_with fail
    go_loopw [8, 9, 19] (fun _ _ i wr => ∃ k : Nat, k ≤ l.length ∧ k ≤ 300 ∧ i = .int .i64 k ∧ Hid (TkAt wr 59 w.heap.size (Tk.zero.run (l.take k))) ∧ Below w.heap.size w wr) (fun _ _ i _ => 300 - (intOf i).toNat)
    case atStart => exact ⟨0, by omega, by omega, rfl, HT, hb0⟩
    case round =>
      clear HT hb0 W
      obtain ⟨k, hk, hk3, rfl, HT, hB⟩ := hrel
      by_cases hkl : k < l.length
      · by_cases hk300 : k < 300
        · obtain ⟨A', cap', e, -, -, -, hc⟩ := (H.out.below hB).at_
          cases e
          obtain ⟨ad, rfl⟩ : ∃ ad, A = some ad := by
            cases A with
            | none => rw [K3.out rfl] at hkl; cases hkl
            | some ad => exact ⟨ad, rfl⟩
          obtain ⟨b, o, rfl, hlt, hc⟩ := hc ad rfl k hkl
          have c0 := hc 0 (.int .i64 l[k].k) rfl
          have c1 := hc 1 (.int .i64 l[k].ev) rfl
          have c2 := hc 2 (.bool l[k].a) rfl
          have c3 := hc 3 (.bool l[k].b) rfl
          clear hc
          simp only [Nat.add_zero] at c0
          have hd : decide ((300 : Int) ≤ (k : Int)) = false := by simp; omega
          have hi0 : (0 : Int) ≤ (k : Int) := by omega
          have hia : (k : Int) < (l.length : Int) := by omega
          go_wp2_with fail
          have hb1 : Below wr.heap.size wr (wr.alloc (.cells #[.int .i64 l[k].k, .int .i64 l[k].ev, .bool l[k].a, .bool l[k].b] 32)) := (Below.refl _ wr).alloc (Nat.le_refl _) _
          have B := (hB.trans (hb1.mono hB.size))
          have HT1 := HT.out.below hb1
          refine (step23b w.heap.size (wr.heap.size + 1) _ Tk.zero l[k] k _ (HT1.below ((Below.refl _ _).alloc (Nat.le_refl _) _)) ⟨heap_new (by simp)⟩ (by have := HT.out.lt; omega) (take_ok l k) (by have := zero_ok; unfold Tk.ok at *; omega) (by rw [← take_run l k hkl]; exact take_ok l (k + 1)) (ok_step (by have := zero_ok; unfold Tk.ok at *; omega)) (by omega)).mono ?_
          rintro e w2 ⟨⟨b', rfl⟩, h1, h3⟩
          rw [← take_run l k hkl] at h1
          go_wp2
          go_roundw
          case rel =>
            exact ⟨k + 1, by omega, by omega, by go_num, h1, below_two (B.alloc B.size _) h3 (by have := B.size; simp at *; omega) (Nat.le_refl _) (by have := hB.size; omega)⟩
          case measure => simp [intOf]; omega
        · have hd : decide ((300 : Int) ≤ (k : Int)) = true := by simp; omega
          obtain ⟨A', cap', e, -, -, -, hc⟩ := (H.out.below hB).at_
          cases e
          obtain ⟨ad, rfl⟩ : ∃ ad, A = some ad := by
            cases A with
            | none => rw [K3.out rfl] at hkl; cases hkl
            | some ad => exact ⟨ad, rfl⟩
          obtain ⟨b, o, rfl, hlt, hc⟩ := hc ad rfl k hkl
          have c0 := hc 0 (.int .i64 l[k].k) rfl
          have c1 := hc 1 (.int .i64 l[k].ev) rfl
          have c2 := hc 2 (.bool l[k].a) rfl
          have c3 := hc 3 (.bool l[k].b) rfl
          clear hc
          simp only [Nat.add_zero] at c0
          have hi0 : (0 : Int) ≤ (k : Int) := by omega
          have hia : (k : Int) < (l.length : Int) := by omega
          have hb1 : Below wr.heap.size wr (wr.alloc (.cells #[.int .i64 l[k].k, .int .i64 l[k].ev, .bool l[k].a, .bool l[k].b] 32)) := (Below.refl _ wr).alloc (Nat.le_refl _) _
          have B := (hB.trans (hb1.mono hB.size))
          have HT1 := HT.out.below hb1
          go_wp2_with fail
          go_meet
          exact ⟨_, by have := take_ok l k; unfold Tk.ok at *; omega, HT1, B⟩
      · obtain rfl : k = l.length := by omega
        go_wp2_with fail
        go_meet
        exact ⟨_, by have := take_ok l l.length; unfold Tk.ok at *; omega, HT, hB⟩
  case rest =>
    obtain ⟨T, hT, HT, hB⟩ := hcut
    obtain ⟨T1, e1, p1⟩ := act_down hT
    have D1 := fun (W : World) h => do16 w.heap.size T 1 300 W h hT (by decide)
    have hT1 := ok_act (e := 1) hT
    rw [e1] at D1 hT1
    have A1 := fun (W : World) h => at15 w.heap.size T1 W h
    rw [p1] at A1
    have D1' := Lib.hid D1
    have A1' := Lib.hid A1
    clear D1 A1 e1
    go_wp2_with fail
    refine (D1'.out _ HT.out).mono ?_
    rintro e w1 ⟨rfl, h1, g1⟩
    replace hB := below_grown hB g1 hB.size (Nat.le_refl _)
    clear g1
    have H1 := Lib.hid h1
    clear h1
    go_wp2_with fail
    refine (A1'.out _ H1.out).mono ?_
    rintro e w2 ⟨rfl, rfl⟩
    by_cases hev : ev = 0
    · subst hev
      obtain ⟨T2, e2, p2⟩ := act_up p1
      have D2 := fun (W : World) h => do16 w.heap.size T1 0 301 W h hT1 (by decide)
      rw [e2] at D2
      have A2 := fun (W : World) h => at15 w.heap.size T2 W h
      rw [p2] at A2
      have D2' := Lib.hid D2
      have A2' := Lib.hid A2
      clear D2 A2 e2 p1 p2 hT hT1
      go_wp2_with fail
      refine (D2'.out _ H1.out).mono ?_
      rintro e w3 ⟨rfl, h3, g3⟩
      replace hB := below_grown hB g3 hB.size (Nat.le_refl _)
      clear g3
      go_wp2_with fail
      refine (A2'.out _ h3).mono ?_
      rintro e w4 ⟨rfl, rfl⟩
      have P0 := Lib.hid (pass11 0 n)
      have P1 := Lib.hid (pass11 1 n)
      have P2 := Lib.hid (pass11 2 n)
      have P3 := Lib.hid (pass11 3 n)
      have m12 := pass_mono12 n
      have m23 := pass_mono23 n
      rw [pass_zero] at P0
      generalize pass 1 n = x1 at *
      generalize pass 2 n = x2 at *
      generalize pass 3 n = x3 at *
      go_wp2_with fail
      refine (P1.out _).mono ?_
      rintro e w6 ⟨rfl, rfl⟩
      go_wp2_with fail
      refine (P2.out _).mono ?_
      rintro e w6 ⟨rfl, rfl⟩
      go_wp2_with fail
      refine (P3.out _).mono ?_
      rintro e w6 ⟨rfl, rfl⟩
      have hx : (x1 = false ∧ x2 = false) ∨ (x1 = false ∧ x2 = true ∧ x3 = true) ∨ (x1 = true ∧ x2 = true ∧ x3 = true) := by cases x1 <;> cases x2 <;> cases x3 <;> simp_all
      clear m12 m23
      rcases hx with ⟨rfl, rfl⟩ | ⟨rfl, rfl, rfl⟩ | ⟨rfl, rfl, rfl⟩
      all_goals
        go_wp2_with fail
        refine (P0.out _).mono ?_
        rintro e w6 ⟨rfl, rfl⟩
        go_wp2_with fail
        refine (awake _).mono ?_
        rintro e w7 ⟨rfl, bb⟩
        go_wp2
        go_ret
        exact ⟨rfl, below_then hB bb⟩
    · have p2 := act_else p1 ev hev
      have q0 : (ev == 0) = false := by simpa using hev
      have D2 := fun (W : World) h => do16 w.heap.size T1 ev 301 W h hT1 (by decide)
      obtain ⟨⟨T2, c2⟩, e2⟩ : ∃ r, r = T1.act ev := ⟨_, rfl⟩
      rw [← e2] at D2 p2
      simp only at p2
      have A2 := fun (W : World) h => at15 w.heap.size T2 W h
      rw [p2] at A2
      have D2' := Lib.hid D2
      have A2' := Lib.hid A2
      clear D2 A2 e2 p1 p2 hT hT1 hev
      go_wp2_with fail
      refine (D2'.out _ H1.out).mono ?_
      rintro e w3 ⟨rfl, h3, g3⟩
      replace hB := below_grown hB g3 hB.size (Nat.le_refl _)
      clear g3
      go_wp2_with fail
      refine (A2'.out _ h3).mono ?_
      rintro e w4 ⟨rfl, rfl⟩
      have P0 := Lib.hid (pass11 0 n)
      have P1 := Lib.hid (pass11 1 n)
      have P2 := Lib.hid (pass11 2 n)
      have P3 := Lib.hid (pass11 3 n)
      have m12 := pass_mono12 n
      have m23 := pass_mono23 n
      rw [pass_zero] at P0
      generalize pass 1 n = x1 at *
      generalize pass 2 n = x2 at *
      generalize pass 3 n = x3 at *
      go_wp2_with fail
      refine (P1.out _).mono ?_
      rintro e w6 ⟨rfl, rfl⟩
      go_wp2_with fail
      refine (P2.out _).mono ?_
      rintro e w6 ⟨rfl, rfl⟩
      go_wp2_with fail
      refine (P3.out _).mono ?_
      rintro e w6 ⟨rfl, rfl⟩
      have hx : (x1 = false ∧ x2 = false) ∨ (x1 = false ∧ x2 = true ∧ x3 = true) ∨ (x1 = true ∧ x2 = true ∧ x3 = true) := by cases x1 <;> cases x2 <;> cases x3 <;> simp_all
      clear m12 m23
      rcases hx with ⟨rfl, rfl⟩ | ⟨rfl, rfl, rfl⟩ | ⟨rfl, rfl, rfl⟩
      all_goals
        go_wp2_with fail
        refine (P0.out _).mono ?_
        rintro e w6 ⟨rfl, rfl⟩
        go_wp2_with fail
        refine (awake _).mono ?_
        rintro e w7 ⟨rfl, bb⟩
        go_wp2
        go_ret
        exact ⟨rfl, below_then hB bb⟩
theorem row_down (l : List O) (v : Value) (ev n : Int) (w : World) (h : RecsAt w v 4 O.cells l) (h1 : (Lit.int .i64 ev).wf = true) (h2 : (Lit.int .i64 n).wf = true) :
    Calls Try.prog 6 #[v, .int .i64 ev, .int .i64 n] w fun e w' => e = .returned (.bool true) ∧ Below w.heap.size w w' := law_down l v ev n w h
end Go.Proofs.Ytamkfalafnlomaa.F
