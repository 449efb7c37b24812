import Derived.Test.YtjgndagejogfnaaL7
set_option linter.unusedVariables false
set_option linter.unusedSimpArgs false
namespace Go.Proofs.Ytjgndagejogfnaa.F
open Go.RowKit Go.Proofs.Ytjgndagejogfnaa.K
/-- events one by one, up to the first that can not come -/
def runGo (a : St) (acc : List Int) (i : Int) : List Int → Int × Int × List Int × Int × Int
  | [] => (a.st, a.cnt, acc, 0, 0)
  | e :: es => if (a.do_ e).2.2 ≠ 0 then (a.st, a.cnt, acc, (a.do_ e).2.2, i) else runGo (a.do_ e).1 (acc ++ (a.do_ e).2.1) (i + 1) es
def can (c t : Int) : Prop := 1 ≤ c ∧ c ≤ 255 ∧ 1 ≤ t ∧ t ≤ 255
instance (c t : Int) : Decidable (can c t) := by unfold can; infer_instance
def runFull (c t : Int) (evs : List Int) : Int × Int × List Int × Int × Int := if can c t then runGo ⟨0, 0, c, t⟩ [] 0 evs else (0, 0, [], 1, 0)
theorem new_ok {c t : Int} (h : can c t) : (⟨0, 0, c, t⟩ : St).ok := ⟨Int.le_refl _, (by decide : (0 : Int) ≤ 9), Int.le_refl _, (by decide : (0 : Int) ≤ 255), h.1, h.2.1, h.2.2.1, h.2.2.2⟩
theorem drop_at {l : List Int} {k : Nat} (h : k < l.length) : l.drop k = l[k] :: l.drop (k + 1) := by rw [List.drop_eq_getElem_cons h]
theorem acts_len {s e : Int} : (nx s e).2.1.length ≤ 3 := by
  by_cases h : (nx s e).2.2 = 0
  · obtain ⟨hi, he⟩ := nx_ok h
    have := all_of (p := fun _ _ _ l => decide (l.length ≤ 3)) (by decide +kernel) hi he
    simpa using this
  · rcases nx_err h with e | e <;> rw [e] <;> simp
theorem do_len (a : St) (ev : Int) : (a.do_ ev).2.1.length ≤ 3 := by
  unfold St.do_
  split
  · simp
  · split
    · simp
    · exact acts_len
theorem do_same {a : St} {ev : Int} (h : (a.do_ ev).2.2 ≠ 0) : (a.do_ ev).1 = a := by
  unfold St.do_ at *
  split
  · rfl
  · rename_i h1
    rw [if_neg h1] at h
    split
    · rfl
    · rename_i h2; rw [if_neg h2] at h; exact absurd rfl h
structure RunR (r : Int × Int × List Int × Int × Int) (w : World) (e : Ending) (w' : World) : Prop where
  ret : ∃ v, e = .returned (.tuple #[.int .i64 r.1, .int .i64 r.2.1, v, .int .i64 r.2.2.2.1, .int .i64 r.2.2.2.2]) ∧ Own w.heap.size w' v r.2.2.1
  bel : Below w.heap.size w w'
theorem RunR.mk' {r : Int × Int × List Int × Int × Int} {w w' : World} {a b c d : Int} {l : List Int} {v : Value} (hr : (a, b, l, c, d) = r) (hv : Own w.heap.size w' v l) (hb : Below w.heap.size w w') : RunR r w (.returned (.tuple #[.int .i64 a, .int .i64 b, v, .int .i64 c, .int .i64 d])) w' := by
  subst hr
  exact ⟨⟨v, rfl, hv⟩, hb⟩
theorem AtP.keep {w w' : World} {g : Nat} {a : St} {r : Option Nat} (h : AtP w g a) (hg : w.grownBy w' r) (hne : some g ≠ r) : AtP w' g a := ⟨(hg.block g h.lt hne).trans h.blk⟩
set_option maxHeartbeats 4000000 in
theorem run16 (c t : Int) (evs : List Int) (v : Value) (w : World) (h : IntsAt w v evs) (hl : evs.length ≤ 1048576) : Calls Try.prog 16 #[.int .i64 c, .int .i64 t, v] w (RunR (runFull c t evs) w) := by
  have HI := h
  obtain ⟨A, cap, rfl, k1, k2, k3, -⟩ := h
  unfold maxLen at k2
  by_cases hc : can c t
  · have hR : runFull c t evs = runGo ⟨0, 0, c, t⟩ [] 0 evs := if_pos hc
    rw [hR]
    have Hc := Lib.hid hc
    clear hR hc
    have hend : ∀ w' (a : St) (l : List Int) (x y : Int) (u : Value), (a.st, a.cnt, l, x, y) = runGo ⟨0, 0, c, t⟩ [] 0 evs → Own (w.heap.size + 1) w' u l → Below w.heap.size w w' → RunR (runGo ⟨0, 0, c, t⟩ [] 0 evs) w (.returned (.tuple #[.int .i64 a.st, .int .i64 a.cnt, u, .int .i64 x, .int .i64 y])) w' := fun w' a l x y u h1 h2 h3 => RunR.mk' h1 (h2.weak (by omega)) h3
    obtain ⟨Rs, hRs⟩ : ∃ r, r = runGo ⟨0, 0, c, t⟩ [] 0 evs := ⟨_, rfl⟩
    rw [← hRs] at hend ⊢
    have HR := Lib.hid hRs
    clear hRs
    go_enter Try.func16, Try.ntmps16
    go_wp2_with fail
    refine (new28 c t _ Hc.out).mono ?_
    rintro e w1 ⟨rfl, hA, hB⟩
    have HA := Lib.hid hA
    clear hA
    have hw1 := hB.size
    have hlt0 := HA.out.lt
    go_wp2
    go_loopw [12, 13, 14, 15, 16, 24] (fun o _ _ _ _ i wr => ∃ (k : Nat) (a : St) (acc : List Int), k ≤ evs.length ∧ i = .int .i64 k ∧ Hid (runGo a acc k (evs.drop k) = Rs) ∧ a.ok ∧ acc.length ≤ 3 * k ∧ Hid (AtP wr w.heap.size a) ∧ Hid (Own (w.heap.size + 1) wr o acc) ∧ Below w.heap.size w wr) (fun _ _ _ _ _ i _ => evs.length - (intOf i).toNat)
    case atStart =>
      exact ⟨0, ⟨0, 0, c, t⟩, [], by omega, rfl, Lib.hid (by rw [HR.out]; rfl), new_ok Hc.out, by simp, HA, Lib.hid (own_nil _ _), hB⟩
    case round =>
      clear HA hw1 hB hlt0 w1
      obtain ⟨k, a, acc, hk, rfl, hr, hok, hal, HA, ho, hB⟩ := hrel
      have hbs := hB.size
      by_cases hlt : k < evs.length
      · obtain ⟨ad, rfl⟩ := some_of k3 hlt
        obtain ⟨A', cap', eA, -, -, -, k4⟩ := (HI.below hB).at_
        cases eA
        obtain ⟨ba, oa, rfl, cx⟩ := k4 ad rfl k hlt
        have hi0 : (0 : Int) ≤ (k : Int) := by omega
        have hi1 : (k : Int) < (evs.length : Int) := by omega
        clear k3 k4
        have hr2 := hr.out
        rw [drop_at hlt, runGo] at hr2
        generalize evs[k] = ev at *
        have hk1 : ((k : Int) + 1) = ((k + 1 : Nat) : Int) := by omega
        have D := Lib.hid (fun W h => do30 w.heap.size a ev W h hok)
        have hdo := do_ok hok ev
        have hdl := do_len a ev
        obtain ⟨⟨a1, L, er⟩, hx⟩ : ∃ r, r = a.do_ ev := ⟨_, rfl⟩
        have hsm := @do_same a ev
        rw [← hx] at hr2 hdo hdl D hsm
        simp only at hr2 hdo hdl hsm
        clear hx
        by_cases he : er = 0
        · subst he
          rw [if_neg (by simp), hk1] at hr2
          have Hr2 := Lib.hid hr2
          clear hr2 hk1
          go_wp2_with fail
          refine (D.out _ HA.out).mono ?_
          rintro e w2 ⟨⟨u, rfl, hu⟩, h2, h3⟩
          have ho1 := ho.out.kept h3 (fun g e => by cases e; omega)
          have hB2 := hB.grown h3 hbs (fun k hk => by cases hk; omega)
          have hu' : Own wr.heap.size w2 u L := hu
          have hus := hu'.ints.src
          have h2' := Lib.hid h2
          have hbs2 := hB2.size
          unfold Own at ho1
          obtain ⟨Au, cu, rfl, -⟩ := hu'.ints
          clear hu hu' h2 h3
          go_wp2_with (at_builtin; refine wpList_app elI rfl _ _ rfl (w.heap.size + 1) _ _ _ rfl ho1 _ _ _ rfl hus (by simp [maxLen]; omega) (by omega) (by have := h2'.out.lt; omega) ?_)
          intro v3 w3 ho3 hg3 hn3
          have hne : some w.heap.size ≠ Value.ownBlock _ := fun e => by
            have := (ho1.lt w.heap.size e.symm).1
            omega
          have hA3 := Lib.hid (h2'.out.keep hg3 hne)
          have hB3 := hB2.grown hg3 (by omega) (fun k hk => by have := (ho1.lt k hk).1; omega)
          have HO : Hid (Own (w.heap.size + 1) w3 v3 (acc ++ L)) := Lib.hid (by unfold Own; simpa using ho3)
          clear hg3 hn3 ho3 ho1 hus hne
          go_wp2
          go_roundw
          case rel => exact ⟨k + 1, a1, acc ++ L, by omega, by go_num, Hr2, hdo, by simp; omega, hA3, HO, hB3⟩
          case measure => simp [intOf]; omega
        · rw [if_pos (show (er ≠ 0) from he)] at hr2
          have Hr2 := Lib.hid hr2
          have qe : (er != 0) = true := by simpa using he
          have he0 : er ≠ 0 := he
          clear hr2 he hk1
          go_wp2_with fail
          refine (D.out _ HA.out).mono ?_
          rintro e w2 ⟨⟨u, rfl, hu⟩, h2, h3⟩
          have ho1 := Lib.hid (ho.out.kept h3 (fun g e => by cases e; omega))
          have hB2 := hB.grown h3 hbs (fun k hk => by cases hk; omega)
          have ha1 := hsm he0
          subst ha1
          have hA2 := Lib.hid h2
          have c0 := h2.cst
          have c1 := h2.ccnt
          clear h2 h3 hu hsm
          go_wp2
          go_quiet (fail)
          go_wp2
          exact bodyPost_ret (v := .tuple #[.int .i64 a1.st, .int .i64 a1.cnt, _, .int .i64 er, .int .i64 k]) (by simp [results, Try.results16, go_sem]) rfl (hend _ _ _ _ _ _ Hr2.out (ho1.out.below (below_drewN (Below.refl _ _) _)) (below_drewN hB2 _))
      · obtain rfl : k = evs.length := by omega
        have hr2 := hr.out
        rw [List.drop_of_length_le (Nat.le_refl _), runGo] at hr2
        have Hr2 := Lib.hid hr2
        have c0 := HA.out.cst
        have c1 := HA.out.ccnt
        clear hr2
        go_wp2
        go_quiet (fail)
        go_wp2
        exact bodyPost_ret (v := .tuple #[.int .i64 a.st, .int .i64 a.cnt, _, .int .i64 0, .int .i64 0]) (by simp [results, Try.results16, go_sem]) rfl (hend _ _ _ _ _ _ Hr2.out (ho.out.below (below_drewN (Below.refl _ _) _)) (below_drewN hB _))
  · have hR : runFull c t evs = (0, 0, [], 1, 0) := if_neg hc
    rw [hR]
    have fin : RunR (0, 0, [], 1, 0) w (.returned (.tuple #[.int .i64 0, .int .i64 0, .slice none 0 0, .int .i64 1, .int .i64 0])) w := ⟨⟨_, rfl, own_nil _ _⟩, Below.refl _ _⟩
    have Hc := Lib.hid hc
    clear hR hc
    go_enter Try.func16, Try.ntmps16
    go_wp2_with fail
    refine (new28_no c t _ Hc.out).mono ?_
    rintro e w1 ⟨rfl, rfl⟩
    go_wp2
    exact bodyPost_ret (v := .tuple #[.int .i64 0, .int .i64 0, .slice none 0 0, .int .i64 1, .int .i64 0]) (by simp [results, Try.results16, go_sem]) rfl fin
theorem AtR.keep {w w' : World} {g : Nat} {a : St} {r : Option Nat} (h : AtR w g a) (hg : w.grownBy w' r) (hne : some g ≠ r) : AtR w' g a := ⟨(hg.block g h.lt hne).trans h.blk⟩
set_option maxHeartbeats 4000000 in
theorem run17 (c t : Int) (evs : List Int) (v : Value) (w : World) (h : IntsAt w v evs) (hl : evs.length ≤ 1048576) : Calls Try.prog 17 #[.int .i64 c, .int .i64 t, v] w (RunR (runFull c t evs) w) := by
  have HI := h
  obtain ⟨A, cap, rfl, k1, k2, k3, -⟩ := h
  unfold maxLen at k2
  by_cases hc : can c t
  · have hR : runFull c t evs = runGo ⟨0, 0, c, t⟩ [] 0 evs := if_pos hc
    rw [hR]
    have Hc := Lib.hid hc
    clear hR hc
    have hend : ∀ w' (a : St) (l : List Int) (x y : Int) (u : Value), (a.st, a.cnt, l, x, y) = runGo ⟨0, 0, c, t⟩ [] 0 evs → Own (w.heap.size + 1) w' u l → Below w.heap.size w w' → RunR (runGo ⟨0, 0, c, t⟩ [] 0 evs) w (.returned (.tuple #[.int .i64 a.st, .int .i64 a.cnt, u, .int .i64 x, .int .i64 y])) w' := fun w' a l x y u h1 h2 h3 => RunR.mk' h1 (h2.weak (by omega)) h3
    obtain ⟨Rs, hRs⟩ : ∃ r, r = runGo ⟨0, 0, c, t⟩ [] 0 evs := ⟨_, rfl⟩
    rw [← hRs] at hend ⊢
    have HR := Lib.hid hRs
    clear hRs
    go_enter Try.func17, Try.ntmps17
    go_wp2_with fail
    refine (new35 c t _ Hc.out).mono ?_
    rintro e w1 ⟨rfl, hA, hB⟩
    have HA := Lib.hid hA
    clear hA
    have hw1 := hB.size
    have hlt0 := HA.out.lt
    go_wp2
    go_loopw [12, 13, 14, 15, 16, 24] (fun o _ _ _ _ i wr => ∃ (k : Nat) (a : St) (acc : List Int), k ≤ evs.length ∧ i = .int .i64 k ∧ Hid (runGo a acc k (evs.drop k) = Rs) ∧ a.ok ∧ acc.length ≤ 3 * k ∧ Hid (AtR wr w.heap.size a) ∧ Hid (Own (w.heap.size + 1) wr o acc) ∧ Below w.heap.size w wr) (fun _ _ _ _ _ i _ => evs.length - (intOf i).toNat)
    case atStart =>
      exact ⟨0, ⟨0, 0, c, t⟩, [], by omega, rfl, Lib.hid (by rw [HR.out]; rfl), new_ok Hc.out, by simp, HA, Lib.hid (own_nil _ _), hB⟩
    case round =>
      clear HA hw1 hB hlt0 w1
      obtain ⟨k, a, acc, hk, rfl, hr, hok, hal, HA, ho, hB⟩ := hrel
      have hbs := hB.size
      by_cases hlt : k < evs.length
      · obtain ⟨ad, rfl⟩ := some_of k3 hlt
        obtain ⟨A', cap', eA, -, -, -, k4⟩ := (HI.below hB).at_
        cases eA
        obtain ⟨ba, oa, rfl, cx⟩ := k4 ad rfl k hlt
        have hi0 : (0 : Int) ≤ (k : Int) := by omega
        have hi1 : (k : Int) < (evs.length : Int) := by omega
        clear k3 k4
        have hr2 := hr.out
        rw [drop_at hlt, runGo] at hr2
        generalize evs[k] = ev at *
        have hk1 : ((k : Int) + 1) = ((k + 1 : Nat) : Int) := by omega
        have D := Lib.hid (fun W h => do41 w.heap.size a ev W h hok)
        have hdo := do_ok hok ev
        have hdl := do_len a ev
        obtain ⟨⟨a1, L, er⟩, hx⟩ : ∃ r, r = a.do_ ev := ⟨_, rfl⟩
        have hsm := @do_same a ev
        rw [← hx] at hr2 hdo hdl D hsm
        simp only at hr2 hdo hdl hsm
        clear hx
        by_cases he : er = 0
        · subst he
          rw [if_neg (by simp), hk1] at hr2
          have Hr2 := Lib.hid hr2
          clear hr2 hk1
          go_wp2_with fail
          refine (D.out _ HA.out).mono ?_
          rintro e w2 ⟨⟨u, rfl, hu⟩, h2, h3⟩
          have ho1 := ho.out.kept h3 (fun g e => by cases e; omega)
          have hB2 := hB.grown h3 hbs (fun k hk => by cases hk; omega)
          have hu' : Own wr.heap.size w2 u L := hu
          have hus := hu'.ints.src
          have h2' := Lib.hid h2
          have hbs2 := hB2.size
          unfold Own at ho1
          obtain ⟨Au, cu, rfl, -⟩ := hu'.ints
          clear hu hu' h2 h3
          go_wp2_with (at_builtin; refine wpList_app elI rfl _ _ rfl (w.heap.size + 1) _ _ _ rfl ho1 _ _ _ rfl hus (by simp [maxLen]; omega) (by omega) (by have := h2'.out.lt; omega) ?_)
          intro v3 w3 ho3 hg3 hn3
          have hne : some w.heap.size ≠ Value.ownBlock _ := fun e => by
            have := (ho1.lt w.heap.size e.symm).1
            omega
          have hA3 := Lib.hid (h2'.out.keep hg3 hne)
          have hB3 := hB2.grown hg3 (by omega) (fun k hk => by have := (ho1.lt k hk).1; omega)
          have HO : Hid (Own (w.heap.size + 1) w3 v3 (acc ++ L)) := Lib.hid (by unfold Own; simpa using ho3)
          clear hg3 hn3 ho3 ho1 hus hne
          go_wp2
          go_roundw
          case rel => exact ⟨k + 1, a1, acc ++ L, by omega, by go_num, Hr2, hdo, by simp; omega, hA3, HO, hB3⟩
          case measure => simp [intOf]; omega
        · rw [if_pos (show (er ≠ 0) from he)] at hr2
          have Hr2 := Lib.hid hr2
          have qe : (er != 0) = true := by simpa using he
          have he0 : er ≠ 0 := he
          clear hr2 he hk1
          go_wp2_with fail
          refine (D.out _ HA.out).mono ?_
          rintro e w2 ⟨⟨u, rfl, hu⟩, h2, h3⟩
          have ho1 := Lib.hid (ho.out.kept h3 (fun g e => by cases e; omega))
          have hB2 := hB.grown h3 hbs (fun k hk => by cases hk; omega)
          have ha1 := hsm he0
          subst ha1
          have hA2 := Lib.hid h2
          have c0 := h2.cst
          have c1 := h2.ccnt
          clear h2 h3 hu hsm
          go_wp2
          go_quiet (fail)
          go_wp2
          exact bodyPost_ret (v := .tuple #[.int .i64 a1.st, .int .i64 a1.cnt, _, .int .i64 er, .int .i64 k]) (by simp [results, Try.results17, go_sem]) rfl (hend _ _ _ _ _ _ Hr2.out (ho1.out.below (below_drewN (Below.refl _ _) _)) (below_drewN hB2 _))
      · obtain rfl : k = evs.length := by omega
        have hr2 := hr.out
        rw [List.drop_of_length_le (Nat.le_refl _), runGo] at hr2
        have Hr2 := Lib.hid hr2
        have c0 := HA.out.cst
        have c1 := HA.out.ccnt
        clear hr2
        go_wp2
        go_quiet (fail)
        go_wp2
        exact bodyPost_ret (v := .tuple #[.int .i64 a.st, .int .i64 a.cnt, _, .int .i64 0, .int .i64 0]) (by simp [results, Try.results17, go_sem]) rfl (hend _ _ _ _ _ _ Hr2.out (ho.out.below (below_drewN (Below.refl _ _) _)) (below_drewN hB _))
  · have hR : runFull c t evs = (0, 0, [], 1, 0) := if_neg hc
    rw [hR]
    have fin : RunR (0, 0, [], 1, 0) w (.returned (.tuple #[.int .i64 0, .int .i64 0, .slice none 0 0, .int .i64 1, .int .i64 0])) w := ⟨⟨_, rfl, own_nil _ _⟩, Below.refl _ _⟩
    have Hc := Lib.hid hc
    clear hR hc
    go_enter Try.func17, Try.ntmps17
    go_wp2_with fail
    refine (new35_no c t _ Hc.out).mono ?_
    rintro e w1 ⟨rfl, rfl⟩
    go_wp2
    exact bodyPost_ret (v := .tuple #[.int .i64 0, .int .i64 0, .slice none 0 0, .int .i64 1, .int .i64 0]) (by simp [results, Try.results17, go_sem]) rfl fin
end Go.Proofs.Ytjgndagejogfnaa.F
