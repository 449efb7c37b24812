import Derived.Test.YtedhldcoddbbdaaEZ
set_option linter.unusedVariables false
set_option linter.unusedSimpArgs false
set_option linter.unnecessarySimpa false
namespace Go.Proofs.Ytedhldcoddbbdaa.F
open Go.RowKit Go.Proofs.Ytedhldcoddbbdaa.K Go.Shelf
attribute [local go_sem] Oper.semAt_some
set_option maxRecDepth 100000 in
set_option maxHeartbeats 16000000 in
theorem each7 (m a : Int) (bs : List (BitVec 8)) (vb : Value) (mst : Int) (more : List (BitVec 8)) (vm : Value) (w : World) (hb : BytesAt w vb bs) (hl : bs.length ≤ 1048576) (hm : BytesAt w vm more) (hml : more.length ≤ 1048576) :
    Calls Try.prog 7 #[.int .i64 m, .int .i64 a, vb, .int .i64 mst, vm] w fun e w' => e = .returned (.bool true) ∧ Below w.heap.size w w' := by
  refine (callsIn_wide (n := 9)).1 ?_
  obtain ⟨F, hF⟩ : ∃ F, F = Fence.wide := ⟨_, rfl⟩
  have h7 : F.fn 7 := by rw [hF]; trivial
  have h21 : F.fn 21 := by rw [hF]; trivial
  have h24 : F.fn 24 := by rw [hF]; trivial
  have h26 : F.fn 26 := by rw [hF]; trivial
  have h27 : F.fn 27 := by rw [hF]; trivial
  have h28 : F.fn 28 := by rw [hF]; trivial
  have h29 : F.fn 29 := by rw [hF]; trivial
  have h31 : F.fn 31 := by rw [hF]; trivial
  have h32 : F.fn 32 := by rw [hF]; trivial
  have h33 : F.fn 33 := by rw [hF]; trivial
  have h34 : F.fn 34 := by rw [hF]; trivial
  have h35 : F.fn 35 := by rw [hF]; trivial
  have h43 : F.fn 43 := by rw [hF]; trivial
  have hro : F.round = none := by rw [hF]; rfl
  have HK := Lib.hid (fun W => (by rw [hF]; exact callsIn_wide.2 (known21 W) : CallsIn F (9 - 1) Try.prog 21 #[] W _))
  have HBY := Lib.hid hb
  have HMO := Lib.hid hm
  obtain ⟨Ab, cb, rfl, k1, k2, -, -⟩ := hb.at_
  obtain ⟨Am, cm, rfl, k3, k4, -, -⟩ := hm.at_
  unfold maxLen at k2 k4
  have hb0 : Below w.heap.size w (((w.alloc (.cells #[.slice Ab bs.length cb] 22)).alloc (.cells #[.int .i64 mst] 3)).alloc (.cells #[.bool false] 4)) := (((Below.refl _ w).alloc (Nat.le_refl _) _).alloc (by simp) _).alloc (by simp; omega) _
  have hf0 : (((w.alloc (.cells #[.slice Ab bs.length cb] 22)).alloc (.cells #[.int .i64 mst] 3)).alloc (.cells #[.bool false] 4)).heap[w.heap.size]? = some (.cells #[.slice Ab bs.length cb] 22 (0, 0)) := by
    rw [Below.heap_alloc _ _ _ (by simp; omega), Below.heap_alloc _ _ _ (by simp)]
    exact heap_alloc_new w _
  have hf1 : (((w.alloc (.cells #[.slice Ab bs.length cb] 22)).alloc (.cells #[.int .i64 mst] 3)).alloc (.cells #[.bool false] 4)).heap[w.heap.size + 1]? = some (.cells #[.int .i64 mst] 3 (0, 0)) := by
    rw [Below.heap_alloc _ _ _ (by simp)]
    have := heap_alloc_new (w.alloc (.cells #[.slice Ab bs.length cb] 22)) (.cells #[.int .i64 mst] 3)
    simpa using this
  have hf2 : (((w.alloc (.cells #[.slice Ab bs.length cb] 22)).alloc (.cells #[.int .i64 mst] 3)).alloc (.cells #[.bool false] 4)).heap[w.heap.size + 1 + 1]? = some (.cells #[.bool false] 4 (0, 0)) := by
    have := heap_alloc_new ((w.alloc (.cells #[.slice Ab bs.length cb] 22)).alloc (.cells #[.int .i64 mst] 3)) (.cells #[.bool false] 4)
    simpa using this
  have hz0 : (((w.alloc (.cells #[.slice Ab bs.length cb] 22)).alloc (.cells #[.int .i64 mst] 3)).alloc (.cells #[.bool false] 4)).heap.size = w.heap.size + 3 := by simp
  have HB0 := Lib.hid hb0
  have HF0 := Lib.hid hf0
  have HF1 := Lib.hid hf1
  have HF2 := Lib.hid hf2
  clear hb hm hb0 hf0 hf1 hf2
  cases hn : newOk m a
  · have HN := Lib.hid (fun W => (by rw [hF]; exact callsIn_wide.2 (new_bad m a true true W hn) : CallsIn F (9 - 1) Try.prog 26 _ W _))
    have HN2 := Lib.hid (fun W => (by rw [hF]; exact callsIn_wide.2 (rnew_bad m a true true W hn) : CallsIn F (9 - 1) Try.prog 29 _ W _))
    rw [← hF]
    clear hF hn
    refine callsIn_of_wp_marks Try.func7 rfl h7 ?_ hro
    simp only [Try.ntmps7, List.size_toArray, List.length_cons, List.length_nil, Nat.reduceAdd, Nat.reduceSub, Array.replicate_succ, Array.replicate_zero, List.push_toArray, List.append_toArray, List.nil_append, List.cons_append]
    gi_wp2_with (gi_at_call 26; refine (HN.out _).mono ?_; rintro e w' ⟨rfl, rfl⟩)
    generalize ((w.alloc (.cells #[.slice Ab bs.length cb] 22)).alloc (.cells #[.int .i64 mst] 3)).alloc (.cells #[.bool false] 4) = W0 at *
    have hbA : Below W0.heap.size W0 (W0.alloc (.cells #[.pointer none] 53)) := (Below.refl _ _).alloc (Nat.le_refl _) _
    have HBA := Lib.hid hbA
    have c12 : (W0.alloc (.cells #[.pointer none] 53)).cell? ⟨W0.heap.size, 0, none⟩ = some (.pointer none) := (cell_of_row _ _ _ _ _ _ (heap_alloc_new _ _)).trans rfl
    clear hbA
    gi_wp2_with (gi_at_call 29; refine (HN2.out _).mono ?_; rintro e w' ⟨rfl, rfl⟩)
    gi_wp2_with (gi_at_call 21; refine (HK.out _).mono ?_; rintro e w2 ⟨rfl, hb2⟩; have HB2 := Lib.hid (below_then HBA.out hb2); have HO2 := Lib.hid ((HB2.out.block _ (by omega)).trans HF2.out); have d10 : w2.cell? ⟨w.heap.size + 1 + 1, 0, none⟩ = some (.bool false) := (cell_of_row _ _ _ _ _ _ HO2.out).trans rfl; have g10 : w2.frozen? ⟨w.heap.size + 1 + 1, 0, none⟩ = false := frozen_of_row _ _ _ _ _ HO2.out; clear hb2)
    have HX2 := Lib.hid ((HB0.out.trans (HB2.out.mono HB0.out.size)).setCell (p := ⟨w.heap.size + 1 + 1, 0, none⟩) (by show w.heap.size ≤ w.heap.size + 1 + 1; omega) (.bool true))
    gi_wp2
    exact ⟨_, res7 _ _ _ true rfl (World.cell?_setCell_same _ _ _ d10), rfl, HX2.out⟩
  · have HN := Lib.hid (fun W => (by rw [hF]; exact callsIn_wide.2 (new26 m a true true W hn) : CallsIn F (9 - 1) Try.prog 26 _ W _))
    have HN2 := Lib.hid (fun W => (by rw [hF]; exact callsIn_wide.2 (rnew29 m a true true W hn) : CallsIn F (9 - 1) Try.prog 29 _ W _))
    have HC := Lib.hid (fun W => (by rw [hF]; exact callsIn_wide.2 (count27 mst 5 (by omega) (by omega) W) : CallsIn F (9 - 1) Try.prog 27 _ W _))
    have hcr := cnt_range mst 5 (by omega)
    have HOK := Lib.hid (kO m a true true hn)
    have hmm : 64 ≤ m ∧ m ≤ 16384 ∧ 0 ≤ a ∧ a ≤ 4294967295 := by
      unfold newOk mapB at hn
      simp only [Bool.and_eq_true, decide_eq_true_eq] at hn
      omega
    have HMM := Lib.hid hmm
    obtain ⟨c5, hc5⟩ : ∃ c5, c5 = cnt mst 5 := ⟨_, rfl⟩
    rw [← hc5] at HC hcr
    clear hn hc5 hmm
    have HEL := eql64
    have HA := Lib.hid (fun (p : Option Addr) (l : List (BitVec 8)) (v : Value) (W : World) (h : BytesAt W v l) (hl : l.length ≤ 140737488355328) => each34_in F (9 - 1) h34 hro p l v W h hl)
    have HE := Lib.hid (each43 F hF (9 - 1) (by omega))
    have H24 := Lib.hid (fun (n : Nat) l1 l2 v u W h h' (e : l1 = l2) => (by rw [hF]; exact callsIn_wide.2 (same_true l1 l2 v u W h h' e) : CallsIn F n Try.prog 24 #[v, u] W _))
    have H35 := Lib.hid (fun (n : Nat) g W r v c k1 k2 k3 k4 => (by rw [hF]; exact callsIn_wide.2 (byte35 g W r v c k1 k2 k3 k4) : CallsIn F n Try.prog 35 _ W _))
    have H28 := Lib.hid (fun g W d u k1 k2 bs vb k3 k4 => (by rw [hF]; exact callsIn_wide.2 (feed28 g W d u k1 k2 bs vb k3 k4) : CallsIn F (9 - 1) Try.prog 28 _ W _))
    have H31 := Lib.hid (fun g W r v k1 k2 k3 bs vb k4 k5 k6 => (by rw [hF]; exact callsIn_wide.2 (rfeed31 g W r v k1 k2 k3 bs vb k4 k5 k6) : CallsIn F (9 - 1) Try.prog 31 _ W _))
    have H33 := Lib.hid (fun g W d v k1 => (by rw [hF]; exact callsIn_wide.2 (counts33 g W d v k1) : CallsIn F (9 - 1) Try.prog 33 _ W _))
    have H32 := Lib.hid (fun x y W k1 => (by rw [hF]; exact callsIn_wide.2 (counts_true x y W k1) : CallsIn F (9 - 1) Try.prog 32 _ W _))
    have HFW := Lib.hid hF
    rw [← hF]
    clear hF
    refine callsIn_of_wp_marks Try.func7 rfl h7 ?_ hro
    simp only [Try.ntmps7, List.size_toArray, List.length_cons, List.length_nil, Nat.reduceAdd, Nat.reduceSub, Array.replicate_succ, Array.replicate_zero, List.push_toArray, List.append_toArray, List.nil_append, List.cons_append]
    gi_wp2_with (gi_at_call 26; refine (HN.out _).mono ?_; rintro e w1 ⟨rfl, hl1, hb1⟩; have HB1 := Lib.hid hb1; have HL1 := Lib.hid hl1; clear hb1 hl1)
    generalize ((w.alloc (.cells #[.slice Ab bs.length cb] 22)).alloc (.cells #[.int .i64 mst] 3)).alloc (.cells #[.bool false] 4) = W0 at *
    rw [hz0] at HL1
    gi_wp2_with (gi_at_call 29; refine (HN2.out _).mono ?_; rintro e w2 ⟨rfl, hr2, hb2⟩; have HB2 := Lib.hid hb2; have HR2 := Lib.hid hr2; have hbA : Below w2.heap.size w2 (w2.alloc (.cells #[.pointer (some ⟨w1.heap.size, 0, none⟩)] 53)) := (Below.refl _ _).alloc (Nat.le_refl _) _; have HBA := Lib.hid (below_then (below_then HB1.out hb2) hbA); have HP1 := Lib.hid ((HBA.out.block _ (by omega)).trans HF1.out); have p1 : (w2.alloc (.cells #[.pointer (some ⟨w1.heap.size, 0, none⟩)] 53)).cell? ⟨w.heap.size + 1, 0, none⟩ = some (.int .i64 mst) := (cell_of_row _ _ _ _ _ _ HP1.out).trans rfl; have q1 : (w2.alloc (.cells #[.pointer (some ⟨w1.heap.size, 0, none⟩)] 53)).frozen? ⟨w.heap.size + 1, 0, none⟩ = false := frozen_of_row _ _ _ _ _ HP1.out; clear hb2 hr2 hbA)
    have hg3 := (Array.getElem?_eq_some_iff.1 HL1.out.blk).1
    have hG3 := (Array.getElem?_eq_some_iff.1 HR2.out.blk).1
    have HR3 := Lib.hid (HR2.out.below ((Below.refl _ w2).alloc (Nat.le_refl _) (.cells #[.pointer (some ⟨w1.heap.size, 0, none⟩)] 53)))
    have HL3 := Lib.hid ((HL1.out.below HB2.out).below ((Below.refl _ w2).alloc (Nat.le_refl _) (.cells #[.pointer (some ⟨w1.heap.size, 0, none⟩)] 53)))
    have HPr := Lib.hid (heap_alloc_new w2 (.cells #[.pointer (some ⟨w1.heap.size, 0, none⟩)] 53))
    have hz3 : (w2.alloc (.cells #[.pointer (some ⟨w1.heap.size, 0, none⟩)] 53)).heap.size = w2.heap.size + 1 := by simp
    generalize hW3 : w2.alloc (.cells #[.pointer (some ⟨w1.heap.size, 0, none⟩)] 53) = W3 at *
    have hset : W3.grownBy (W3.setCell ⟨w.heap.size + 1, 0, none⟩ (.int .i64 (1 + c5))) (some (w.heap.size + 1)) := ⟨rfl, rfl, rfl, by simp [World.setCell], fun k _ hk => heap_setCell_other _ _ _ _ (fun e => hk (by simp [e]))⟩
    have hz4 : (W3.setCell ⟨w.heap.size + 1, 0, none⟩ (.int .i64 (1 + c5))).heap.size = w2.heap.size + 1 := by simp [World.setCell, hz3]
    have hb45 : Below (W3.setCell ⟨w.heap.size + 1, 0, none⟩ (.int .i64 (1 + c5))).heap.size (W3.setCell ⟨w.heap.size + 1, 0, none⟩ (.int .i64 (1 + c5))) (((W3.setCell ⟨w.heap.size + 1, 0, none⟩ (.int .i64 (1 + c5))).alloc (.cells #[.int .i64 0] 3)).alloc (.cells #[.int .i64 0] 3)) := ((Below.refl _ _).alloc (Nat.le_refl _) _).alloc (by simp) _
    have HB3 := Lib.hid (HB0.out.trans (HBA.out.mono HB0.out.size))
    have HB5 := Lib.hid ((HB3.out.setCell (p := ⟨w.heap.size + 1, 0, none⟩) (by show w.heap.size ≤ w.heap.size + 1; omega) (.int .i64 (1 + c5))).trans (hb45.mono (by omega)))
    have HBB5 := Lib.hid (HBY.out.below HB5.out)
    have lift : ∀ (k : Nat) (o : Obj), W3.heap[k]? = some o → k ≠ w.heap.size + 1 → (((W3.setCell ⟨w.heap.size + 1, 0, none⟩ (.int .i64 (1 + c5))).alloc (.cells #[.int .i64 0] 3)).alloc (.cells #[.int .i64 0] 3)).heap[k]? = some o := fun k o hk hne => by
      have hlt := (Array.getElem?_eq_some_iff.1 hk).1
      exact (hb45.block k (by omega)).trans ((hset.block k hlt (by simp; omega)).trans hk)
    have k0 := lift _ _ ((HBA.out.block _ (by omega)).trans HF0.out) (by omega)
    have k2' := lift _ _ ((HBA.out.block _ (by omega)).trans HF2.out) (by omega)
    have kr := lift _ _ HPr.out (by omega)
    have k1' : (((W3.setCell ⟨w.heap.size + 1, 0, none⟩ (.int .i64 (1 + c5))).alloc (.cells #[.int .i64 0] 3)).alloc (.cells #[.int .i64 0] 3)).heap[w.heap.size + 1]? = some (.cells #[.int .i64 (1 + c5)] 3 (0, 0)) := (hb45.block _ (by omega)).trans ((heap_setCell_same _ _ _ _ _ _ HP1.out).trans rfl)
    have kn : (((W3.setCell ⟨w.heap.size + 1, 0, none⟩ (.int .i64 (1 + c5))).alloc (.cells #[.int .i64 0] 3)).alloc (.cells #[.int .i64 0] 3)).heap[w2.heap.size + 1]? = some (.cells #[.int .i64 0] 3 (0, 0)) := by
      rw [Below.heap_alloc _ _ _ (by simp; omega)]
      have := heap_alloc_new (W3.setCell ⟨w.heap.size + 1, 0, none⟩ (.int .i64 (1 + c5))) (.cells #[.int .i64 0] 3)
      rwa [hz4] at this
    have ka : (((W3.setCell ⟨w.heap.size + 1, 0, none⟩ (.int .i64 (1 + c5))).alloc (.cells #[.int .i64 0] 3)).alloc (.cells #[.int .i64 0] 3)).heap[w2.heap.size + 1 + 1]? = some (.cells #[.int .i64 0] 3 (0, 0)) := by
      have := heap_alloc_new ((W3.setCell ⟨w.heap.size + 1, 0, none⟩ (.int .i64 (1 + c5))).alloc (.cells #[.int .i64 0] 3)) (.cells #[.int .i64 0] 3)
      rwa [World.size_alloc, hz4] at this
    have HR5 : Hid (RnAt (((W3.setCell ⟨w.heap.size + 1, 0, none⟩ (.int .i64 (1 + c5))).alloc (.cells #[.int .i64 0] 3)).alloc (.cells #[.int .i64 0] 3)) w1.heap.size (Rn.start m a true true) (.slice none 0 0)) := Lib.hid ⟨lift _ _ HR3.out.blk (by have := HB1.out.size; omega), Row.nil _ _ _ _, by simp [Value.ownBlock]⟩
    have HL5 : Hid (LnAt (((W3.setCell ⟨w.heap.size + 1, 0, none⟩ (.int .i64 (1 + c5))).alloc (.cells #[.int .i64 0] 3)).alloc (.cells #[.int .i64 0] 3)) (w.heap.size + 3) (Ln.start m (dropF a) true true) (.slice none 0 0)) := Lib.hid ⟨lift _ _ HL3.out.blk (by omega), Row.nil _ _ _ _, by simp [Value.ownBlock]⟩
    have hz5 : (((W3.setCell ⟨w.heap.size + 1, 0, none⟩ (.int .i64 (1 + c5))).alloc (.cells #[.int .i64 0] 3)).alloc (.cells #[.int .i64 0] 3)).heap.size = w2.heap.size + 3 := by simp [World.size_alloc, hz4]
    have K0 := Lib.hid k0
    have K1 := Lib.hid k1'
    have K2 := Lib.hid k2'
    have KR := Lib.hid kr
    have KN := Lib.hid kn
    have KA := Lib.hid ka
    have c7 : (((W3.setCell ⟨w.heap.size + 1, 0, none⟩ (.int .i64 (1 + c5))).alloc (.cells #[.int .i64 0] 3)).alloc (.cells #[.int .i64 0] 3)).cell? ⟨w.heap.size, 0, none⟩ = some (.slice Ab bs.length cb) := (cell_of_row _ _ _ _ _ _ k0).trans rfl
    clear k0 k1' k2' kr kn ka lift hset hb45
    have z5 := hcr.1
    have z6 := hcr.2
    gi_wp2_with (gi_at_call 27; refine (HC.out _).mono ?_; rintro e w' ⟨rfl, rfl⟩)
    gi_wp2_with (gi_at_call 34; refine (HA.out (some ⟨w.heap.size + 3, 0, none⟩) bs _ _ HBB5.out (by omega)).mono ?_; rintro e w6 ⟨rfl, hb6, hbl, vc, hbx, hcopy⟩)
    have hz6 := hb6.size
    rw [hz5] at hbl hbx hcopy hz6
    have hK : EK w w6 ⟨w.heap.size, w.heap.size + 1, w.heap.size + 1 + 1, w.heap.size + 3, w1.heap.size, w2.heap.size, w2.heap.size + 1, w2.heap.size + 1 + 1, w2.heap.size + 3, w2.heap.size + 3 + 1⟩ := by
      have := (Array.getElem?_eq_some_iff.1 hbx).1
      exact ⟨by show w.heap.size ≤ w.heap.size; omega, by show w.heap.size < w.heap.size + 1; omega, by show w.heap.size + 1 < w.heap.size + 1 + 1; omega, by show w.heap.size + 1 + 1 < w.heap.size + 3; omega, by show w.heap.size + 3 < w1.heap.size; omega, by show w1.heap.size < w2.heap.size; omega, by show w2.heap.size < w2.heap.size + 1; omega, by show w2.heap.size + 1 < w2.heap.size + 1 + 1; omega, by show w2.heap.size + 1 + 1 < w2.heap.size + 3; omega, by show w2.heap.size + 3 < w2.heap.size + 3 + 1; omega, this⟩
    have lift6 : ∀ (k : Nat) (o : Obj), (((W3.setCell ⟨w.heap.size + 1, 0, none⟩ (.int .i64 (1 + c5))).alloc (.cells #[.int .i64 0] 3)).alloc (.cells #[.int .i64 0] 3)).heap[k]? = some o → w6.heap[k]? = some o := fun k o hk => (hb6.block k (Array.getElem?_eq_some_iff.1 hk).1).trans hk
    have HR6 := Lib.hid (HR5.out.below hb6)
    have HL6 := Lib.hid (HL5.out.below hb6)
    have hI0 : EN w w6 ⟨w.heap.size, w.heap.size + 1, w.heap.size + 1 + 1, w.heap.size + 3, w1.heap.size, w2.heap.size, w2.heap.size + 1, w2.heap.size + 1 + 1, w2.heap.size + 3, w2.heap.size + 3 + 1⟩ (1 + c5) (.slice Ab bs.length cb) bs (Rn.start m a true true) [] w6 := by
      refine ⟨Nat.le_refl _, HB5.out.trans (hb6.mono HB5.out.size), lift6 _ _ K0.out, lift6 _ _ K1.out, ⟨false, lift6 _ _ K2.out⟩, lift6 _ _ KR.out, lift6 _ _ KN.out, ⟨0, .slice none 0 0, lift6 _ _ KA.out, Nat.zero_le _, by rw [List.take_zero]; exact HR6.out, by rw [List.take_zero]; rfl, .inl rfl, fun j hj => by simp [Value.ownBlock] at hj⟩, fun j hj => ?_⟩
      have e := HL6.out.rowOf
      rw [show rowOf w6 (w.heap.size + 3) = none from e] at hj
      cases hj
    have hvl : ∀ k, vc.ownBlock = some k → w2.heap.size + 3 + 2 ≤ k ∧ k < w6.heap.size := fun k hk => Row.live hcopy hk
    have hbx6 := (Array.getElem?_eq_some_iff.1 hbx).1
    have hbl6 := (Array.getElem?_eq_some_iff.1 hbl).1
    have hT : ∀ j ∈ ([w.heap.size + 3, w2.heap.size + 3, w2.heap.size + 3 + 1] ++ vc.ownBlock.toList), j < w6.heap.size ∧ j ≠ w2.heap.size + 1 ∧ j ≠ w2.heap.size + 1 + 1 ∧ j ≠ w1.heap.size := by
      intro j hj
      simp only [List.cons_append, List.nil_append, List.mem_cons, Option.mem_toList] at hj
      rcases hj with rfl | rfl | rfl | hj
      · omega
      · omega
      · omega
      · have := hvl j hj; omega
    have hEC : EC ([w.heap.size + 3, w2.heap.size + 3, w2.heap.size + 3 + 1] ++ vc.ownBlock.toList) (w.heap.size + 3) (w2.heap.size + 3) (w2.heap.size + 3 + 1) w6.heap.size := ⟨by simp, by simp, by simp, by omega, by omega, by omega, fun j hj => (hT j hj).1⟩
    have hseq := HE.out ([w.heap.size + 3, w2.heap.size + 3, w2.heap.size + 3 + 1] ++ vc.ownBlock.toList) (w.heap.size + 3) (w2.heap.size + 3) (w2.heap.size + 3 + 1) (Ln.start m (dropF a) true true) bs w6.heap.size w6 rfl hEC HOK.out (fun W J hW hJ => ⟨hW.size, (hW.block _ hbl6).trans hbl, ⟨vc, (hW.block _ hbx6).trans hbx, by
      have := RowB.bytes (w := w6) (v := vc) (l := bs) (hcopy.weak (Nat.zero_le _))
      exact this.below hW, fun j hj => by
        have := hvl j hj
        exact ⟨by simp [hj], by omega, by omega, by omega⟩⟩, ⟨.slice none 0 0, by rw [List.take_zero]; exact HL6.out.below hW, fun j hj e => by simp [Value.ownBlock] at e⟩, ⟨[], rfl, hJ⟩⟩)
    have HKK := Lib.hid hK
    have HT := Lib.hid hT
    have hSIM := Lib.hid (Sim.start m a true true HMM.out.1)
    clear HR5 HL5 K0 K1 K2 KR KN KA c7 lift6 hbl hbx hcopy hb6 HBB5 hz5 hz4 hz3 hg3 hG3 hvl hbx6 hbl6 hK HR2 HL1 HL3 HR3 HPr HP1 HA HE HN HN2 HC p1 q1
    generalize hebx : w2.heap.size + 3 + 1 = bx at hseq hI0 HKK HT hEC ⊢
    generalize hebl : w2.heap.size + 3 = bl at hseq hI0 HKK HT hEC ⊢
    generalize heba : w2.heap.size + 1 + 1 = ba at hseq hI0 HKK HT hEC ⊢
    generalize hebn : w2.heap.size + 1 = bn at hseq hI0 HKK HT hEC ⊢
    generalize hebr : w2.heap.size = br at hseq hI0 HKK HT hEC ⊢
    generalize heG : w1.heap.size = G at hseq hI0 HKK HT hEC HL6 HR6 ⊢
    generalize heg : w.heap.size + 3 = g at hseq hI0 HKK HT hEC HL6 HR6 ⊢
    generalize hebo : w.heap.size + 1 + 1 = bo at hseq hI0 HKK HT hEC ⊢
    generalize hebm : w.heap.size + 1 = bm at hseq hI0 HKK HT hEC ⊢
    generalize hebb : w.heap.size = bb at hI0 HKK ⊢
    clear hebx hebl heba hebn hebr heG heg hebo hebm hT
    generalize hTT : ([g, bl, bx] ++ vc.ownBlock.toList) = T at hseq HT hEC
    have hM0 : ((([] : List Fv).length : Nat) : Int) < 1 + c5 := by simp; omega
    obtain ⟨E, hE⟩ : ∃ E : EB, E = ⟨bb, bm, bo, g, G, br, bn, ba, bl, bx⟩ := ⟨_, rfl⟩
    rw [← hE] at hI0 HKK
    have HEE := Lib.hid hE
    rename_i Kx hKx
    have HTAIL : Hid (∀ (D : Nat) (W : World) (n : Nat), Tl w w6 E (1 + c5) (.slice Ab bs.length cb) bs (Rn.start m a true true) D n W → Kx { tmps := #[.int .i64 m, .int .i64 a, .slice Ab bs.length cb, .int .i64 mst, .slice Am more.length cm, undef, undef, .pointer (some ⟨bb, 0, none⟩), .pointer (some ⟨bm, 0, none⟩), undef, .pointer (some ⟨bo, 0, none⟩), .pointer (some ⟨g, 0, none⟩), .pointer (some ⟨br, 0, none⟩), .pointer (some ⟨bn, 0, none⟩), .pointer (some ⟨ba, 0, none⟩), .func (.func 43) #[] #[.pointer (some ⟨bl, 0, none⟩), .pointer (some ⟨bx, 0, none⟩)], undef, undef, undef, undef, undef, .int .i64 m, .int .i64 a, .pointer (some ⟨g, 0, none⟩), .int .i64 m, .int .i64 a, .pointer (some ⟨G, 0, none⟩), .pointer (some ⟨g, 0, none⟩), .bool false, .bool false, .pointer (some ⟨G, 0, none⟩), .bool false, .bool false, undef, undef, undef, undef, undef, undef, undef, undef, undef, .int .i64 mst, .int .i64 c5, .int .i64 (1 + c5), .pointer (some ⟨g, 0, none⟩), .slice Ab bs.length cb, .func (.func 43) #[] #[.pointer (some ⟨bl, 0, none⟩), .pointer (some ⟨bx, 0, none⟩)], .func (.func 43) #[] #[.pointer (some ⟨bl, 0, none⟩), .pointer (some ⟨bx, 0, none⟩)], .bool false, .func (.func 43) #[] #[.pointer (some ⟨bl, 0, none⟩), .pointer (some ⟨bx, 0, none⟩)], undef, undef, undef, undef, undef, undef, undef, undef, undef, undef, undef, undef, undef, undef, undef, undef, undef, undef, undef, undef, undef, undef, undef, undef, undef, undef, undef, undef, undef, undef, undef, undef, undef, undef, undef, undef, undef, undef, undef, undef, undef, undef, undef, undef, undef, undef, undef, undef, undef, undef, undef, undef, undef, undef, undef, undef, undef, undef, undef, undef, undef, undef, undef, undef, undef, undef, undef, undef, undef, undef, undef, undef, undef, undef, undef], defers := [{ target := .collected D, args := #[] }] } W) := Lib.hid (by
      rintro D W n ⟨d, v, k, K, u, k1, k2, k3, k4, k5, k6, k7⟩
      refine hKx _ _ ?_
      rw [HFW.out]
      refine wpIn_wide.2 ?_
      have hcr' : 0 ≤ c5 ∧ c5 < 5 := hcr
      have ht := tail7 m a mst c5 bs more Ab Am cb cm w w6 E HKK.out HMM.out HBY.out hl HMO.out hml hcr' D W n d v k K u k1 k2 k3 k4 k5 k6 k7
      have hfin := fun e a' W' (h : Q7 w w6 E D e a' W') => fin7 (F := F) (n := 9) HKK.out h
      rw [HEE.out] at ht hfin
      clear k3 k4 k5 k6 k7
      exact Code.wp_mono hfin ht)
    clear hKx
    have hEg : E.g = g := by rw [HEE.out]
    refine wpIn_rangeFunc_R hro (by omega) (gf := 43) (lb := #[.pointer (some ⟨bl, 0, none⟩), .pointer (some ⟨bx, 0, none⟩)]) rfl h43 (enters_of Try.func43 (by kernel_rfl) rfl) hseq (fun hr k o h1 h2 => hr.other k o h1 h2) (fun h1 h2 => h1.trans hEC.mg h2) (fun W l o o' _ h1 h2 => Kp.putObj W l o o' h1 h2) (Below.refl _ _) (fun x => rfl)
      (fun pre W => EN w w6 E (1 + c5) (.slice Ab bs.length cb) bs (Rn.start m a true true) pre W ∧ (pre.length : Int) < 1 + c5)
      (fun s W => EX w w6 E (1 + c5) (.slice Ab bs.length cb) bs (Rn.start m a true true) s.1 s.2 W ∧ (s.1.length : Int) < 1 + c5)
      (fun s W => E2 w w6 E (1 + c5) (.slice Ab bs.length cb) bs (Rn.start m a true true) (fun x bf => { tmps := #[.int .i64 m, .int .i64 a, .slice Ab bs.length cb, .int .i64 mst, .slice Am more.length cm, undef, undef, .pointer (some ⟨bb, 0, none⟩), .pointer (some ⟨bm, 0, none⟩), undef, .pointer (some ⟨bo, 0, none⟩), .pointer (some ⟨g, 0, none⟩), .pointer (some ⟨br, 0, none⟩), .pointer (some ⟨bn, 0, none⟩), .pointer (some ⟨ba, 0, none⟩), .func (.func 43) #[] #[.pointer (some ⟨bl, 0, none⟩), .pointer (some ⟨bx, 0, none⟩)], .pointer (some ⟨bf, 0, none⟩), undef, undef, undef, undef, .int .i64 m, .int .i64 a, .pointer (some ⟨g, 0, none⟩), .int .i64 m, .int .i64 a, .pointer (some ⟨G, 0, none⟩), .pointer (some ⟨g, 0, none⟩), .bool false, .bool false, .pointer (some ⟨G, 0, none⟩), .bool false, .bool false, undef, undef, undef, undef, undef, undef, undef, undef, undef, .int .i64 mst, .int .i64 c5, .int .i64 (1 + c5), .pointer (some ⟨g, 0, none⟩), .slice Ab bs.length cb, .func (.func 43) #[] #[.pointer (some ⟨bl, 0, none⟩), .pointer (some ⟨bx, 0, none⟩)], .func (.func 43) #[] #[.pointer (some ⟨bl, 0, none⟩), .pointer (some ⟨bx, 0, none⟩)], .bool false, .func (.func 43) #[] #[.pointer (some ⟨bl, 0, none⟩), .pointer (some ⟨bx, 0, none⟩)], .agg #[.int .i64 x.n, x.u], undef, undef, undef, undef, undef, undef, undef, undef, undef, undef, undef, undef, undef, undef, undef, undef, undef, undef, undef, undef, undef, undef, undef, undef, undef, undef, undef, undef, undef, undef, undef, undef, undef, undef, undef, undef, undef, undef, undef, undef, undef, undef, undef, undef, undef, undef, undef, undef, undef, undef, undef, undef, undef, undef, undef, undef, undef, undef, undef, undef, undef, undef, undef, undef, undef, undef, undef, undef, undef, undef, undef, undef, undef, undef], defers := [] }) s.1 s.2.1 s.2.2 W ∧ (s.1.length : Int) < 1 + c5)
      (fun c pre W => c = .exit 0 ∧ EN w w6 E (1 + c5) (.slice Ab bs.length cb) bs (Rn.start m a true true) pre W ∧ (pre.length : Int) = 1 + c5)
      (OwnFrom.and (EN.own' HKK.out) (fun s W W' row hs _ _ => hs)) (OwnFrom.and (E2.own HKK.out) (fun s W W' row hs _ _ => hs)) (fun c => OwnFrom.and (fun s W W' row hs _ _ => hs) (OwnFrom.and (EN.own' HKK.out) (fun s W W' row hs _ _ => hs)))
      (fun s A B hs hr => ⟨hs.1.rl HKK.out (by rw [hE]; exact hr), hs.2⟩) (fun c s A B hs hr => ⟨hs.1, hs.2.1.rl HKK.out (by rw [hE]; exact hr), hs.2.2⟩)
      (fun pre x A B h1 h2 h3 h4 => ⟨EX.of HKK.out h1.1 (by rw [hE]; exact h2) (by rw [hE]; exact h3.1) (by rw [← (hSIM.out.feed bs).2]; exact h3.2), h1.2⟩) ⟨hI0, hM0⟩ ?assign ?body ?done ?stop
    case assign =>
      rintro ll pre ⟨xn, xu, xl⟩ W K' ⟨hex, hlt⟩ hK'
      obtain ⟨A2, cp2, hu, -, -⟩ := Row.slice hex.row
      dsimp only at hu
      subst hu
      have hxg := hex.en.size
      have hkk := HKK.out
      have HK := Lib.hid (hK' { tmps := #[.int .i64 m, .int .i64 a, .slice Ab bs.length cb, .int .i64 mst, .slice Am more.length cm, undef, undef, .pointer (some ⟨bb, 0, none⟩), .pointer (some ⟨bm, 0, none⟩), undef, .pointer (some ⟨bo, 0, none⟩), .pointer (some ⟨g, 0, none⟩), .pointer (some ⟨br, 0, none⟩), .pointer (some ⟨bn, 0, none⟩), .pointer (some ⟨ba, 0, none⟩), .func (.func 43) #[] #[.pointer (some ⟨bl, 0, none⟩), .pointer (some ⟨bx, 0, none⟩)], .pointer (some ⟨W.heap.size, 0, none⟩), undef, undef, undef, undef, .int .i64 m, .int .i64 a, .pointer (some ⟨g, 0, none⟩), .int .i64 m, .int .i64 a, .pointer (some ⟨G, 0, none⟩), .pointer (some ⟨g, 0, none⟩), .bool false, .bool false, .pointer (some ⟨G, 0, none⟩), .bool false, .bool false, undef, undef, undef, undef, undef, undef, undef, undef, undef, .int .i64 mst, .int .i64 c5, .int .i64 (1 + c5), .pointer (some ⟨g, 0, none⟩), .slice Ab bs.length cb, .func (.func 43) #[] #[.pointer (some ⟨bl, 0, none⟩), .pointer (some ⟨bx, 0, none⟩)], .func (.func 43) #[] #[.pointer (some ⟨bl, 0, none⟩), .pointer (some ⟨bx, 0, none⟩)], .bool false, .func (.func 43) #[] #[.pointer (some ⟨bl, 0, none⟩), .pointer (some ⟨bx, 0, none⟩)], .agg #[.int .i64 xn, .slice A2 xl.length cp2], undef, undef, undef, undef, undef, undef, undef, undef, undef, undef, undef, undef, undef, undef, undef, undef, undef, undef, undef, undef, undef, undef, undef, undef, undef, undef, undef, undef, undef, undef, undef, undef, undef, undef, undef, undef, undef, undef, undef, undef, undef, undef, undef, undef, undef, undef, undef, undef, undef, undef, undef, undef, undef, undef, undef, undef, undef, undef, undef, undef, undef, undef, undef, undef, undef, undef, undef, undef, undef, undef, undef, undef, undef, undef], defers := [] } (W.alloc (.cells #[.int .i64 xn, .slice A2 xl.length cp2] 24)) (KeepsFrom.of_grownBy (World.grownBy_alloc W _ none) (fun j e => by cases e)) (Kp.below ((Below.refl _ W).alloc (Nat.le_refl _) _)) ⟨EX.box HKK.out hex rfl, hlt⟩)
      clear hK' hex hlt
      unfold Fv.enc
      gi_wp2
      exact HK.out
    case body =>
      rintro ll pre ⟨xn, xu, xl⟩ a' W ⟨⟨hex, bf, ha, hbf, hbl, hbu⟩, hlt⟩
      dsimp only at hex ha hbf hlt
      subst ha
      obtain ⟨A2, cp2, hu, -, -⟩ := Row.slice hex.row
      dsimp only at hu
      subst hu
      obtain ⟨k0, u0, hc4, hLK, hL0⟩ := hex.start HKK.out
      have eb1 : E.bb = bb := by rw [HEE.out]
      have eb2 : E.bm = bm := by rw [HEE.out]
      have eb3 : E.br = br := by rw [HEE.out]
      have eb4 : E.bn = bn := by rw [HEE.out]
      have eb5 : E.ba = ba := by rw [HEE.out]
      have eb6 : E.G = G := by rw [HEE.out]
      have eb7 : E.g = g := by rw [HEE.out]
      have hek := HKK.out
      have n1 : ba < W.heap.size := by have h1 := hex.en.size; have h2 := hek.l8; have h3 := hek.l9; have h4 := hek.l10; omega
      have n2 : bn < ba := by have h2 := hek.l7; omega
      have n3 : bm < bn := by have h2 := hek.l2; have h3 := hek.l3; have h4 := hek.l4; have h5 := hek.l5; have h6 := hek.l6; omega
      have HL0 := Lib.hid hL0
      have HLK := Lib.hid hLK
      have HFA := Lib.hid (fun (k : Nat) (ok : Bool) (W' : World) h => L1.facts (ok := ok) (k := k) (W := W') hex hbf hbl hc4 (hbu u0 hc4) hLK h)
      have HDN := Lib.hid (fun (k : Nat) (W' W2 : World) h hb => L1.done (k := k) (W := W') (W2 := W2) hex hc4 hLK h hb)
      have HNX := Lib.hid hex.next
      have HLT := Lib.hid hlt
      clear hex hbf hbl hbu hc4 hL0 hLK hlt hek
      gi_wp2
      gi_loopw [18] (fun ov wr => ∃ (k : Nat) (ok : Bool), ov = .bool ok ∧ Hid (L1 w6 (W.alloc (.cells #[.int .i64 0, .slice none 0 0] 24)) E bs (Rn.start m a true true) pre ⟨xn, .slice A2 xl.length cp2, xl⟩ W.heap.size u0 k ok wr)) (fun _ wr => mk7 ba bs.length wr)
      case atStart => exact ⟨k0, false, rfl, HL0⟩
      case round =>
        clear HL0
        obtain ⟨k, okb, rfl, HL⟩ := hrel
        have hfa := HFA.out k okb wr HL.out
        rw [eb1, eb2, eb3, eb4, eb6] at hfa
        obtain ⟨hbW, f1, f2, f3, f4, f5, f6⟩ := hfa
        have hba := HL.out.ba
        rw [eb5] at hba
        have e1 : wr.cell? ⟨bb, 0, none⟩ = some (.slice Ab bs.length cb) := cell_of_row _ _ _ _ _ _ f1
        have e5 : wr.cell? ⟨ba, 0, none⟩ = some (.int .i64 k) := cell_of_row _ _ _ _ _ _ hba
        have hkle := HL.out.kle
        cases okb
        · by_cases hkl : k < bs.length
          · have hbd : Below wr.heap.size wr wr.drew := (Below.refl _ wr).drew
            have HLd := Lib.hid (HL.out.bel hbd)
            obtain ⟨b1, o1, rfl, d0⟩ := BytesAt.get (HBY.out.below (below_then hbW hbd)) hkl
            obtain ⟨c, hc⟩ : ∃ c, c = bs[k] := ⟨_, rfl⟩
            rw [← hc] at d0
            obtain ⟨uq, hln, hown⟩ := HLd.out.line
            obtain ⟨gn, gu, hg, hgu, -⟩ := HLd.out.gbx
            have hacc := Rn.feed_acc (Rn.start m a true true) (bs.take k)
            have hlen : ((Rn.start m a true true).feed (bs.take k)).1.B.length ≤ 1099511627776 := by
              have h1 := Rn.feed_len (Rn.start m a true true) (bs.take k)
              have h2 : (Rn.start m a true true).B.length = 0 := rfl
              rw [List.length_take] at h1
              omega
            have hmm := HMM.out
            have hm1 : 64 ≤ ((Rn.start m a true true).feed (bs.take k)).1.mru ∧ ((Rn.start m a true true).feed (bs.take k)).1.mru ≤ 16384 := by rw [hacc.1]; exact ⟨hmm.1, hmm.2.1⟩
            have ha1 : 0 ≤ ((Rn.start m a true true).feed (bs.take k)).1.accm ∧ ((Rn.start m a true true).feed (bs.take k)).1.accm ≤ 4294967295 := by rw [hacc.2]; exact hmm.2.2
            have HNXT := Lib.hid (fun (wx : World) (n : Int) (uu u' : Value) (okx : Bool) (q1 : ∃ A m c, uu = .slice A m c) q2 q3 => L1.next (wx := wx) (u' := u') (n := n) (uu := uu) (okb := okx) HLK.out HLd.out hkl HNX.out hown q1 q2 q3)
            have HBX := Lib.hid (fun (wx : World) (u' : Value) (r1 : Rn) (q : RnS wr.drew wx E.G uq u' r1) => L1.boxes HLK.out HLd.out hown q)
            rw [← hc] at HNXT
            rw [eb6] at hln HNXT HBX
            rw [eb5] at HNXT HBX
            have H35' := Lib.hid (fun n => CallsIn.inRound ll (H35.out n G wr.drew ((Rn.start m a true true).feed (bs.take k)).1 uq c hm1 ha1 hlen hln))
            have v1 : wr.drew.cell? ⟨bb, 0, none⟩ = some (.slice (some ⟨b1, o1, none⟩) bs.length cb) := e1
            have v2 : wr.drew.cell? ⟨br, 0, none⟩ = some (.pointer (some ⟨G, 0, none⟩)) := cell_of_row _ _ _ _ _ _ f3
            have v3 : wr.drew.cell? ⟨ba, 0, none⟩ = some (.int .i64 k) := e5
            have i0 : (0 : Int) ≤ (k : Int) := by omega
            have i1 : (k : Int) < (bs.length : Int) := by omega
            have HG := Lib.hid hg
            clear hc hacc hlen hmm hm1 ha1 hbd hln hown hg hgu hbW f1 f2 f3 f4 f5 f6 hba
            gi_wp2
            gi_region_with (first
              | (gi_at_call 35; refine (H35'.out _).mono ?_; rintro e wx ⟨n, uu, okx, u', rfl, hs, hcs⟩; have huu : ∃ A m c, uu = Value.slice A m c := by
                  rcases hcs with ⟨-, -, -, e⟩ | ⟨l, -, -, hr, -⟩
                  · exact ⟨_, _, _, e⟩
                  · obtain ⟨A, c, h, -, -⟩ := Row.slice hr
                    exact ⟨_, _, _, h⟩
                 obtain ⟨A3, m3, c3, rfl⟩ := huu
                 have HN := Lib.hid (HNXT.out wx n _ u' okx ⟨_, _, _, rfl⟩ hs hcs)
                 obtain ⟨q1, q2⟩ := HBX.out wx u' _ hs
                 rw [HG.out] at q1
                 have s1 : wx.cell? ⟨W.heap.size, 0, none⟩ = some (.int .i64 gn) := cell_of_row _ _ _ _ _ _ q1
                 have s2 : wx.cell? ⟨W.heap.size, 1, none⟩ = some gu := cell_of_row _ _ _ _ _ _ q1
                 have s3 : wx.frozen? ⟨W.heap.size, 0, none⟩ = false := frozen_of_row _ _ _ _ _ q1
                 have s4 : wx.frozen? ⟨W.heap.size, 1, none⟩ = false := frozen_of_row _ _ _ _ _ q1
                 have q3 : ((wx.setCell ⟨W.heap.size, 0, none⟩ (.int .i64 n)).setCell ⟨W.heap.size, 1, none⟩ (.slice A3 m3 c3)).heap[ba]? = some (.cells #[.int .i64 k] 3 (0, 0)) := (heap_setCell_other _ _ _ _ (show ba ≠ W.heap.size by omega)).trans ((heap_setCell_other _ _ _ _ (show ba ≠ W.heap.size by omega)).trans q2)
                 have s5 : ((wx.setCell ⟨W.heap.size, 0, none⟩ (.int .i64 n)).setCell ⟨W.heap.size, 1, none⟩ (.slice A3 m3 c3)).cell? ⟨ba, 0, none⟩ = some (.int .i64 k) := cell_of_row _ _ _ _ _ _ q3
                 have s6 : ((wx.setCell ⟨W.heap.size, 0, none⟩ (.int .i64 n)).setCell ⟨W.heap.size, 1, none⟩ (.slice A3 m3 c3)).frozen? ⟨ba, 0, none⟩ = false := frozen_of_row _ _ _ _ _ q3
                 clear hs hcs q1 q2 q3))
            all_goals gi_wp2
            all_goals go_roundw
            all_goals first
              | exact ⟨k + 1, okx, rfl, HN⟩
              | (have m1 := HL.out.meas; have m2 := HN.out.meas; rw [eb5] at m1 m2; refine Nat.lt_of_le_of_lt (Nat.le_of_eq m2) ?_; rw [m1]; omega)
          · exfalso
            obtain rfl : k = bs.length := by omega
            rcases HL.out.seq with q | q
            · refine Rn.feed_more (Rn.start m a true true) bs (pre.map Fv.fr) _ ?_ (by rw [List.length_map]; exact HNX.out)
              have := q.2
              rwa [List.take_length] at this
            · exact absurd q.1 (by simp)
        · obtain ⟨gn, gu, hg, -, hgr0⟩ := HL.out.gbx
          obtain ⟨hgn, hgr⟩ := hgr0 rfl
          clear hgr0
          have hgn2 : xn = gn := hgn.symm
          subst hgn2
          obtain ⟨A3, c3, rfl, -, -⟩ := Row.slice hgr
          have y1 : wr.cell? ⟨bf, 0, none⟩ = some (.int .i64 xn) := cell_of_row _ _ _ _ _ _ f5
          have y2 : wr.cell? ⟨bf, 1, none⟩ = some (.slice A2 xl.length cp2) := cell_of_row _ _ _ _ _ _ f5
          have hb1 : Below wr.heap.size wr (wr.alloc (.cells #[.int .i64 xn, .slice A2 xl.length cp2] 24)) := (Below.refl _ _).alloc (Nat.le_refl _) _
          have hb2 : Below (wr.alloc (.cells #[.int .i64 xn, .slice A2 xl.length cp2] 24)).heap.size (wr.alloc (.cells #[.int .i64 xn, .slice A2 xl.length cp2] 24)) ((wr.alloc (.cells #[.int .i64 xn, .slice A2 xl.length cp2] 24)).alloc (.cells #[.int .i64 xn, .slice A3 xl.length c3] 24)) := (Below.refl _ _).alloc (Nat.le_refl _) _
          have y3 : (wr.alloc (.cells #[.int .i64 xn, .slice A2 xl.length cp2] 24)).cell? ⟨W.heap.size, 0, none⟩ = some (.int .i64 xn) := cell_of_row _ _ _ _ _ _ ((hb1.block _ (Array.getElem?_eq_some_iff.1 hg).1).trans hg)
          have y4 : (wr.alloc (.cells #[.int .i64 xn, .slice A2 xl.length cp2] 24)).cell? ⟨W.heap.size, 1, none⟩ = some (.slice A3 xl.length c3) := cell_of_row _ _ _ _ _ _ ((hb1.block _ (Array.getElem?_eq_some_iff.1 hg).1).trans hg)
          have hA := (frame_one (n := xn) (show BytesAt wr (.slice A2 xl.length cp2) xl from RowB.bytes (f6.weak (Nat.zero_le _)))).below hb2
          have hB := frame_one (n := xn) (show BytesAt (wr.alloc (.cells #[.int .i64 xn, .slice A2 xl.length cp2] 24)) (.slice A3 xl.length c3) xl from (RowB.bytes (hgr.weak (Nat.zero_le _)) : BytesAt wr _ xl).below hb1)
          have H24' := Lib.hid (fun n => CallsIn.inRound ll (H24.out n _ _ _ _ _ hA hB rfl))
          rw [World.size_alloc] at H24'
          have HBB := Lib.hid (below_then hb1 hb2)
          have F2 := Lib.hid f2
          have F4 := Lib.hid f4
          have hpl : pre.length + 1 = (pre ++ [(⟨xn, .slice A2 xl.length cp2, xl⟩ : Fv)]).length := by simp
          have i2 : (pre.length : Int) < 1 + c5 := HLT.out
          clear hb1 hb2 hA hB hg hgr f1 f2 f3 f4 f5 f6 hba
          have i3 : (0 : Int) ≤ (pre.length : Int) := by omega
          have HEND := Lib.hid (fun W2 (h : Below wr.heap.size wr W2) => HDN.out k wr W2 HL.out h)
          rw [show ((pre.length + 1 : Nat) : Int) = (pre.length : Int) + 1 from rfl, eb4] at HEND
          have n4 : bm ≠ bn := by omega
          by_cases hM : 1 + c5 ≤ (pre.length : Int) + 1
          all_goals gi_wp2_with (gi_at_call 24; refine (H24'.out _).mono ?_; rintro e w9 ⟨rfl, hb9⟩; have HB9 := Lib.hid (below_then HBB.out hb9); have q4 := (HB9.out.block bn (Array.getElem?_eq_some_iff.1 F4.out).1).trans F4.out; have q2 := (HB9.out.block bm (Array.getElem?_eq_some_iff.1 F2.out).1).trans F2.out; have t1 : w9.cell? ⟨bn, 0, none⟩ = some (.int .i64 pre.length) := cell_of_row _ _ _ _ _ _ q4; have t2 : w9.frozen? ⟨bn, 0, none⟩ = false := frozen_of_row _ _ _ _ _ q4; have t3 : (w9.setCell ⟨bn, 0, none⟩ (.int .i64 ((pre.length : Int) + 1))).cell? ⟨bn, 0, none⟩ = some (.int .i64 ((pre.length : Int) + 1)) := World.cell?_setCell_same _ _ _ t1; have t4 : (w9.setCell ⟨bn, 0, none⟩ (.int .i64 ((pre.length : Int) + 1))).cell? ⟨bm, 0, none⟩ = some (.int .i64 (1 + c5)) := cell_of_row _ _ _ _ _ _ ((heap_setCell_other _ _ _ _ n4).trans q2); clear hb9 q4 q2)
          all_goals have hend := HEND.out w9 HB9.out
          all_goals have hkp := hend.2.2 T (fun j hj => by
            have := HT.out j hj
            exact ⟨this.1, this.2.1, by rw [eb5]; exact this.2.2.1, by rw [eb6]; exact this.2.2.2⟩)
          all_goals rw [eb7] at hkp
          all_goals first
            | exact ⟨hend.2.1, hkp, rfl, hend.1, by simp; omega⟩
            | exact ⟨hend.2.1, hkp, hend.1, by simp; omega⟩
    case done =>
      rintro D xs W W0 hD hS ⟨l, o, o', hl1, hl2, ho, hW⟩ ⟨hI, hM⟩ hD2
      rw [← hEg] at hS
      have HT := Lib.hid (HTAIL.out D W _ (done7 HKK.out hSIM.out HOK.out hD hS hl2 ho hW hI hM hD2))
      clear hS hW hI hD2
      exact HT.out
    case stop =>
      rintro D c xs W W0 hD hS ⟨l, o, o', hl1, hl2, ho, hW⟩ ⟨rfl, hI, hM⟩ hD2
      rw [← hEg] at hS
      have HT := Lib.hid (HTAIL.out D W _ (stop7 HKK.out hSIM.out HOK.out hD hS hl2 ho hW hI hM hD2))
      clear hS hW hI hD2
      gi_wp2
      exact HT.out
end Go.Proofs.Ytedhldcoddbbdaa.F
