import Derived.Test.YtjgndagejogfnaaU3
set_option linter.unusedVariables false
set_option linter.unusedSimpArgs false
namespace Go.Proofs.Ytjgndagejogfnaa.F
open Go.RowKit Go.Proofs.Ytjgndagejogfnaa.K
theorem elI : ElemT Try.prog 22 3 1 8 (.int .i64 0) := elemT_of Try.underlying22 (by kernel_rfl) rfl (by decide)
theorem refNext_out (s e : Int) (w : World) (h : ¬ inT s e) : Calls Try.prog 13 #[.int .i64 s, .int .i64 e] w (NextR s e w) := by
  have hn : nx s e = (0, [], 1) := if_neg h
  have fin : NextR s e w (.returned (.tuple #[.int .i64 0, .slice none 0 0, .int .i64 1])) w := ⟨⟨_, by rw [hn], by rw [hn]; exact own_nil _ _⟩, Below.refl _ _⟩
  clear hn
  unfold inT at h
  by_cases a : s < 0
  · go_enter Try.func13, Try.ntmps13
    go_wp2
    go_ret3
    exact fin
  · by_cases b : 9 < s
    · go_enter Try.func13, Try.ntmps13
      go_wp2
      go_ret3
      exact fin
    · by_cases c : e < 0
      · go_enter Try.func13, Try.ntmps13
        go_wp2
        go_ret3
        exact fin
      · have d : 15 < e := by omega
        go_enter Try.func13, Try.ntmps13
        go_wp2
        go_ret3
        exact fin
set_option maxHeartbeats 4000000 in
theorem refNext (s e : Int) (w : World) : Calls Try.prog 13 #[.int .i64 s, .int .i64 e] w (NextR s e w) := by
  by_cases hi : inT s e
  · have hi' := hi
    obtain ⟨h0, h9, h1, h15⟩ := hi'
    have hn : nx s e = match ent s e with | none => (0, [], 290) | some (t, l) => (t, l, 0) := if_pos hi
    have hS := refS_at s e hi
    cases he : ent s e with
    | none =>
      rw [he] at hn
      rw [cell_none hi he] at hS
      have fin : ∀ w', Below w.heap.size w w' → NextR s e w (.returned (.tuple #[.int .i64 0, .slice none 0 0, .int .i64 290])) w' := fun w' hb => ⟨⟨_, by rw [hn], by rw [hn]; exact own_nil _ _⟩, hb⟩
      clear hn he
      go_enter Try.func13, Try.ntmps13
      go_wp2_with fail
      refine (refRow e h1 h15 _).mono ?_
      rintro r w1 ⟨g, rfl, hg, hB⟩
      have hc := (cell_of_row _ _ s.toNat _ _ _ hg).trans hS
      have hs1 : s < 10 := by omega
      clear hg hS hi h9 h15
      go_wp2
      go_ret3
      exact fin _ hB
    | some y =>
      obtain ⟨t, a⟩ := y
      rw [he] at hn
      obtain ⟨hne, hp, hd, hl1, hl2⟩ := cell_some hi he
      have ht := ent_to hi he
      generalize cellT s e = l at *
      have fin : ∀ w' v, Below w.heap.size w w' → Own w.heap.size w' v a → NextR s e w (.returned (.tuple #[.int .i64 t, v, .int .i64 0])) w' := fun w' v hb ho => ⟨⟨_, by rw [hn], by rw [hn]; exact ho⟩, hb⟩
      clear hn he
      have hsz : (⟨l.toArray⟩ : ByteArray).size = l.length := rfl
      have hdata : (⟨l.toArray⟩ : ByteArray).data.toList = l := rfl
      have hnb : ((⟨l.toArray⟩ : ByteArray).toList == [45]) = false := by
        rw [ByteArray.toList_eq]
        simpa using hne
      generalize hSS : (⟨l.toArray⟩ : ByteArray) = S at *
      clear hSS hne
      subst hdata
      have k1 : 1 ≤ S.size := by omega
      have k2 : S.size ≤ 20 := by omega
      have Hp := Lib.hid hp
      have Hd := Lib.hid hd
      have Hsz := Lib.hid hsz
      clear hp hd hsz hl1 hl2
      have t0 := ht.1
      have t9 := ht.2
      clear ht
      go_enter Try.func13, Try.ntmps13
      go_wp2_with fail
      refine (refRow e h1 h15 _).mono ?_
      rintro r w1 ⟨g, rfl, hg, hB⟩
      have hc := (cell_of_row _ _ s.toNat _ _ _ hg).trans hS
      have hs1 : s < 10 := by omega
      clear hg hS hi h9 h15
      go_wp2
      go_loopw [8, 9, 10, 34] (fun o f _ i wr => ∃ (k : Nat), k ≤ S.size ∧ i = .int .i64 k ∧ f = .int .i64 (pTo S.data.toList k).2 ∧ Hid (Own w1.heap.size wr o (pTo S.data.toList k).1) ∧ Below w.heap.size w wr ∧ w1.heap.size ≤ wr.heap.size) (fun _ _ _ i _ => S.size - (intOf i).toNat)
      case atStart => exact ⟨0, by omega, rfl, rfl, Lib.hid (own_nil _ _), hB, Nat.le_refl _⟩
      case round =>
        obtain ⟨k, hk, rfl, rfl, ho, hB', hbw⟩ := hrel
        obtain ⟨hf, hol⟩ := pTo_le S.data.toList k
        obtain ⟨P, hP⟩ : ∃ P, P = pTo S.data.toList k := ⟨_, rfl⟩
        rw [← hP] at ho hf hol ⊢
        obtain ⟨L, f⟩ := P
        simp only at ho hf hol
        have HP := Lib.hid hP
        clear hP
        by_cases hlt : k < S.size
        · have hgk : S.data.toList.getD k 0 = S[k] := by
            rw [List.getD_eq_getElem?_getD, List.getElem?_eq_getElem (by rw [← Hsz.out]; exact hlt)]
            rfl
          have hsep : S[k] = 32 ∨ S[k] = 47 ∨ (S[k] ≠ 32 ∧ S[k] ≠ 47) := by
            by_cases a : S[k] = 32
            · exact .inl a
            · by_cases b : S[k] = 47
              · exact .inr (.inl b)
              · exact .inr (.inr ⟨a, b⟩)
          rcases hsep with hc1 | hc1 | ⟨hc1, hc2⟩
          · have q1 : ((S[k].toNat : Int) == 32) = true := by rw [hc1]; rfl
            have hs : ∀ P, P = (L, f) → pstep S.data.toList P k = (if f < k then L ++ [wordOf ((S.data.toList.drop f).take (k - f))] else L, k + 1) := by
              rintro P rfl
              unfold pstep
              rw [if_pos (by rw [hgk, hc1]; decide)]
            have Hs := Lib.hid (show pTo S.data.toList (k + 1) = _ from (pTo_succ _ _).trans (hs _ HP.out.symm))
            clear hs hc1 hgk
            by_cases hfk : f < k
            · rw [if_pos hfk] at Hs
              go_wp2_with fail
              refine (action40 _ _).mono ?_
              rintro e w2 ⟨rfl, hb2⟩
              have ho1 := ho.out.below hb2
              unfold Own at ho1
              have ho2 := World.ownsRow.alloc ho1 (.cells #[.int .i64 (wordOf ((S.data.toList.drop f).take (k - f)))] 3)
              clear ho1
              have hB2 := below_then hB' hb2
              have hsz2 := hb2.size
              have hl1 : w1.heap.size ≤ wr.heap.size := hbw
              go_wp2_with (at_builtin; refine wpList_app elI rfl _ _ rfl w1.heap.size _ _ _ rfl ho2 _ _ _ rfl (src_one _ _ _ rfl) (by simp [maxLen]; omega) (by omega) (by simp; omega) ?_)
              intro v3 w3 ho3 hg3 hn3
              have hB3 := (hB2.alloc hB2.size (.cells #[.int .i64 (wordOf ((S.data.toList.drop f).take (k - f)))] 3)).grown hg3 (by have := hB2.size; simp; omega) (fun k hk => Nat.le_trans hB.size (ho2.lt k hk).1)
              have hbw3 := hg3.size
              clear hg3 hn3
              have ho4 : Own w1.heap.size w3 v3 (L ++ [wordOf ((S.data.toList.drop f).take (k - f))]) := by
                unfold Own
                simpa using ho3
              have HO := Lib.hid ho4
              clear ho3 ho4 ho2
              go_wp2
              go_roundw
              case rel => exact ⟨k + 1, by omega, by go_num, by rw [Hs.out]; go_num, by rw [Hs.out]; exact HO, hB3, by simp at hbw3; omega⟩
              case measure => simp [intOf]; omega
            · rw [if_neg hfk] at Hs
              go_wp2_with fail
              go_roundw
              case rel => exact ⟨k + 1, by omega, by go_num, by rw [Hs.out]; go_num, by rw [Hs.out]; exact ho, hB', hbw⟩
              case measure => simp [intOf]; omega
          · have q0 : ((S[k].toNat : Int) == 32) = false := by rw [hc1]; rfl
            have q1 : ((S[k].toNat : Int) == 47) = true := by rw [hc1]; rfl
            have hs : ∀ P, P = (L, f) → pstep S.data.toList P k = (if f < k then L ++ [wordOf ((S.data.toList.drop f).take (k - f))] else L, k + 1) := by
              rintro P rfl
              unfold pstep
              rw [if_pos (by rw [hgk, hc1]; decide)]
            have Hs := Lib.hid (show pTo S.data.toList (k + 1) = _ from (pTo_succ _ _).trans (hs _ HP.out.symm))
            clear hs hc1 hgk
            by_cases hfk : f < k
            · rw [if_pos hfk] at Hs
              go_wp2_with fail
              refine (action40 _ _).mono ?_
              rintro e w2 ⟨rfl, hb2⟩
              have ho1 := ho.out.below hb2
              unfold Own at ho1
              have ho2 := World.ownsRow.alloc ho1 (.cells #[.int .i64 (wordOf ((S.data.toList.drop f).take (k - f)))] 3)
              clear ho1
              have hB2 := below_then hB' hb2
              have hsz2 := hb2.size
              have hl1 : w1.heap.size ≤ wr.heap.size := hbw
              go_wp2_with (at_builtin; refine wpList_app elI rfl _ _ rfl w1.heap.size _ _ _ rfl ho2 _ _ _ rfl (src_one _ _ _ rfl) (by simp [maxLen]; omega) (by omega) (by simp; omega) ?_)
              intro v3 w3 ho3 hg3 hn3
              have hB3 := (hB2.alloc hB2.size (.cells #[.int .i64 (wordOf ((S.data.toList.drop f).take (k - f)))] 3)).grown hg3 (by have := hB2.size; simp; omega) (fun k hk => Nat.le_trans hB.size (ho2.lt k hk).1)
              have hbw3 := hg3.size
              clear hg3 hn3
              have ho4 : Own w1.heap.size w3 v3 (L ++ [wordOf ((S.data.toList.drop f).take (k - f))]) := by
                unfold Own
                simpa using ho3
              have HO := Lib.hid ho4
              clear ho3 ho4 ho2
              go_wp2
              go_roundw
              case rel => exact ⟨k + 1, by omega, by go_num, by rw [Hs.out]; go_num, by rw [Hs.out]; exact HO, hB3, by simp at hbw3; omega⟩
              case measure => simp [intOf]; omega
            · rw [if_neg hfk] at Hs
              go_wp2_with fail
              go_roundw
              case rel => exact ⟨k + 1, by omega, by go_num, by rw [Hs.out]; go_num, by rw [Hs.out]; exact ho, hB', hbw⟩
              case measure => simp [intOf]; omega
          · have q1 : ((S[k].toNat : Int) == 32) = false := by
              rw [beq_eq_false_iff_ne]
              intro e
              exact hc1 (UInt8.toNat_inj.1 (by simpa using (by omega : S[k].toNat = 32)))
            have q2 : ((S[k].toNat : Int) == 47) = false := by
              rw [beq_eq_false_iff_ne]
              intro e
              exact hc2 (UInt8.toNat_inj.1 (by simpa using (by omega : S[k].toNat = 47)))
            have hs : ∀ P, P = (L, f) → pstep S.data.toList P k = (L, f) := by
              rintro P rfl
              unfold pstep
              rw [if_neg (by rw [hgk]; simp [hc1, hc2])]
            have Hs := Lib.hid (show pTo S.data.toList (k + 1) = _ from (pTo_succ _ _).trans (hs _ HP.out.symm))
            clear hs hc1 hc2 hgk
            go_wp2_with fail
            go_roundw
            case rel => exact ⟨k + 1, by omega, by go_num, by rw [Hs.out], by rw [Hs.out]; exact ho, hB', hbw⟩
            case measure => simp [intOf]; omega
        · obtain rfl : k = S.size := by omega
          have hL : L = a := by
            have := Hp.out
            rw [← Hsz.out, ← HP.out] at this
            exact this
          subst hL
          have hd1 : ((S[S.size - 1]'(by omega)).toNat : Int) = 48 + t := by
            have h1 := Hd.out
            rw [← Hsz.out, List.getD_eq_getElem?_getD, List.getElem?_eq_getElem (by rw [← Hsz.out]; omega)] at h1
            exact h1
          have hL := Lib.hid (ho.out.weak hB.size)
          have i0 : (0 : Int) ≤ (S.size : Int) - 1 := by omega
          have i1 : ((S.size : Int) - 1).toNat = S.size - 1 := by omega
          have i2 : (48 : Int) + t - 48 = t := by omega
          go_wp2
          go_ret3
          exact fin _ _ hB' hL.out
  · exact refNext_out s e w hi
end Go.Proofs.Ytjgndagejogfnaa.F
