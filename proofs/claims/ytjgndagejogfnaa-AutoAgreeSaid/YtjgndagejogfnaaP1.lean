import Derived.Test.YtjgndagejogfnaaL9
set_option linter.unusedVariables false
set_option linter.unusedSimpArgs false
namespace Go.Proofs.Ytjgndagejogfnaa.F
open Go.RowKit Go.Proofs.Ytjgndagejogfnaa.K
theorem law_nil (ev : Int) (w : World) (hw : (Lit.int .i64 ev).wf = true) : Calls Try.prog 10 #[.int .i64 ev] w fun e w' => e = .returned (.bool true) ∧ Below w.heap.size w w' := by
  clear hw
  go_enter Try.func10, Try.ntmps10
  go_wp2_with fail
  refine (do30_nil ev _).mono ?_
  rintro e w1 ⟨rfl, rfl⟩
  go_wp2_with fail
  refine (timeout29_nil _).mono ?_
  rintro e w1 ⟨rfl, rfl⟩
  go_wp2_with fail
  refine (state33_nil _).mono ?_
  rintro e w1 ⟨rfl, rfl⟩
  go_wp2_with fail
  refine (count32_nil _).mono ?_
  rintro e w1 ⟨rfl, rfl⟩
  go_wp2_with fail
  refine (running31_nil _).mono ?_
  rintro e w1 ⟨rfl, rfl⟩
  go_wp2_with fail
  refine (copy36_nil _).mono ?_
  rintro e w1 ⟨rfl, rfl⟩
  go_wp2_with fail
  refine (awake _).mono ?_
  rintro e w1 ⟨rfl, bb⟩
  go_wp2
  go_ret
  exact ⟨rfl, bb⟩
theorem numbers_same (a : List Int) (va vb : Value) (w : World) (h : IntsAt w va a) (h' : IntsAt w vb a) : Calls Try.prog 14 #[va, vb] w fun e w' => e = .returned (.bool true) ∧ ∃ n, w' = w.drewN n :=
  (numbers14 a a va vb w h h').mono fun e w' ⟨h1, h2⟩ => ⟨by rw [h1]; simp, h2⟩
theorem below_self_drewN (w : World) (n : Nat) : Below w.heap.size w (w.drewN n) := below_drewN (Below.refl _ _) n
set_option maxRecDepth 100000 in
set_option maxHeartbeats 4000000 in
theorem law_whole (f : Int) (w : World) (hw : (Lit.int .i64 f).wf = true) : Calls Try.prog 3 #[.int .i64 f] w fun e w' => e = .returned (.bool true) ∧ Below w.heap.size w w' := by
  have hf : -9223372036854775808 ≤ f ∧ f ≤ 9223372036854775807 := by simpa [Lit.wf, IntKind.min, IntKind.max, IntKind.signed, IntKind.bits] using hw
  obtain ⟨t, ht⟩ : ∃ t, t = f.tmod 160 := ⟨_, rfl⟩
  have ht1 : -160 < t ∧ t < 160 := by
    have h1 := Int.natAbs_tmod f 160
    have h2 : f.natAbs % (160 : Int).natAbs < 160 := Nat.mod_lt _ (by decide)
    omega
  have HT := Lib.hid ht
  go_enter Try.func3, Try.ntmps3
  go_wp2
  go_loopw [3, 4, 5, 6, 7, 8, 9, 10] (fun i _ _ _ _ _ _ _ wr => ∃ k : Nat, k ≤ 160 ∧ i = .int .i64 k ∧ Below w.heap.size w wr) (fun i _ _ _ _ _ _ _ _ => 160 - (intOf i).toNat)
  case atStart => exact ⟨0, by omega, rfl, Below.refl _ _⟩
  case round =>
    obtain ⟨k, hk, rfl, hB⟩ := hrel
    by_cases hlt : k < 160
    · go_wp2_with fail
      refine (next12 _ _ _).mono ?_
      rintro e w1 ⟨⟨v, rfl, hv⟩, hb⟩
      have hB1 := below_then hB hb
      obtain ⟨⟨n, L, er⟩, hn⟩ : ∃ r, r = nx (wrap64 (((wrap64 ((↑k + f.tmod 160).tmod 160 + 160)).tmod 160).tdiv 16)) ((wrap64 ((↑k + f.tmod 160).tmod 160 + 160)).tmod 16) := ⟨_, rfl⟩
      rw [← hn] at hv ⊢
      have HN := Lib.hid hn
      have HV := Lib.hid (Own.ints hv)
      clear hn hb hv
      go_wp2_with fail
      refine (refNext _ _ _).mono ?_
      rintro e w2 ⟨⟨u, rfl, hu⟩, hb⟩
      rw [← HN.out] at hu ⊢
      have hB2 := below_then hB1 hb
      have HV2 := Lib.hid (HV.out.below hb)
      have HU := Lib.hid (Own.ints hu)
      clear hu hb HN HV
      go_wp2_with fail
      refine (numbers_same L _ _ _ HV2.out HU.out).mono ?_
      rintro e w3 ⟨rfl, nn, rfl⟩
      go_wp2
      go_roundw
      case rel => exact ⟨k + 1, by omega, by go_num, below_drewN hB2 _⟩
      case measure => simp [intOf]; omega
    · obtain rfl : k = 160 := by omega
      go_wp2_with fail
      refine (awake _).mono ?_
      rintro e w1 ⟨rfl, bb⟩
      go_wp2
      go_ret
      exact ⟨rfl, below_then hB bb⟩
theorem SendsR.open {l : List Int} {w : World} {e : Ending} {w' : World} (h : SendsR l w e w') : ∃ A m c, e = .returned (.slice A m c) ∧ Own w.heap.size w' (.slice A m c) (sends l) ∧ Below w.heap.size w w' := by
  obtain ⟨⟨v, rfl, hv⟩, hb⟩ := h
  obtain ⟨A, c, rfl, -⟩ := (Own.ints hv).at_
  exact ⟨A, _, c, rfl, hv, hb⟩
set_option maxHeartbeats 4000000 in
theorem law_sends (l : List Int) (v : Value) (w : World) (h : IntsAt w v l) (hl : l.length ≤ 17592186043904) : Calls Try.prog 6 #[v] w fun e w' => e = .returned (.bool true) ∧ Below w.heap.size w w' := by
  have HI := Lib.hid h
  obtain ⟨A, cap, rfl, k1, k2, -⟩ := h
  unfold maxLen at k2
  go_enter Try.func6, Try.ntmps6
  go_wp2_with (at_builtin; refine wpList_app elI rfl _ _ rfl w.heap.size _ 0 [] rfl (World.ownsRow_nil _ _ _ _) _ _ _ rfl HI.out.src (by simp [maxLen]; omega) (by omega) (Nat.le_refl _) ?_)
  intro v1 w1 ho1 hg1 hn1
  have b1 : Below w.heap.size w w1 := (Below.refl _ w).grown hg1 (Nat.le_refl _) (by simp [Value.ownBlock])
  have o1 : Own w.heap.size w1 v1 l := by unfold Own; simpa using ho1
  obtain ⟨A1, cp1, rfl, -⟩ := o1.ints.at_
  have O1 := Lib.hid o1.ints
  clear ho1 hg1 hn1 o1
  go_wp2_with fail
  refine (sends24 l _ _ O1.out hl).mono ?_
  intro e w2 hr
  obtain ⟨A2, m2, c2, rfl, o2, bb⟩ := hr.open
  have b2 := below_then b1 bb
  have O2 := Lib.hid o2.ints
  have O1' := Lib.hid (O1.out.below bb)
  clear hr o2 bb O1
  go_wp2_with fail
  refine (sends25 l _ _ (HI.out.below b2) hl).mono ?_
  intro e w3 hr
  obtain ⟨A3, m3, c3, rfl, o3, bb⟩ := hr.open
  have b3 := below_then b2 bb
  have O3 := Lib.hid o3.ints
  have O2' := Lib.hid (O2.out.below bb)
  have O1 := Lib.hid (O1'.out.below bb)
  clear hr o3 bb O1' O2
  go_wp2_with fail
  refine (numbers_same _ _ _ _ O2'.out O3.out).mono ?_
  rintro e w4 ⟨rfl, n4, rfl⟩
  have b4 := below_drewN b3 n4
  have O1' := Lib.hid (O1.out.below (below_self_drewN w3 n4))
  clear O2' O3 b3 O1
  generalize w3.drewN n4 = W at *
  go_wp2_with fail
  refine (begins26 l _ _ O1'.out).mono ?_
  rintro e w5 ⟨rfl, bb⟩
  have b5 := below_then b4 bb
  have O1 := Lib.hid (O1'.out.below bb)
  clear O1' bb b4
  go_wp2_with fail
  refine (begins27 l _ _ (HI.out.below b5)).mono ?_
  rintro e w6 ⟨rfl, bb⟩
  have b6 := below_then b5 bb
  have O1' := Lib.hid (O1.out.below bb)
  clear O1 bb b5
  cases hbg : begins l
  all_goals
    go_wp2_with fail
    refine (numbers_same l _ _ _ O1'.out (HI.out.below b6)).mono ?_
    rintro e w7 ⟨rfl, n7, rfl⟩
    have b7 := below_drewN b6 n7
    clear b6 O1'
    generalize w6.drewN n7 = W at *
    go_wp2_with fail
    refine (awake _).mono ?_
    rintro e w8 ⟨rfl, bb⟩
    go_wp2
    go_ret
    exact ⟨rfl, below_then b7 bb⟩
end Go.Proofs.Ytjgndagejogfnaa.F
