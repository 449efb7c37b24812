import Derived.Test.YtjgndagejogfnaaP2
import Derived.Test.YtjgndagejogfnaaS
import Derived.Lib.SmallJoins
import Derived.ChangeSame
set_option linter.unusedVariables false
set_option linter.unusedSimpArgs false
namespace Go.Proofs.Ytjgndagejogfnaa.F
open Go.RowKit Go.Proofs.Ytjgndagejogfnaa.K
open Go.ChangeShapes Go.WideShapes
theorem own_form {w : World} {base : Nat} {e : TypeId} {size : Nat} {v : Value} {n : Nat} {xs : List Value} (h : w.ownsRow base e size v n xs) (hn : 0 < n) : ∃ g cap, v = .slice (some ⟨g, 0, none⟩) n cap ∧ n ≤ cap ∧ cap ≤ maxLen := by
  rcases h.2 with ⟨-, h0⟩ | ⟨g, cap, cur, rfl, -, -, h1, h2, -⟩
  · omega
  · exact ⟨g, cap, rfl, h1, h2⟩
theorem neq_self_str (s : ByteArray) : (s.toList != s.toList) = false := by simp
set_option maxHeartbeats 4000000 in
theorem law_table (s e : Int) (w : World) (h1 : (Lit.int .i64 s).wf = true) (h2 : (Lit.int .i64 e).wf = true) : Calls Try.prog 5 #[.int .i64 s, .int .i64 e] w fun e w' => e = .returned (.bool true) ∧ Below w.heap.size w w' := by
  clear h1 h2
  obtain ⟨⟨n, L, er⟩, hn⟩ : ∃ r, r = nx s e := ⟨_, rfl⟩
  have HN := Lib.hid hn
  clear hn
  go_enter Try.func5, Try.ntmps5
  go_wp2_with fail
  refine (next12 s e _).mono ?_
  rintro r1 w1 ⟨⟨v1, rfl, o1⟩, b1⟩
  rw [← HN.out] at o1 ⊢
  have O1 := Lib.hid (show Own w.heap.size w1 v1 L from o1)
  have hgl := Lib.hid (fun g (e : v1.ownBlock = some g) => (World.ownsRow.lt O1.out g e).2)
  obtain ⟨A1, c1, rfl, kb1, kb2, kn1, -⟩ := O1.out.ints
  unfold maxLen at kb2
  clear o1
  go_wp2_with fail
  refine (next12 s e _).mono ?_
  rintro r2 w2 ⟨⟨v2, rfl, o2⟩, bb⟩
  rw [← HN.out] at o2 ⊢
  have O2 := Lib.hid (show Own w1.heap.size w2 v2 L from o2)
  have O1' := Lib.hid (O1.out.below bb)
  have b2 := below_then b1 bb
  have s2 := bb.size
  obtain ⟨A2, c2, rfl, -⟩ := O2.out.ints
  clear o2 bb O1
  go_wp2_with fail
  refine (refNext s e _).mono ?_
  rintro r3 w3 ⟨⟨v3, rfl, o3⟩, bb⟩
  rw [← HN.out] at o3 ⊢
  have O3 := Lib.hid (show Own w2.heap.size w3 v3 L from o3)
  have O1 := Lib.hid (O1'.out.below bb)
  have O2' := Lib.hid (O2.out.below bb)
  have b3 := below_then b2 bb
  have s3 := bb.size
  obtain ⟨A3, c3, rfl, -⟩ := O3.out.ints
  clear o3 bb O1' O2
  go_wp2_with fail
  refine (numbers_same L _ _ _ O1.out.ints O3.out.ints).mono ?_
  rintro r4 w4 ⟨rfl, k4, rfl⟩
  have bs := below_self_drewN w3 k4
  have P1 := Lib.hid (O1.out.below bs)
  have P2 := Lib.hid (O2'.out.below bs)
  have P3 := Lib.hid (O3.out.below bs)
  have b4 := below_drewN b3 k4
  clear O1 O2' O3 b3 bs
  generalize w3.drewN k4 = W at *
  go_wp2_with fail
  refine (stName18 s _).mono ?_
  rintro r5 w5 ⟨rfl, bb⟩
  have Q1 := Lib.hid (P1.out.below bb)
  have Q2 := Lib.hid (P2.out.below bb)
  have Q3 := Lib.hid (P3.out.below bb)
  have b5 := below_then b4 bb
  clear P1 P2 P3 bb
  go_wp2_with fail
  refine (stName19 s _).mono ?_
  rintro r6 w6 ⟨rfl, bb⟩
  have P1 := Lib.hid (Q1.out.below bb)
  have P2 := Lib.hid (Q2.out.below bb)
  have P3 := Lib.hid (Q3.out.below bb)
  have b6 := below_then b5 bb
  clear Q1 Q2 Q3 bb
  generalize stName s = N at *
  have qN := neq_self_str N
  go_wp2_with fail
  refine (evName20 e _).mono ?_
  rintro r7 w7 ⟨rfl, bb⟩
  have Q1 := Lib.hid (P1.out.below bb)
  have Q2 := Lib.hid (P2.out.below bb)
  have Q3 := Lib.hid (P3.out.below bb)
  have b7 := below_then b6 bb
  clear P1 P2 P3 bb
  go_wp2_with fail
  refine (evName21 e _).mono ?_
  rintro r8 w8 ⟨rfl, bb⟩
  have P1 := Lib.hid (Q1.out.below bb)
  have P2 := Lib.hid (Q2.out.below bb)
  have P3 := Lib.hid (Q3.out.below bb)
  have b8 := below_then b7 bb
  clear Q1 Q2 Q3 bb
  generalize evName e = M at *
  have qM := neq_self_str M
  go_wp2_with fail
  refine (runs22 s _).mono ?_
  rintro r9 w9 ⟨rfl, rfl⟩
  go_wp2_with fail
  refine (runs23 s _).mono ?_
  rintro r9 w9 ⟨rfl, rfl⟩
  generalize runs s = R at *
  have qR : (R != R) = false := by simp
  have hs8 : w.heap.size ≤ w8.heap.size := b8.size
  have KN := kn1
  go_wp2
  go_loopw [14, 73] (fun _ i wr => ∃ (k : Nat) (xs : List Value), k ≤ L.length ∧ i = .int .i64 k ∧ Hid (wr.ownsRow w.heap.size 3 1 (.slice A1 L.length c1) L.length xs) ∧ Hid (Own w1.heap.size wr (.slice A2 L.length c2) L) ∧ Hid (Own w2.heap.size wr (.slice A3 L.length c3) L) ∧ Below w.heap.size w wr) (fun _ i _ => L.length - (intOf i).toNat)
  case atStart => exact ⟨0, _, by omega, rfl, Lib.hid P1.out, P2, P3, b8⟩
  case round =>
    obtain ⟨k, xs, hk, rfl, h1, h2, h3, hB⟩ := hrel
    by_cases hlt : k < L.length
    · obtain ⟨ad, rfl⟩ := some_of KN hlt
      obtain ⟨g, cap, eg, -, -⟩ := own_form h1.out (by omega)
      cases eg
      have hx := h1.out.1
      have c := h1.out.cellAt k (by omega)
      rw [List.getElem?_eq_getElem (by rw [hx]; omega)] at c
      obtain ⟨u, hu⟩ : ∃ u, wr.cell? ⟨g, k, none⟩ = some u := ⟨_, c⟩
      clear c hx
      have f := h1.out.frozenAt k
      have st := h1.out.stored k (.int .i64 99)
      have hg1 := (h1.out.lt g rfl).1
      have hg2 := hgl.out g rfl
      have hi0 : (0 : Int) ≤ (k : Int) := by omega
      have hi1 : (k : Int) < (L.length : Int) := by omega
      have st1 := Lib.hid st.1
      have st2 := Lib.hid st.2
      clear st
      go_wp2_with fail
      go_roundw
      case rel => exact ⟨k + 1, _, by omega, by go_num, st1, Lib.hid (h2.out.kept st2.out (fun k e => by cases e; omega)), Lib.hid (h3.out.kept st2.out (fun k e => by cases e; omega)), hB.setCell hg1 _⟩
      case measure => simp [intOf]; omega
    · obtain rfl : k = L.length := by omega
      go_wp2_with fail
      refine (numbers_same L _ _ _ h2.out.ints h3.out.ints).mono ?_
      rintro r4 w4 ⟨rfl, k4, rfl⟩
      have b4 := below_drewN hB k4
      go_wp2_with fail
      refine (awake _).mono ?_
      rintro r5 w5 ⟨rfl, bb⟩
      go_wp2
      go_ret
      exact ⟨rfl, below_then b4 bb⟩
set_option maxHeartbeats 4000000 in
theorem law_runs (c t : Int) (evs : List Int) (v : Value) (w : World) (h : IntsAt w v evs) (hl : evs.length ≤ 1048576) : Calls Try.prog 4 #[.int .i64 c, .int .i64 t, v] w fun e w' => e = .returned (.bool true) ∧ Below w.heap.size w w' := by
  have HI := Lib.hid h
  obtain ⟨A, cap, rfl, k1, k2, -⟩ := h
  unfold maxLen at k2
  obtain ⟨⟨a, b, L, er, i⟩, hr⟩ : ∃ r, r = runFull c t evs := ⟨_, rfl⟩
  have HR := Lib.hid hr
  clear hr
  go_enter Try.func4, Try.ntmps4
  go_wp2_with (at_builtin; refine wpList_app elI rfl _ _ rfl w.heap.size _ 0 [] rfl (World.ownsRow_nil _ _ _ _) _ _ _ rfl HI.out.src (by simp [maxLen]; omega) (by omega) (Nat.le_refl _) ?_)
  intro v1 w1 ho1 hg1 hn1
  have b1 : Below w.heap.size w w1 := (Below.refl _ w).grown hg1 (Nat.le_refl _) (by simp [Value.ownBlock])
  have o1 : Own w.heap.size w1 v1 evs := by unfold Own; simpa using ho1
  obtain ⟨A1, cp1, rfl, -⟩ := o1.ints.at_
  have O1 := Lib.hid o1.ints
  clear ho1 hg1 hn1 o1
  go_wp2_with fail
  refine (run16 c t evs _ _ O1.out hl).mono ?_
  rintro e w2 ⟨⟨v2, rfl, o2⟩, bb⟩
  rw [← HR.out] at o2 ⊢
  have O2 := Lib.hid (show Own w1.heap.size w2 v2 L from o2).ints
  have O1' := Lib.hid (O1.out.below bb)
  have b2 := below_then b1 bb
  obtain ⟨A2, c2, rfl, -⟩ := O2.out
  clear o2 bb O1
  go_wp2_with fail
  refine (run17 c t evs _ _ (HI.out.below b2) hl).mono ?_
  rintro e w3 ⟨⟨v3, rfl, o3⟩, bb⟩
  rw [← HR.out] at o3 ⊢
  have O3 := Lib.hid (show Own w2.heap.size w3 v3 L from o3).ints
  have O1 := Lib.hid (O1'.out.below bb)
  have O2' := Lib.hid (O2.out.below bb)
  have b3 := below_then b2 bb
  obtain ⟨A3, c3, rfl, -⟩ := O3.out
  clear o3 bb O1' O2
  go_wp2_with fail
  refine (numbers_same L _ _ _ O2'.out O3.out).mono ?_
  rintro e w4 ⟨rfl, k4, rfl⟩
  have O1' := Lib.hid (O1.out.below (below_self_drewN w3 k4))
  have b4 := below_drewN b3 k4
  clear O2' O3 b3 O1
  generalize w3.drewN k4 = W at *
  go_wp2_with fail
  refine (numbers_same evs _ _ _ O1'.out (HI.out.below b4)).mono ?_
  rintro e w5 ⟨rfl, k5, rfl⟩
  have b5 := below_drewN b4 k5
  generalize W.drewN k5 = W5 at *
  go_wp2_with fail
  refine (awake _).mono ?_
  rintro e w6 ⟨rfl, bb⟩
  go_wp2
  go_ret
  exact ⟨rfl, below_then b5 bb⟩
structure O where
  k : Int
  ev : Int
def O.cells (o : O) : List Value := [.int .i64 o.k, .int .i64 o.ev]
theorem read_op {H : Type} {enc : TypeId × Value → H} {W : World} {base : Nat} {spare : Nat → Bool} {held : Bool} (fuel : Nat) (cs : List Value) (x : DataW H × List MemPlace) (h : DataW.trod enc Try.prog W base spare held fuel 43 cs = some x) : ∃ o : O, cs = o.cells ∧ True := by
  have c32 : Try.prog.cellsOf 43 = 2 := by kernel_rfl
  have c3 : Try.prog.cellsOf 3 = 1 := by kernel_rfl
  obtain ⟨y0, y1, n, _, hl, h0, h1⟩ := trod_struct2 Try.underlying43 h
  rw [c32] at hl
  match cs, hl with
  | [v0, v1], _ =>
    simp [c3] at h0 h1
    obtain ⟨z0, e0, _⟩ := DataW.trod_int Try.underlying3 h0
    obtain ⟨z1, e1, _⟩ := DataW.trod_int Try.underlying3 h1
    simp at e0 e1
    subst e0 e1
    exact ⟨⟨z0, z1⟩, rfl, trivial⟩
theorem open_ops {H : Type} {enc : TypeId × Value → H} {W : World} {base : Nat} {spare : Nat → Bool} {held : Bool} {v : Value} {d : DataW H} {ps : List MemPlace} (hv : ∃ a len cap, v = .slice a len cap) (h : DataW.Trod enc Try.prog W base spare held 39 v d ps) : ∃ l : List O, RecsAt W v 2 O.cells l := by
  obtain ⟨l, hl, _⟩ := open_recs (n := 2) O.cells (fun _ => True) Try.underlying39 (by kernel_rfl) (by decide) (fun fuel cs y hy => read_op fuel cs y hy) hv h
  exact ⟨l, hl⟩
end Go.Proofs.Ytjgndagejogfnaa.F
