import Derived.Test.YtcgihilcjijckaaD4
set_option linter.unusedVariables false
set_option linter.unusedSimpArgs false
namespace Go.Proofs.Ytcgihilcjijckaa.F
open Go.RowKit Go.Proofs.Ytcgihilcjijckaa.K
variable (g : Nat) (w : World)
theorem rafter_bad (id now sp : Int) (h : (timeB now && spanB sp) = false) : Calls Try.prog 29 #[.pointer (some ⟨g, 0, none⟩), .int .i64 id, .int .i64 now, .int .i64 sp] w fun e w' => e = .returned (.int .i64 1) ∧ w = w' := by
  have HT := Lib.hid (fun W => time40 W now)
  cases ht : timeB now
  · rw [ht] at HT
    clear h ht
    go_enter Try.func29, Try.ntmps29
    go_wp2_with fail
    refine (HT.out _).mono ?_
    rintro e w1 ⟨rfl, rfl⟩
    go_wp2_with fail
    go_ret
    exact ⟨rfl, rfl⟩
  · rw [ht] at HT
    have h2 : spanB sp = false := by rw [ht] at h; simpa using h
    unfold spanB at h2
    clear h ht
    by_cases h3 : 0 ≤ sp
    · have h4 : ¬ sp ≤ 2147483648 := by simp [h3] at h2; omega
      clear h2
      go_enter Try.func29, Try.ntmps29
      go_wp2_with fail
      refine (HT.out _).mono ?_
      rintro e w1 ⟨rfl, rfl⟩
      go_wp2_with fail
      go_ret
      exact ⟨rfl, rfl⟩
    · clear h2
      go_enter Try.func29, Try.ntmps29
      go_wp2_with fail
      refine (HT.out _).mono ?_
      rintro e w1 ⟨rfl, rfl⟩
      go_wp2_with fail
      go_ret
      exact ⟨rfl, rfl⟩
theorem rafter_ok (id now sp : Int) (h : (timeB now && spanB sp) = true) (P : Int → World → Prop) (HC : Calls Try.prog 27 #[.pointer (some ⟨g, 0, none⟩), .int .i64 id, .int .i64 (minT (now + sp))] w (IntP P)) : Calls Try.prog 29 #[.pointer (some ⟨g, 0, none⟩), .int .i64 id, .int .i64 now, .int .i64 sp] w (IntP P) := by
  have HT := Lib.hid (fun W => time40 W now)
  simp only [Bool.and_eq_true] at h
  obtain ⟨h1, h2⟩ := h
  rw [h1] at HT
  unfold timeB at h1
  unfold spanB at h2
  simp only [Bool.and_eq_true, decide_eq_true_eq] at h1 h2
  obtain ⟨t1, t2⟩ := h1
  obtain ⟨t3, t4⟩ := h2
  have HCC := Lib.hid HC
  clear HC
  by_cases hm : now + sp ≤ 1099511627776
  · have D : minT (now + sp) = now + sp := by unfold minT; omega
    rw [D] at HCC
    clear D
    go_enter Try.func29, Try.ntmps29
    go_wp2_with fail
    refine (HT.out _).mono ?_
    rintro e w1 ⟨rfl, rfl⟩
    go_wp2_with fail
    refine HCC.out.mono ?_
    rintro e w1 ⟨er, rfl, hp⟩
    have HP := Lib.hid hp
    clear hp HCC HT
    go_wp2_with fail
    go_ret
    exact ⟨er, rfl, HP.out⟩
  · have D : minT (now + sp) = 1099511627776 := by unfold minT; omega
    rw [D] at HCC
    clear D
    go_enter Try.func29, Try.ntmps29
    go_wp2_with fail
    refine (HT.out _).mono ?_
    rintro e w1 ⟨rfl, rfl⟩
    go_wp2_with fail
    refine HCC.out.mono ?_
    rintro e w1 ⟨er, rfl, hp⟩
    have HP := Lib.hid hp
    clear hp HCC HT
    go_wp2_with fail
    go_ret
    exact ⟨er, rfl, HP.out⟩
def RCancR (id : Int) (L : List On) (g : Nat) (v : Value) (w : World) (e : Ending) (w' : World) : Prop := ∃ (er : Int) (v2 : Value), e = .returned (.int .i64 er) ∧ RS w w' g v v2 (out id L) ∧ ((er = 5 ∧ ∀ y ∈ L, y.id ≠ id) ∨ (er = 0 ∧ ¬ ∀ y ∈ L, y.id ≠ id))
theorem rcancel30 (v : Value) (id : Int) (l : List On) (hl : l.length ≤ 64) (hu : Uniq l) (h : RAt w g v l) : Calls Try.prog 30 #[.pointer (some ⟨g, 0, none⟩), .int .i64 id] w (RCancR id l g v w) := by
  have HQ := Lib.hid h
  have HU := Lib.hid hu
  clear h hu
  go_enter Try.func30, Try.ntmps30
  go_wp2_with fail
  refine (find41 g _ v l id HQ.out).mono ?_
  rintro e w1 ⟨k, rfl, hf, hb⟩
  have HF := Lib.hid hf
  have HB := Lib.hid hb
  have Q1 := Lib.hid (HQ.out.below hb)
  clear hf hb
  rcases find_out HU.out HF.out with ⟨rfl, ho⟩ | ⟨j, hj, rfl, ho⟩
  · have HO := Lib.hid ho
    have HNO : Hid (∀ y ∈ l, y.id ≠ id) := Lib.hid (by
      rcases HF.out with ⟨-, hq⟩ | ⟨j, hj, hq, -⟩
      · exact hq
      · omega)
    clear ho
    go_wp2_with fail
    go_ret
    exact ⟨5, _, rfl, by rw [HO.out]; exact (RS.refl HQ.out).below HB.out, .inl ⟨rfl, HNO.out⟩⟩
  · have D := Lib.hid (out37 g _ v l j hj hl Q1.out)
    have HO := Lib.hid ho
    have HX : Hid (¬ ∀ y ∈ l, y.id ≠ id) := Lib.hid (fun hh => by
      rcases HF.out with ⟨hq, -⟩ | ⟨j', hj', -, hq⟩
      · omega
      · exact hh _ (List.getElem_mem hj') hq)
    clear ho
    go_wp2_with fail
    refine D.out.mono ?_
    rintro e w2 ⟨rfl, v2, hqr⟩
    have HQR := Lib.hid hqr
    clear hqr D
    go_wp2_with fail
    go_ret
    exact ⟨0, v2, rfl, by rw [← HO.out]; exact ((RS.refl HQ.out).below HB.out).trans HQR.out, .inr ⟨rfl, HX.out⟩⟩
/-- the first deadline -/
def RNextR (l : List On) (w : World) (e : Ending) (w' : World) : Prop := ∃ x er : Int, e = .returned (.tuple #[.int .i64 x, .int .i64 er]) ∧ Below w.heap.size w w' ∧ ((srt l = [] ∧ x = 0 ∧ er = 5) ∨ ∃ m t, srt l = m :: t ∧ x = m.at_ ∧ er = 0)
theorem rnext34 (v : Value) (l : List On) (h : RAt w g v l) : Calls Try.prog 34 #[.pointer (some ⟨g, 0, none⟩)] w (RNextR l w) := by
  have HQ := Lib.hid h
  clear h
  go_enter Try.func34, Try.ntmps34
  go_wp2_with fail
  refine (first36 g _ v l HQ.out).mono ?_
  rintro e w1 ⟨k, rfl, hf, hb⟩
  have HB := Lib.hid hb
  have Q1 := Lib.hid (HQ.out.below hb)
  clear hb
  rcases first_end hf with ⟨he, rfl⟩ | ⟨j, hj, t, rfl, hs⟩
  · have HE := Lib.hid he
    clear he hf
    go_wp2_with fail
    go_ret2
    exact ⟨0, 5, rfl, HB.out, .inl ⟨by rw [HE.out]; rfl, rfl, rfl⟩⟩
  · have HS := Lib.hid hs
    clear hs hf
    have c0 := Q1.out.c0
    obtain ⟨A, cap, rfl, k1, k2, k3⟩ := Q1.out.form
    obtain ⟨b, rfl, hbg, d0, d1⟩ := Q1.out.cell hj
    clear k3
    have hj0 : (0 : Int) ≤ (j : Int) := by omega
    have hjl : (j : Int) < (l.length : Int) := by omega
    go_wp2_with fail
    go_ret2
    exact ⟨_, 0, rfl, HB.out, .inr ⟨_, t, HS.out, rfl, rfl⟩⟩
set_option maxHeartbeats 2000000 in
theorem rleft33 (v : Value) (id now : Int) (l : List On) (h : RAt w g v l) : Calls Try.prog 33 #[.pointer (some ⟨g, 0, none⟩), .int .i64 id, .int .i64 now] w (LeftR id now l w) := by
  have HQ := Lib.hid h
  clear h
  go_enter Try.func33, Try.ntmps33
  go_wp2_with fail
  refine (find41 g _ v l id HQ.out).mono ?_
  rintro e w1 ⟨k, rfl, hf, hb⟩
  have HB := Lib.hid hb
  have Q1 := Lib.hid (HQ.out.below hb)
  clear hb
  rcases hf with ⟨rfl, ho⟩ | ⟨j, hj, rfl, ho⟩
  · have HO := Lib.hid ho
    clear ho
    go_wp2_with fail
    go_ret2
    exact ⟨0, 5, rfl, HB.out, .inl ⟨rfl, rfl, HO.out⟩⟩
  · have HO : Hid (∃ y ∈ l, y.id = id ∧ y.at_ = l[j].at_) := Lib.hid ⟨_, List.getElem_mem hj, ho, rfl⟩
    clear ho
    obtain ⟨A, cap, rfl, k1, k2, -⟩ := Q1.out.form
    obtain ⟨b, rfl, hbg, d0, d1⟩ := Q1.out.cell hj
    unfold maxLen at k2
    have c0 := Q1.out.c0
    have i0 : (0 : Int) ≤ (j : Int) := by omega
    have i1 : (j : Int) < (l.length : Int) := by omega
    generalize l[j].at_ = a at *
    clear d0
    by_cases h1 : a ≤ now
    · have D : Hid (leftV a now = 0) := Lib.hid (if_pos h1)
      go_wp2_with fail
      go_ret2
      exact ⟨0, 0, rfl, HB.out, .inr ⟨rfl, by obtain ⟨y, hy, h2, h3⟩ := HO.out; exact ⟨y, hy, h2, by rw [h3, D.out]⟩⟩⟩
    · by_cases h2 : now < wrap64 (a - 1099511627776)
      · have D : Hid (leftV a now = 1099511627776) := Lib.hid ((if_neg h1).trans (if_pos h2))
        go_wp2_with fail
        go_ret2
        exact ⟨_, 0, rfl, HB.out, .inr ⟨rfl, by obtain ⟨y, hy, h2, h3⟩ := HO.out; exact ⟨y, hy, h2, by rw [h3, D.out]⟩⟩⟩
      · have D : Hid (leftV a now = wrap64 (a - now)) := Lib.hid ((if_neg h1).trans (if_neg h2))
        go_wp2_with fail
        go_ret2
        exact ⟨_, 0, rfl, HB.out, .inr ⟨rfl, by obtain ⟨y, hy, h2, h3⟩ := HO.out; exact ⟨y, hy, h2, by rw [h3, D.out]⟩⟩⟩
end Go.Proofs.Ytcgihilcjijckaa.F
