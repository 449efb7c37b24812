import Derived.Test.YtcgihilcjijckaaD3
set_option linter.unusedVariables false
set_option linter.unusedSimpArgs false
namespace Go.Proofs.Ytcgihilcjijckaa.F
open Go.RowKit Go.Proofs.Ytcgihilcjijckaa.K
theorem src_on (w : World) (i a : Int) : SrcR (w.alloc (.cells #[.int .i64 i, .int .i64 a] 29)) 2 (.slice (some ⟨w.heap.size, 0, none⟩) 1 1) 1 (ons [⟨i, a⟩]) :=
  ⟨rfl, fun u hu => by simp [ons, On.cells] at hu; rcases hu with rfl | rfl <;> rfl, _, _, rfl, fun e => by (cases e), fun ad e' j x hj => by
    cases e'
    have hlt := (List.getElem?_eq_some_iff.1 hj).1
    have hj2 : j < 2 := hlt
    rw [add_mid]
    have : j = 0 ∨ j = 1 := by omega
    rcases this with rfl | rfl
    · simp [ons, On.cells] at hj; subst hj; simp
    · simp [ons, On.cells] at hj; subst hj; simp⟩
theorem rset_grow {w w1 w2 : World} {g : Nat} {r : Option Nat} (hb : Below w.heap.size w w1) (hg : w1.grownBy w2 r) : Grown2 w w2 g r :=
  ⟨hg.os.trans hb.os, hg.tape.trans hb.tape, hg.output.trans hb.output, Nat.le_trans hb.size hg.size, fun k hk h1 h2 => (hg.block k (Nat.lt_of_lt_of_le hk hb.size) h2).trans (hb.block k hk)⟩
theorem rset_own {w w1 : World} {r : Option Nat} {k : Nat} (hb : Below w.heap.size w w1) (h : r = some k ∨ w1.heap.size ≤ k) : r = some k ∨ w.heap.size ≤ k := h.imp id fun q => Nat.le_trans hb.size q
variable (g : Nat) (w : World)
theorem time40 (t : Int) : Calls Try.prog 40 #[.int .i64 t] w fun e w' => e = .returned (.bool (timeB t)) ∧ w = w' := by
  unfold timeB
  by_cases h : 0 ≤ t
  · have h1 : decide (0 ≤ t) = true := by simpa using h
    rw [h1]
    go_enter Try.func40, Try.ntmps40
    go_wp2
    go_ret
    exact ⟨by simp, rfl⟩
  · have h1 : decide (0 ≤ t) = false := by simpa using h
    rw [h1]
    go_enter Try.func40, Try.ntmps40
    go_wp2
    go_ret
    exact ⟨by simp, rfl⟩
theorem rset_bad (v : Value) (id at_ : Int) (h : okB id at_ = false) : Calls Try.prog 27 #[.pointer (some ⟨g, 0, none⟩), .int .i64 id, .int .i64 at_] w fun e w' => e = .returned (.int .i64 1) ∧ w = w' := by
  unfold okB at h
  have HT := Lib.hid (fun W => time40 W at_)
  by_cases h1 : 0 ≤ id
  · by_cases h2 : id ≤ 65535
    · have h3 : timeB at_ = false := by simpa [h1, h2] using h
      rw [h3] at HT
      clear h h3
      go_enter Try.func27, Try.ntmps27
      go_wp2_with fail
      refine (HT.out _).mono ?_
      rintro e w1 ⟨rfl, rfl⟩
      go_wp2_with fail
      go_ret
      exact ⟨rfl, rfl⟩
    · clear h
      go_enter Try.func27, Try.ntmps27
      go_wp2_with fail
      go_ret
      exact ⟨rfl, rfl⟩
  · clear h
    go_enter Try.func27, Try.ntmps27
    go_wp2_with fail
    go_ret
    exact ⟨rfl, rfl⟩
/-- the reference's answer, and its list -/
def RSetR (id at_ : Int) (L : List On) (g : Nat) (v : Value) (w : World) (e : Ending) (w' : World) : Prop := ∃ (er : Int) (l2 : List On) (v2 : Value), e = .returned (.int .i64 er) ∧ RS w w' g v v2 l2 ∧ l2.length ≤ 64 ∧ ((er = 7 ∧ (∀ y ∈ L, y.id ≠ id) ∧ 64 ≤ L.length ∧ l2 = L) ∨ (er = 0 ∧ ((∀ y ∈ L, y.id ≠ id) → L.length < 64) ∧ l2 = out id L ++ [⟨id, at_⟩]))
set_option maxHeartbeats 4000000 in
theorem set27 (v : Value) (id at_ : Int) (l : List On) (hl : l.length ≤ 64) (hu : Uniq l) (hok : okB id at_ = true) (h : RAt w g v l) : Calls Try.prog 27 #[.pointer (some ⟨g, 0, none⟩), .int .i64 id, .int .i64 at_] w (RSetR id at_ l g v w) := by
  have HQ := Lib.hid h
  have HU := Lib.hid hu
  unfold okB at hok
  simp only [Bool.and_eq_true, decide_eq_true_eq] at hok
  obtain ⟨h1, h2, h3⟩ := hok
  have HT := Lib.hid (fun W => time40 W at_)
  rw [h3] at HT
  clear h hu h3
  go_enter Try.func27, Try.ntmps27
  go_wp2_with fail
  refine (HT.out _).mono ?_
  rintro e w1 ⟨rfl, rfl⟩
  clear HT
  go_wp2_with fail
  refine (find41 g _ v l id HQ.out).mono ?_
  rintro e w1 ⟨k, rfl, hf, hb⟩
  have HF := Lib.hid hf
  have HB := Lib.hid hb
  have Q1 := Lib.hid (HQ.out.below hb)
  clear hf hb
  have c0 := Q1.out.c0
  obtain ⟨A, cap, hv, k1, k2, k3⟩ := Q1.out.form
  subst hv
  clear k3
  unfold maxLen at k2
  have HN0 : Hid (k < 0 → ∀ y ∈ l, y.id ≠ id) := Lib.hid (fun hk => by
    rcases HF.out with ⟨-, hq⟩ | ⟨j, hj, hq, -⟩
    · exact hq
    · omega)
  have HN1 : Hid (¬ k < 0 → ¬ ∀ y ∈ l, y.id ≠ id) := Lib.hid (fun hk hh => by
    rcases HF.out with ⟨hq, -⟩ | ⟨j', hj', -, hq⟩
    · omega
    · exact hh _ (List.getElem_mem hj') hq)
  go_upto_region 4 with fail
  go_cut [31] (fun s wx => w1 = wx ∧ s = .bool (decide (k < 0) && decide (64 ≤ l.length)))
  case first =>
    by_cases hk : k < 0
    · by_cases h64 : 64 ≤ l.length
      · have h64i : (64 : Int) ≤ (l.length : Int) := by omega
        go_wp2_with fail
        go_meet
        exact ⟨rfl, by simp [hk, h64]⟩
      · have h64i : ¬ (64 : Int) ≤ (l.length : Int) := by omega
        go_wp2_with fail
        go_meet
        exact ⟨rfl, by simp [hk, h64]⟩
    · go_wp2_with fail
      go_meet
      exact ⟨rfl, by simp; omega⟩
  case rest =>
  obtain ⟨rfl, rfl⟩ := hcut
  obtain ⟨bb, hbb⟩ : ∃ bb, bb = (decide (k < 0) && decide (64 ≤ l.length)) := ⟨_, rfl⟩
  have HBB := Lib.hid hbb
  rw [← hbb]
  clear hbb
  go_upto_if 31 with fail
  go_cut [] (fun wx => w1 = wx ∧ Hid ((∀ y ∈ l, y.id ≠ id) → l.length < 64))
  case first =>
    cases bb
    · go_wp2_with fail
      go_meet
      exact ⟨rfl, Lib.hid (fun hh => by
        have h0 := HBB.out
        by_cases hk : k < 0
        · simp [hk] at h0; omega
        · exact absurd hh (HN1.out (by omega)))⟩
    · go_wp2_with fail
      go_ret
      have h0 := HBB.out
      simp at h0
      exact ⟨7, l, _, rfl, (RS.refl HQ.out).below HB.out, hl, .inl ⟨rfl, HN0.out h0.1, h0.2, rfl⟩⟩
  case rest =>
    obtain ⟨rfl, HN⟩ := hcut
    go_upto_if 33 with fail
    go_cut [] (fun wx => ∃ (v1 : Value), Hid (RS w wx g (.slice A l.length cap) v1 (out id l)) ∧ (out id l).length ≤ 63)
    case first =>
      rcases find_out HU.out HF.out with ⟨rfl, ho⟩ | ⟨j, hj, rfl, ho⟩
      · have HNO : Hid (l.length < 64) := Lib.hid (HN.out (by
          rcases HF.out with ⟨-, hq⟩ | ⟨j, hj, hq, -⟩
          · exact hq
          · omega))
        have HO := Lib.hid ho
        clear ho
        go_wp2_with fail
        go_meet
        exact ⟨_, Lib.hid (by rw [HO.out]; exact (RS.refl HQ.out).below HB.out), by rw [HO.out]; have := HNO.out; omega⟩
      · have HO := Lib.hid ho
        clear ho
        have D := Lib.hid (out37 g _ _ l j hj hl Q1.out)
        go_wp2_with fail
        refine D.out.mono ?_
        rintro e w2 ⟨rfl, v1, hrs⟩
        have HRS := Lib.hid hrs
        clear hrs D
        go_wp2_with fail
        go_meet
        exact ⟨v1, Lib.hid (by rw [← HO.out]; exact ((RS.refl HQ.out).below HB.out).trans HRS.out), by rw [← HO.out, List.length_eraseIdx_of_lt hj]; omega⟩
    case rest =>
      obtain ⟨v1, HR, hlen⟩ := hcut
      clear c0 k1 k2
      have c0 := HR.out.q.c0
      have f0 := HR.out.q.free 0
      obtain ⟨A1, cap1, hv, k1, k2, k3⟩ := HR.out.q.form
      subst hv
      clear k3
      unfold maxLen at k2
      have hgl := (Array.getElem?_eq_some_iff.1 HR.out.q.blk).1
      have hbx : Below wc.heap.size wc (wc.alloc (.cells #[.int .i64 id, .int .i64 at_] 29)) := (Below.refl _ _).alloc (Nat.le_refl _) _
      have HBX := Lib.hid hbx
      have hrow := HR.out.q.row.below hbx
      clear hbx
      have s1 : (out id l).length + 1 ≤ maxLen := by unfold maxLen; omega
      have s2 : ((out id l).length + 1) * 16 ≤ 140737488355328 := by omega
      go_wp2_with (at_builtin; refine wpList_row elO rfl _ _ rfl 0 _ _ _ rfl hrow _ 1 _ rfl (src_on wc id at_) s1 s2 (Nat.zero_le _) ?_)
      intro v4 w4 hr4
      obtain ⟨A4, cp4, rfl, hc4, hm4⟩ := Row.slice hr4.row
      have hgg := Lib.hid ((hr4.grow.block g (Nat.lt_of_lt_of_le hgl HBX.out.size) (fun e => HR.out.q.ne e.symm)).trans (HBX.out.block g hgl))
      have H4 := Lib.hid (rs_fin HR.out.q (rset_grow HBX.out hr4.grow) (fun k hk => rset_own HBX.out (hr4.own k hk)) hgg.out hr4.row (l' := out id l ++ [⟨id, at_⟩]) (by simp) (by rw [ons_app]))
      clear hrow hr4 c0 f0
      have c0 : w4.cell? ⟨g, 0, none⟩ = some (.slice A1 (out id l).length cap1) := (cell_of_row _ _ _ _ _ _ (hgg.out.trans HR.out.q.blk)).trans rfl
      have f0 : w4.frozen? ⟨g, 0, none⟩ = false := frozen_of_row _ _ _ _ _ (hgg.out.trans HR.out.q.blk)
      go_wp2_with fail
      go_ret
      exact ⟨0, _, _, rfl, HR.out.trans H4.out, by rw [List.length_append]; simp only [List.length_cons, List.length_nil]; omega, .inr ⟨rfl, HN.out, rfl⟩⟩
end Go.Proofs.Ytcgihilcjijckaa.F
