import Derived.Test.YtcgihilcjijckaaB8
set_option linter.unusedVariables false
set_option linter.unusedSimpArgs false
namespace Go.Proofs.Ytcgihilcjijckaa.F
open Go.RowKit Go.Proofs.Ytcgihilcjijckaa.K
variable (g : Nat) (w : World)
theorem clear23 (v : Value) (n : Int) (l : List Tm) (h : QAt w g v n l) : Calls Try.prog 23 #[.pointer (some ⟨g, 0, none⟩)] w fun e w' => e = .returned (.tuple #[]) ∧ QR g v n [] w w' := by
  have HQ := Lib.hid h
  have c0 := h.c0
  have f0 := h.free 0
  obtain ⟨A, cap, rfl, -, -, -⟩ := h.form
  clear h
  go_enter Try.func23, Try.ntmps23
  go_wp2
  go_end0
  exact ⟨rfl, ⟨⟨.slice none 0 0, ⟨heap_setCell_same _ _ _ _ _ _ HQ.out.blk, Row.nil _ _ _ _, by simp [Value.ownBlock]⟩, fun k hk => by simp [Value.ownBlock] at hk⟩, ⟨rfl, rfl, rfl, by simp [World.setCell], fun k hk h1 _ => heap_setCell_other _ _ _ _ h1⟩⟩⟩
theorem clear23_nil : Calls Try.prog 23 #[.pointer none] w fun e w' => e = .returned (.tuple #[]) ∧ w = w' := by
  go_enter Try.func23, Try.ntmps23
  go_wp2
  go_end0
  exact ⟨rfl, rfl⟩
def leftV (a now : Int) : Int := if a ≤ now then 0 else if now < wrap64 (a - 1099511627776) then 1099511627776 else wrap64 (a - now)
def LeftR (id now : Int) (L : List On) (w : World) (e : Ending) (w' : World) : Prop := ∃ x er : Int, e = .returned (.tuple #[.int .i64 x, .int .i64 er]) ∧ Below w.heap.size w w' ∧ ((er = 5 ∧ x = 0 ∧ ∀ y ∈ L, y.id ≠ id) ∨ (er = 0 ∧ ∃ y ∈ L, y.id = id ∧ x = leftV y.at_ now))
set_option maxHeartbeats 2000000 in
theorem left22 (v : Value) (n id now : Int) (l : List Tm) (h : QAt w g v n l) : Calls Try.prog 22 #[.pointer (some ⟨g, 0, none⟩), .int .i64 id, .int .i64 now] w (LeftR id now (l.map Tm.on) w) := by
  have HQ := Lib.hid h
  clear h
  go_enter Try.func22, Try.ntmps22
  go_wp2_with fail
  refine (find38 g _ v n l id HQ.out).mono ?_
  rintro e w1 ⟨k, rfl, hf, hb⟩
  have HB := Lib.hid hb
  have Q1 := Lib.hid (HQ.out.below hb)
  clear hb
  rcases hf with ⟨rfl, ho⟩ | ⟨j, hj, rfl, ho⟩
  · have HO := Lib.hid ho
    clear ho
    go_wp2_with fail
    go_ret2
    exact ⟨0, 5, rfl, HB.out, .inl ⟨rfl, rfl, HO.out⟩⟩
  · have hjl : j < l.length := by simpa using hj
    have HO : Hid (∃ y ∈ l.map Tm.on, y.id = id ∧ y.at_ = l[j].at_) := Lib.hid ⟨_, List.getElem_mem hj, ho, by simp [Tm.on]⟩
    clear ho
    obtain ⟨A, cap, rfl, k1, k2, -⟩ := Q1.out.form
    obtain ⟨b, rfl, hbg, d0, d1, d2⟩ := Q1.out.cell hjl
    unfold maxLen at k2
    have c0 := Q1.out.c0
    have i0 : (0 : Int) ≤ (j : Int) := by omega
    have i1 : (j : Int) < (l.length : Int) := by omega
    generalize l[j].at_ = a at *
    clear d0 d2
    by_cases h1 : a ≤ now
    · have D : Hid (leftV a now = 0) := Lib.hid (if_pos h1)
      go_wp2_with fail
      go_ret2
      exact ⟨0, 0, rfl, HB.out, .inr ⟨rfl, by obtain ⟨y, hy, h2, h3⟩ := HO.out; exact ⟨y, hy, h2, by rw [h3, D.out]⟩⟩⟩
    · by_cases h2 : now < wrap64 (a - 1099511627776)
      · have D : Hid (leftV a now = 1099511627776) := Lib.hid ((if_neg h1).trans (if_pos h2))
        go_wp2_with fail
        go_ret2
        exact ⟨_, 0, rfl, HB.out, .inr ⟨rfl, by obtain ⟨y, hy, h2, h3⟩ := HO.out; exact ⟨y, hy, h2, by rw [h3, D.out]⟩⟩⟩
      · have D : Hid (leftV a now = wrap64 (a - now)) := Lib.hid ((if_neg h1).trans (if_neg h2))
        go_wp2_with fail
        go_ret2
        exact ⟨_, 0, rfl, HB.out, .inr ⟨rfl, by obtain ⟨y, hy, h2, h3⟩ := HO.out; exact ⟨y, hy, h2, by rw [h3, D.out]⟩⟩⟩
def spanB (t : Int) : Bool := decide (0 ≤ t) && decide (t ≤ 2147483648)
def minT (t : Int) : Int := min t 1099511627776
theorem after_bad (v : Value) (n id now sp : Int) (l : List Tm) (h : (timeB now && spanB sp) = false) : Calls Try.prog 25 #[.pointer (some ⟨g, 0, none⟩), .int .i64 id, .int .i64 now, .int .i64 sp] w fun e w' => e = .returned (.int .i64 1) ∧ w = w' := by
  have HT := Lib.hid (fun W => isTime39 W now)
  cases ht : timeB now
  · rw [ht] at HT
    clear h ht
    go_enter Try.func25, Try.ntmps25
    go_wp2_with fail
    refine (HT.out _).mono ?_
    rintro e w1 ⟨rfl, rfl⟩
    go_wp2_with fail
    go_ret
    exact ⟨rfl, rfl⟩
  · rw [ht] at HT
    have h2 : spanB sp = false := by rw [ht] at h; simpa using h
    unfold spanB at h2
    clear h ht
    by_cases h3 : 0 ≤ sp
    · have h4 : ¬ sp ≤ 2147483648 := by simp [h3] at h2; omega
      clear h2
      go_enter Try.func25, Try.ntmps25
      go_wp2_with fail
      refine (HT.out _).mono ?_
      rintro e w1 ⟨rfl, rfl⟩
      go_wp2_with fail
      go_ret
      exact ⟨rfl, rfl⟩
    · clear h2
      go_enter Try.func25, Try.ntmps25
      go_wp2_with fail
      refine (HT.out _).mono ?_
      rintro e w1 ⟨rfl, rfl⟩
      go_wp2_with fail
      go_ret
      exact ⟨rfl, rfl⟩
end Go.Proofs.Ytcgihilcjijckaa.F
