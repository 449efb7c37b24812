import Derived.Test.YtcgihilcjijckaaB9
set_option linter.unusedVariables false
set_option linter.unusedSimpArgs false
namespace Go.Proofs.Ytcgihilcjijckaa.F
open Go.RowKit Go.Proofs.Ytcgihilcjijckaa.K
variable (g : Nat) (w : World)
def IntP (P : Int → World → Prop) (e : Ending) (w' : World) : Prop := ∃ er : Int, e = .returned (.int .i64 er) ∧ P er w'
theorem after_ok (id now sp : Int) (h : (timeB now && spanB sp) = true) (P : Int → World → Prop) (HC : Calls Try.prog 24 #[.pointer (some ⟨g, 0, none⟩), .int .i64 id, .int .i64 (minT (now + sp))] w (IntP P)) : Calls Try.prog 25 #[.pointer (some ⟨g, 0, none⟩), .int .i64 id, .int .i64 now, .int .i64 sp] w (IntP P) := by
  have HT := Lib.hid (fun W => isTime39 W now)
  simp only [Bool.and_eq_true] at h
  obtain ⟨h1, h2⟩ := h
  rw [h1] at HT
  unfold timeB at h1
  unfold spanB at h2
  simp only [Bool.and_eq_true, decide_eq_true_eq] at h1 h2
  obtain ⟨t1, t2⟩ := h1
  obtain ⟨t3, t4⟩ := h2
  have HCC := Lib.hid HC
  clear HC
  by_cases hm : now + sp ≤ 1099511627776
  · have D : minT (now + sp) = now + sp := by unfold minT; omega
    rw [D] at HCC
    clear D
    go_enter Try.func25, Try.ntmps25
    go_wp2_with fail
    refine (HT.out _).mono ?_
    rintro e w1 ⟨rfl, rfl⟩
    go_wp2_with fail
    refine HCC.out.mono ?_
    rintro e w1 ⟨er, rfl, hp⟩
    have HP := Lib.hid hp
    clear hp HCC HT
    go_wp2_with fail
    go_ret
    exact ⟨er, rfl, HP.out⟩
  · have D : minT (now + sp) = 1099511627776 := by unfold minT; omega
    rw [D] at HCC
    clear D
    go_enter Try.func25, Try.ntmps25
    go_wp2_with fail
    refine (HT.out _).mono ?_
    rintro e w1 ⟨rfl, rfl⟩
    go_wp2_with fail
    refine HCC.out.mono ?_
    rintro e w1 ⟨er, rfl, hp⟩
    have HP := Lib.hid hp
    clear hp HCC HT
    go_wp2_with fail
    go_ret
    exact ⟨er, rfl, HP.out⟩
end Go.Proofs.Ytcgihilcjijckaa.F
