import Derived.Test.YtcgihilcjijckaaB7
set_option linter.unusedVariables false
set_option linter.unusedSimpArgs false
namespace Go.Proofs.Ytcgihilcjijckaa.F
open Go.RowKit Go.Proofs.Ytcgihilcjijckaa.K
variable (g : Nat) (w : World)
/-- Cancel: 5 there is none; 0 it is gone -/
def CancR (id : Int) (L : List On) (g : Nat) (v : Value) (w : World) (e : Ending) (w' : World) : Prop := ∃ (er : Int) (n2 : Int) (l2 : List Tm), e = .returned (.int .i64 er) ∧ QR g v n2 l2 w w' ∧ l2.length ≤ 64 ∧ l2.map Tm.on = out id L ∧ ((er = 5 ∧ ∀ y ∈ L, y.id ≠ id) ∨ (er = 0 ∧ ¬ ∀ y ∈ L, y.id ≠ id))
set_option maxHeartbeats 2000000 in
theorem cancel26 (v : Value) (n id : Int) (l : List Tm) (hl : l.length ≤ 64) (hu : Uniq (l.map Tm.on)) (h : QAt w g v n l) : Calls Try.prog 26 #[.pointer (some ⟨g, 0, none⟩), .int .i64 id] w (CancR id (l.map Tm.on) g v w) := by
  have HQ := Lib.hid h
  have HU := Lib.hid hu
  clear h hu
  go_enter Try.func26, Try.ntmps26
  go_wp2_with fail
  refine (find38 g _ v n l id HQ.out).mono ?_
  rintro e w1 ⟨k, rfl, hf, hb⟩
  have HF := Lib.hid hf
  have HB := Lib.hid hb
  have Q1 := Lib.hid (HQ.out.below hb)
  clear hf hb
  rcases find_out HU.out HF.out with ⟨rfl, ho⟩ | ⟨j, hj, rfl, ho⟩
  · have HO := Lib.hid ho
    have HNO : Hid (∀ y ∈ l.map Tm.on, y.id ≠ id) := Lib.hid (by
      rcases HF.out with ⟨-, hq⟩ | ⟨j, hj, hq, -⟩
      · exact hq
      · omega)
    clear ho
    go_wp2_with fail
    go_ret
    exact ⟨5, n, l, rfl, ⟨⟨_, Q1.out, fun k hk => .inl hk⟩, Grown2.below HB.out _ _⟩, hl, HO.out.symm, .inl ⟨rfl, HNO.out⟩⟩
  · have hjl : j < l.length := by simpa using hj
    have D := Lib.hid (drop28 g _ v n l j hjl hl Q1.out)
    have HO := Lib.hid ho
    have HX : Hid (¬ ∀ y ∈ l.map Tm.on, y.id ≠ id) := Lib.hid (fun hh => by
      rcases HF.out with ⟨hq, -⟩ | ⟨j', hj', -, hq⟩
      · omega
      · exact hh _ (List.getElem_mem hj') hq)
    clear ho
    go_wp2_with fail
    refine D.out.mono ?_
    rintro e w2 ⟨rfl, hqr⟩
    have HQR := Lib.hid hqr
    clear hqr D
    go_wp2_with fail
    go_ret
    exact ⟨0, n, l.eraseIdx j, rfl, HQR.out.trans (Grown2.below HB.out g v.ownBlock) (fun k hk => .inl hk), by rw [List.length_eraseIdx_of_lt hjl]; omega, by rw [← HO.out, map_erase], .inr ⟨rfl, HX.out⟩⟩
end Go.Proofs.Ytcgihilcjijckaa.F
