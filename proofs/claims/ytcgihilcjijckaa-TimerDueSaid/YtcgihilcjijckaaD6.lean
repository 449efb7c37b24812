import Derived.Test.YtcgihilcjijckaaD5
set_option linter.unusedVariables false
set_option linter.unusedSimpArgs false
namespace Go.Proofs.Ytcgihilcjijckaa.F
open Go.RowKit Go.Proofs.Ytcgihilcjijckaa.K
/-- the reference's queue, and a list of the call's own -/
structure RO (w wr : World) (g : Nat) (v v1 : Value) (l1 : List On) (e : TypeId) (size : Nat) (ov : Value) (m : Nat) (xs : List Value) : Prop where
  row : Row wr w.heap.size e size ov m xs
  q : RS w wr g v v1 l1
  apart : Apart ov v1
theorem RO.step {w wr w1 : World} {g : Nat} {v v1 v2 : Value} {l1 l2 : List On} {e : TypeId} {size : Nat} {ov : Value} {m : Nat} {xs : List Value} (hlt : g < w.heap.size) (h : RO w wr g v v1 l1 e size ov m xs) (h2 : RS wr w1 g v1 v2 l2) : RO w w1 g v v2 l2 e size ov m xs :=
  ⟨h.row.grown2 h2.grow (fun e => by have := (h.row.live e).1; omega) (fun k hk => h.apart k hk), h.q.trans h2, fun k hk e => by
    rcases h2.own k e with q | q
    · exact h.apart k hk q
    · have := (h.row.live hk).2; omega⟩
theorem RO.below {w wr w1 : World} {g : Nat} {v v1 : Value} {l1 : List On} {e : TypeId} {size : Nat} {ov : Value} {m : Nat} {xs : List Value} (h : RO w wr g v v1 l1 e size ov m xs) (hb : Below wr.heap.size wr w1) : RO w w1 g v v1 l1 e size ov m xs := ⟨h.row.below hb, h.q.below hb, h.apart⟩
theorem RO.app {w wr w1 : World} {g : Nat} {v v1 : Value} {l1 : List On} {e : TypeId} {size : Nat} {ov ov' : Value} {m m' : Nat} {xs xs' : List Value} (hlt : g < w.heap.size) (h : RO w wr g v v1 l1 e size ov m xs) (hr : RowR wr w1 w.heap.size e size ov ov' m' xs') : RO w w1 g v v1 l1 e size ov' m' xs' := by
  have hog : ov.ownBlock ≠ some g := fun e => by have := (h.row.live e).1; omega
  have hgl := (Array.getElem?_eq_some_iff.1 h.q.q.blk).1
  refine ⟨hr.row, ⟨⟨(hr.grow.block g hgl (fun e => hog e.symm)).trans h.q.q.blk, h.q.q.row.kept hr.grow (fun k hk e => h.apart k e hk), h.q.q.ne⟩, ⟨hr.grow.os.trans h.q.grow.os, hr.grow.tape.trans h.q.grow.tape, hr.grow.output.trans h.q.grow.output, Nat.le_trans h.q.grow.size hr.grow.size, fun k hk h1 h2 => (hr.grow.block k (Nat.lt_of_lt_of_le hk h.q.grow.size) (fun e => by have := (h.row.live e.symm).1; omega)).trans (h.q.grow.block k hk h1 h2)⟩, h.q.own⟩, fun k hk e => ?_⟩
  rcases hr.own k hk with q | q
  · exact h.apart k q e
  · have := (h.q.q.row.live e).2; omega
def RPopR (now : Int) (l : List On) (g : Nat) (v : Value) (w : World) (e : Ending) (w' : World) : Prop := ∃ (id er : Int) (v2 : Value) (l2 : List On), e = .returned (.tuple #[.int .i64 id, .int .i64 er]) ∧ RS w w' g v v2 l2 ∧ ((er = 5 ∧ id = 0 ∧ l2 = l ∧ ∀ m t, srt l = m :: t → now < m.at_) ∨ (er = 0 ∧ ∃ m t, srt l = m :: t ∧ m.at_ ≤ now ∧ id = m.id ∧ l2 = out m.id l))
variable (g : Nat) (w : World)
set_option maxHeartbeats 4000000 in
theorem rpop32 (v : Value) (now : Int) (l : List On) (hl : l.length ≤ 64) (hu : Uniq l) (h : RAt w g v l) : Calls Try.prog 32 #[.pointer (some ⟨g, 0, none⟩), .int .i64 now] w (RPopR now l g v w) := by
  have HQ := Lib.hid h
  have HU := Lib.hid hu
  clear h hu
  go_enter Try.func32, Try.ntmps32
  go_wp2_with fail
  refine (first36 g _ v l HQ.out).mono ?_
  rintro e w1 ⟨k, rfl, hf, hb⟩
  have HB := Lib.hid hb
  have Q1 := Lib.hid (HQ.out.below hb)
  clear hb
  rcases first_end hf with ⟨he, rfl⟩ | ⟨j, hj, t, rfl, hs⟩
  · have HE := Lib.hid he
    clear he hf
    go_wp2_with fail
    go_ret2
    exact ⟨0, 5, v, l, rfl, (RS.refl HQ.out).below HB.out, .inl ⟨rfl, rfl, rfl, fun m t hs => by rw [HE.out] at hs; cases hs⟩⟩
  · have HS := Lib.hid hs
    clear hs hf
    have c0 := Q1.out.c0
    have D := Lib.hid (out37 g _ v l j hj hl Q1.out)
    have HO := Lib.hid (out_erase HU.out hj)
    obtain ⟨A, cap, rfl, k1, k2, k3⟩ := Q1.out.form
    obtain ⟨b, rfl, hbg, d0, d1⟩ := Q1.out.cell hj
    clear k3
    have hj0 : (0 : Int) ≤ (j : Int) := by omega
    have hjl : (j : Int) < (l.length : Int) := by omega
    obtain ⟨x, hx⟩ : ∃ x, x = l[j] := ⟨_, rfl⟩
    have HX := Lib.hid hx
    rw [← hx] at d0 d1
    clear hx
    obtain ⟨xi, xa⟩ := x
    simp only at d0 d1
    by_cases hlt : now < xa
    · go_wp2_with fail
      go_ret2
      exact ⟨0, 5, _, l, rfl, (RS.refl HQ.out).below HB.out, .inl ⟨rfl, rfl, rfl, fun m t hs => by
        have h0 := HS.out
        rw [hs] at h0
        cases h0
        rw [← HX.out]
        exact hlt⟩⟩
    · go_wp2_with fail
      refine D.out.mono ?_
      rintro e w2 ⟨rfl, v2, hqr⟩
      have HQR := Lib.hid hqr
      clear hqr D
      go_wp2_with fail
      go_ret2
      exact ⟨xi, 0, v2, _, rfl, ((RS.refl HQ.out).below HB.out).trans HQR.out, .inr ⟨rfl, _, t, HS.out, by rw [← HX.out]; omega, by rw [← HX.out], by rw [HO.out]⟩⟩
end Go.Proofs.Ytcgihilcjijckaa.F
