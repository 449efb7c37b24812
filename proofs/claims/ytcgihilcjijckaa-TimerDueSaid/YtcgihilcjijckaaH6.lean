import Derived.Test.YtcgihilcjijckaaH5
set_option linter.unusedVariables false
set_option linter.unusedSimpArgs false
set_option linter.unnecessarySimpa false
namespace Go.Proofs.Ytcgihilcjijckaa.F
open Go.RowKit Go.Proofs.Ytcgihilcjijckaa.K
/-- between two rounds -/
def PlSt (w wr : World) (gq gr : Nat) (cv dv : Value) : Prop := ∃ (vq vr : Value) (n : Int) (l : List Tm) (R : List On), Pr wr gq gr vq vr n l R ∧ ((cv = .pointer none ∧ Own w wr [PF gq gr vq vr]) ∨ ∃ (gc gd : Nat) (vc vd : Value) (nc : Int) (lc : List Tm) (Rc : List On), cv = .pointer (some ⟨gc, 0, none⟩) ∧ dv = .pointer (some ⟨gd, 0, none⟩) ∧ Pr wr gc gd vc vd nc lc Rc ∧ Own w wr [PF gc gd vc vd, PF gq gr vq vr])
/-- with the round's own box -/
def PlB (w wr : World) (gq gr : Nat) (cv dv : Value) (b : Nat) (kd id at_ sp : Int) : Prop := ∃ (vq vr : Value) (n : Int) (l : List Tm) (R : List On), Pr wr gq gr vq vr n l R ∧ BoxO wr b kd id at_ sp ∧ ((cv = .pointer none ∧ Own w wr [BF b, PF gq gr vq vr]) ∨ ∃ (gc gd : Nat) (vc vd : Value) (nc : Int) (lc : List Tm) (Rc : List On), cv = .pointer (some ⟨gc, 0, none⟩) ∧ dv = .pointer (some ⟨gd, 0, none⟩) ∧ Pr wr gc gd vc vd nc lc Rc ∧ Own w wr [PF gc gd vc vd, BF b, PF gq gr vq vr])
theorem Pr.below {w w' : World} {gq gr : Nat} {vq vr : Value} {n : Int} {l : List Tm} {R : List On} (h : Pr w gq gr vq vr n l R) (hb : Below w.heap.size w w') : Pr w' gq gr vq vr n l R := ⟨(h.t.below hb).again, h.like⟩
theorem BoxO.same {w w' : World} {b : Nat} {kd id at_ sp : Int} (h : BoxO w b kd id at_ sp) (hs : ∀ k, BF b k → w'.heap[k]? = w.heap[k]?) : BoxO w' b kd id at_ sp := ⟨(hs b rfl).trans h.blk⟩
theorem BoxO.below {w w' : World} {b : Nat} {kd id at_ sp : Int} (h : BoxO w b kd id at_ sp) (hb : Below w.heap.size w w') : BoxO w' b kd id at_ sp := ⟨(hb.block b (Array.getElem?_eq_some_iff.1 h.blk).1).trans h.blk⟩
theorem own3 {w0 w : World} {A B C : Foot} (hl : ∀ k, A k ∨ B k ∨ C k → w0.heap.size ≤ k ∧ k < w.heap.size) (ab : ∀ k, A k → ¬ B k) (ac : ∀ k, A k → ¬ C k) (bc : ∀ k, B k → ¬ C k) (hb : Below w0.heap.size w0 w) : Own w0 w [A, B, C] := by
  refine ⟨⟨fun S hS k hk => (hl k ?_).2, fun i j hi hj hij k hki hkj => ?_⟩, fun S hS k hk => (hl k ?_).1, hb⟩
  · simp only [List.mem_cons, List.not_mem_nil, or_false] at hS
    rcases hS with rfl | rfl | rfl
    · exact .inl hk
    · exact .inr (.inl hk)
    · exact .inr (.inr hk)
  · simp only [List.length_cons, List.length_nil] at hi hj
    have h1 : i = 0 ∨ i = 1 ∨ i = 2 := by omega
    have h2 : j = 0 ∨ j = 1 ∨ j = 2 := by omega
    rcases h1 with rfl | rfl | rfl <;> rcases h2 with rfl | rfl | rfl <;> simp only [List.getElem_cons_zero, List.getElem_cons_succ] at hki hkj
    · exact hij rfl
    · exact ab k hki hkj
    · exact ac k hki hkj
    · exact ab k hkj hki
    · exact hij rfl
    · exact bc k hki hkj
    · exact ac k hkj hki
    · exact bc k hkj hki
    · exact hij rfl
  · simp only [List.mem_cons, List.not_mem_nil, or_false] at hS
    rcases hS with rfl | rfl | rfl
    · exact .inl hk
    · exact .inr (.inl hk)
    · exact .inr (.inr hk)
theorem own2 {w0 w : World} {A B : Foot} (hl : ∀ k, A k ∨ B k → w0.heap.size ≤ k ∧ k < w.heap.size) (ab : ∀ k, A k → ¬ B k) (hb : Below w0.heap.size w0 w) : Own w0 w [A, B] := by
  refine (own3 (A := fun _ => False) (B := A) (C := B) (fun k hk => ?_) (fun k hk => hk.elim) (fun k hk => hk.elim) ab hb).drop
  rcases hk with hk | hk
  · exact hk.elim
  · exact hl k hk
theorem Own.three {w0 w : World} {A B C : Foot} (h : Own w0 w [A, B, C]) : (∀ k, A k ∨ B k ∨ C k → w0.heap.size ≤ k ∧ k < w.heap.size) ∧ (∀ k, A k → ¬ B k) ∧ (∀ k, A k → ¬ C k) ∧ (∀ k, B k → ¬ C k) := by
  refine ⟨fun k hk => ?_, h.held.sep 0 1 (by simp) (by simp) (by omega), h.held.sep 0 2 (by simp) (by simp) (by omega), h.held.sep 1 2 (by simp) (by simp) (by omega)⟩
  rcases hk with hk | hk | hk
  · exact ⟨h.low A (by simp) k hk, h.held.live A (by simp) k hk⟩
  · exact ⟨h.low B (by simp) k hk, h.held.live B (by simp) k hk⟩
  · exact ⟨h.low C (by simp) k hk, h.held.live C (by simp) k hk⟩
/-- the second of three goes -/
theorem Own.drop2 {w0 w : World} {A B C : Foot} (h : Own w0 w [A, B, C]) : Own w0 w [A, C] := by
  obtain ⟨hl, ab, ac, bc⟩ := h.three
  exact own2 (fun k hk => hl k (hk.imp id .inr)) ac h.base
theorem Own.swap {w0 w : World} {A B C : Foot} (h : Own w0 w [A, B, C]) : Own w0 w [B, A, C] := by
  obtain ⟨hl, ab, ac, bc⟩ := h.three
  exact own3 (fun k hk => hl k (by rcases hk with q | q | q; exact .inr (.inl q); exact .inl q; exact .inr (.inr q))) (fun k h1 h2 => ab k h2 h1) bc ac h.base
theorem plB_start {w wr : World} {gq gr : Nat} {cv dv : Value} (h : PlSt w wr gq gr cv dv) (kd id at_ sp : Int) : PlB w (wr.alloc (.cells #[.int .i64 kd, .int .i64 id, .int .i64 at_, .int .i64 sp] 44)) gq gr cv dv wr.heap.size kd id at_ sp := by
  obtain ⟨vq, vr, n, l, R, hp, hc⟩ := h
  have hb : Below wr.heap.size wr (wr.alloc (.cells #[.int .i64 kd, .int .i64 id, .int .i64 at_, .int .i64 sp] 44)) := (Below.refl _ wr).alloc (Nat.le_refl _) _
  refine ⟨vq, vr, n, l, R, hp.below hb, ⟨heap_alloc_new wr _⟩, ?_⟩
  rcases hc with ⟨rfl, ho⟩ | ⟨gc, gd, vc, vd, nc, lc, Rc, rfl, rfl, hpc, ho⟩
  · exact .inl ⟨rfl, ho.new hb (fun k hk => by obtain rfl : k = wr.heap.size := hk; simp)⟩
  · refine .inr ⟨gc, gd, vc, vd, nc, lc, Rc, rfl, rfl, hpc.below hb, ?_⟩
    exact (ho.new (P := BF wr.heap.size) hb (fun k hk => by obtain rfl : k = wr.heap.size := hk; simp)).swap
/-- behind the copies -/
theorem plB_copy {w wr w1 w2 : World} {gq gr gc : Nat} {vq vr vc vd : Value} {n nc : Int} {l lc : List Tm} {R : List On} {b : Nat} {kd id at_ sp : Int} (hp : Pr wr gq gr vq vr n l R) (hbx : BoxO wr b kd id at_ sp) (ho : Own w wr [BF b, PF gq gr vq vr])
    (hgc : wr.heap.size ≤ gc) (hqc : QAt w1 gc vc nc lc) (hlc : Like lc R) (hvc : ∀ k, vc.ownBlock = some k → wr.heap.size ≤ k) (hb1 : Below wr.heap.size wr w1) (hrd : RAt w2 w1.heap.size vd R) (hb2 : Below w1.heap.size w1 w2) (hvd : ∀ k, vd.ownBlock = some k → w1.heap.size ≤ k) :
    PlB w w2 gq gr (.pointer (some ⟨gc, 0, none⟩)) (.pointer (some ⟨w1.heap.size, 0, none⟩)) b kd id at_ sp := by
  have hb := below_then hb1 hb2
  have hgl := (Array.getElem?_eq_some_iff.1 hqc.blk).1
  refine ⟨vq, vr, n, l, R, hp.below hb, hbx.below hb, .inr ⟨gc, w1.heap.size, vc, vd, nc, lc, R, rfl, rfl, ⟨⟨hqc.below hb2, hrd, by omega, fun e => ?_, fun e => ?_, fun k hk e => ?_, Grown4.refl _ _ _ _ _, fun k hk => .inl hk, fun k hk => .inl hk⟩, hlc⟩, ho.new hb (fun k hk => ?_)⟩⟩
  · have := (Row.live hqc.row e).2; omega
  · have := hvd _ e; omega
  · have := (Row.live hqc.row hk).2; have := hvd k e; omega
  · have hs2 := hb2.size
    have hs1 := hb1.size
    rcases hk with (rfl | hk) | (rfl | hk)
    · exact ⟨hgc, by omega⟩
    · exact ⟨hvc k hk, by have := (Row.live hqc.row hk).2; omega⟩
    · exact ⟨hs1, (Array.getElem?_eq_some_iff.1 hrd.blk).1⟩
    · exact ⟨Nat.le_trans hs1 (hvd k hk), (Row.live hrd.row hk).2⟩
theorem one_step {w w1 w2 : World} {b : Nat} {kd id at_ sp : Int} {P P' : Foot} (hbx : BoxO w1 b kd id at_ sp) (ho : Own w w1 [BF b, P]) (hs : StepW w1 w2 P P') : BoxO w2 b kd id at_ sp ∧ Own w w2 [BF b, P'] :=
  ⟨hbx.same (ho.keep (i := 1) (by simp) rfl hs 0 (by simp) (by omega)), ho.step (i := 1) (by simp) rfl hs⟩
theorem duo_step {w w1 w2 : World} {b gc gd : Nat} {vc vd : Value} {nc : Int} {lc : List Tm} {Rc : List On} {kd id at_ sp : Int} {P P' : Foot} (hbx : BoxO w1 b kd id at_ sp) (hc : Pr w1 gc gd vc vd nc lc Rc) (ho : Own w w1 [PF gc gd vc vd, BF b, P]) (hs : StepW w1 w2 P P') : BoxO w2 b kd id at_ sp ∧ Pr w2 gc gd vc vd nc lc Rc ∧ Own w w2 [PF gc gd vc vd, BF b, P'] :=
  ⟨hbx.same (ho.keep (i := 2) (by simp) rfl hs 1 (by simp) (by omega)), hc.same (ho.keep (i := 2) (by simp) rfl hs 0 (by simp) (by omega)), ho.step (i := 2) (by simp) rfl hs⟩
theorem duo_stepc {w w1 w2 : World} {b gq gr : Nat} {vq vr : Value} {n : Int} {l : List Tm} {R : List On} {P P' : Foot} (hp : Pr w1 gq gr vq vr n l R) (ho : Own w w1 [P, BF b, PF gq gr vq vr]) (hs : StepW w1 w2 P P') : Pr w2 gq gr vq vr n l R ∧ Own w w2 [P', BF b, PF gq gr vq vr] :=
  ⟨hp.same (ho.keep (i := 0) (by simp) rfl hs 2 (by simp) (by omega)), ho.step (i := 0) (by simp) rfl hs⟩
theorem wholeP {w : World} {gq gr : Nat} {vq vr : Value} {n : Int} {l : List Tm} {R : List On} (h : Pr w gq gr vq vr n l R) : Calls Try.prog 15 #[.pointer (some ⟨gq, 0, none⟩), .pointer (some ⟨gr, 0, none⟩)] w fun e w' => e = .returned (.bool true) ∧ Below w.heap.size w w' := whole15 gq gr w vq vr n l R h.like h.t.q h.t.r
/-- two new ones, and a third that is not yet used -/
theorem pl_new {w w1 : World} (hq : QAt w1 w.heap.size (.slice none 0 0) 0 []) (hb : Below w.heap.size w w1) : PlSt w ((w1.alloc (.cells #[.slice none 0 0] 41)).alloc (.cells #[.slice none 0 0] 41)) w.heap.size w1.heap.size (.pointer none) (.pointer (some ⟨w1.heap.size + 1, 0, none⟩)) := by
  have hlt := (Array.getElem?_eq_some_iff.1 hq.blk).1
  have hb3 := (Below.refl _ (w1.alloc (.cells #[.slice none 0 0] 41))).alloc (Nat.le_refl _) (.cells #[.slice none 0 0] 41)
  have hb2 : Below w.heap.size w ((w1.alloc (.cells #[.slice none 0 0] 41)).alloc (.cells #[.slice none 0 0] 41)) := (hb.alloc hb.size _).alloc (by have := hb.size; simp; omega) _
  refine ⟨_, _, 0, [], [], ⟨((tw_new hq hb).below hb3).again, Like.nil⟩, .inl ⟨rfl, (Own.start w).new hb2 (fun k hk => ?_)⟩⟩
  rcases hk with (rfl | hk) | (rfl | hk)
  · exact ⟨Nat.le_refl _, by simp; omega⟩
  · simp [Value.ownBlock] at hk
  · exact ⟨by omega, by simp; omega⟩
  · simp [Value.ownBlock] at hk
theorem PlSt.base {w wr : World} {gq gr : Nat} {cv dv : Value} (h : PlSt w wr gq gr cv dv) : Below w.heap.size w wr := by
  obtain ⟨vq, vr, n, l, R, hp, ⟨-, ho⟩ | ⟨gc, gd, vc, vd, nc, lc, Rc, -, -, -, ho⟩⟩ := h
  · exact ho.base
  · exact ho.base
end Go.Proofs.Ytcgihilcjijckaa.F
