import Derived.Test.YtcgihilcjijckaaC1
import Derived.Deep.LoopGhost
import Derived.WalkMore
set_option linter.unusedVariables false
set_option linter.unusedSimpArgs false
namespace Go.Proofs.Ytcgihilcjijckaa.F
open Go.RowKit Go.Proofs.Ytcgihilcjijckaa.K
theorem elI : ElemT Try.prog 27 3 1 8 (.int .i64 0) := elemT_of Try.underlying27 (by kernel_rfl) rfl (by decide)
def dueT (now : Int) (l : List Tm) : List Tm := l.takeWhile (fun y => decide (y.at_ ≤ now))
def restT (now : Int) (l : List Tm) : List Tm := l.dropWhile (fun y => decide (y.at_ ≤ now))
theorem dueT_map (now : Int) (l : List Tm) : (dueT now l).map Tm.on = dueL now (l.map Tm.on) ∧ (restT now l).map Tm.on = restL now (l.map Tm.on) := by
  unfold dueT restT dueL restL
  induction l with
  | nil => exact ⟨rfl, rfl⟩
  | cons t l ih =>
    by_cases h : t.at_ ≤ now
    · simp [h, Tm.on, ih]
    · simp [h, Tm.on]
theorem restT_len (now : Int) (l : List Tm) : (restT now l).length ≤ l.length := by
  unfold restT
  exact (List.dropWhile_sublist _).length_le
def ints (l : List Int) : List Value := l.map (Value.int .i64)
/-- two values lie apart -/
def Apart (u v : Value) : Prop := ∀ k, u.ownBlock = some k → v.ownBlock ≠ some k
variable (g : Nat) (w : World)
/-- what Due leaves: its list; the queue -/
structure DueR (now : Int) (g : Nat) (v : Value) (n : Int) (l : List Tm) (w : World) (e : Ending) (w' : World) : Prop where
  ret : ∃ u v', e = .returned u ∧ Row w' w.heap.size 3 1 u (dueT now l).length (ints ((dueT now l).map Tm.id)) ∧ QAt w' g v' n (restT now l) ∧ (∀ k, v'.ownBlock = some k → v.ownBlock = some k ∨ w.heap.size ≤ k) ∧ Apart u v'
  grow : Grown2 w w' g v.ownBlock
theorem _root_.Go.Proofs.Ytcgihilcjijckaa.K.Row.grown2 {w w' : World} {B : Nat} {e : TypeId} {size : Nat} {u : Value} {n : Nat} {xs : List Value} {g : Nat} {r : Option Nat} (h : Row w B e size u n xs) (hg : Grown2 w w' g r) (h1 : u.ownBlock ≠ some g) (h2 : ∀ k, u.ownBlock = some k → r ≠ some k) : Row w' B e size u n xs := by
  refine ⟨h.len, h.form.imp id fun ⟨b, cap, cur, q1, q2, q3, q4⟩ => ⟨b, cap, cur, q1, q2, ?_, q4⟩⟩
  have e1 : u.ownBlock = some b := by rw [q1]; rfl
  exact (hg.block b (Array.getElem?_eq_some_iff.1 q3).1 (fun e => h1 (by rw [e1, e])) (fun e => h2 b e1 e.symm)).trans q3
theorem QAt.grown {w w' : World} {g : Nat} {v : Value} {n : Int} {l : List Tm} {r : Option Nat} (h : QAt w g v n l) (hg : w.grownBy w' r) (h1 : r ≠ some g) (h2 : ∀ k, r = some k → v.ownBlock ≠ some k) : QAt w' g v n l :=
  ⟨(hg.block g (Array.getElem?_eq_some_iff.1 h.blk).1 (fun e => h1 e.symm)).trans h.blk, h.row.kept hg (fun k hk e => h2 k e hk), h.ne⟩
theorem due_end {w wr : World} {g : Nat} {v v1 ov : Value} {n now : Int} {l l1 : List Tm} {xs : List Int} (h0 : dueT now l1 = []) (hr0 : restT now l1 = l1) (HX : xs ++ (dueT now l1).map Tm.id = (dueT now l).map Tm.id) (HT : restT now l1 = restT now l) (HR : Row wr w.heap.size 3 1 ov xs.length (ints xs)) (HS : SetS w wr g v v1 n l1) (HA : Apart ov v1) : DueR now g v n l w (.returned ov) wr := by
  rw [h0] at HX
  simp only [List.map_nil, List.append_nil] at HX
  have hlen : xs.length = (dueT now l).length := by rw [HX]; simp
  refine ⟨⟨ov, v1, rfl, ?_, ?_, HS.own, HA⟩, HS.grow⟩
  · rw [← HX, ← hlen]; exact HR
  · rw [← HT, hr0]; exact HS.q
theorem _root_.Go.Proofs.Ytcgihilcjijckaa.K.Row.live {w : World} {B : Nat} {e : TypeId} {size : Nat} {v : Value} {n : Nat} {xs : List Value} (h : Row w B e size v n xs) {k : Nat} (hk : v.ownBlock = some k) : B ≤ k ∧ k < w.heap.size := by
  rcases h.form with ⟨h1, h2⟩ | ⟨g, cap, cur, h1, h2, h3, -⟩
  · rw [h1] at hk; simp [Value.ownBlock] at hk
  · rw [h1] at hk
    simp only [Value.ownBlock, Option.some.injEq] at hk
    subst hk
    exact ⟨h2, (Array.getElem?_eq_some_iff.1 h3).1⟩

theorem due_row {w wr w1 w2 : World} {g : Nat} {v1 ov : Value} {n1 : Int} {l1 : List Tm} {m : Nat} {xs : List Value} (hlt : g < w.heap.size) (HR : Row wr w.heap.size 3 1 ov m xs) (HA : Apart ov v1) (hq : QR g v1 n1 l1 wr w1) (hb : Below w1.heap.size w1 w2) : Row w2 w.heap.size 3 1 ov m xs :=
  (HR.grown2 hq.grow (fun e => by have := (HR.live e).1; omega) (fun k hk => HA k hk)).below hb
theorem due_next {w wr w1 w2 w3 : World} {g : Nat} {v v1 ov ov' : Value} {n : Int} {l0 l1 : List Tm} {m m' : Nat} {xs xs' : List Value} (hlt : g < w.heap.size) (HR : Row wr w.heap.size 3 1 ov m xs) (HS : SetS w wr g v v1 n l0) (HA : Apart ov v1) (hq : QR g v1 n l1 wr w1) (hb : Below w1.heap.size w1 w2) (hr : RowR w2 w3 w.heap.size 3 1 ov ov' m' xs') : ∃ v2, Hid (Row w3 w.heap.size 3 1 ov' m' xs') ∧ Hid (SetS w w3 g v v2 n l1) ∧ Hid (Apart ov' v2) := by
  obtain ⟨⟨v2, q1, q2⟩, q3⟩ := hq
  have a1 : Apart ov v2 := fun k hk e => by
    rcases q2 k e with h | h
    · exact HA k hk h
    · have := (HR.live hk).2; omega
  have hw2 := hb.size
  have q4 := q1.below hb
  have own : ∀ k, v2.ownBlock = some k → v.ownBlock = some k ∨ w.heap.size ≤ k := fun k hk => by
    rcases q2 k hk with h | h
    · exact HS.own k h
    · exact .inr (Nat.le_trans HS.grow.size h)
  have hog : ov.ownBlock ≠ some g := fun e => by have := (HR.live e).1; omega
  have q5 : QAt w3 g v2 n l1 := by
    refine ⟨(hr.grow.block g (Array.getElem?_eq_some_iff.1 q4.blk).1 ?_).trans q4.blk, ?_, q4.ne⟩
    · exact fun e => hog e.symm
    · exact q4.row.kept hr.grow (fun k hk e => a1 k e hk)
  refine ⟨v2, Lib.hid hr.row, Lib.hid ⟨q5, ?_, own⟩, Lib.hid (fun k hk e => ?_)⟩
  · have g1 : Grown2 w w1 g v.ownBlock := HS.grow.trans q3 HS.own
    have g2 : Grown2 w w2 g v.ownBlock := ⟨hb.os.trans g1.os, hb.tape.trans g1.tape, hb.output.trans g1.output, Nat.le_trans g1.size hb.size, fun k hk h1 h2 => (hb.block k (Nat.lt_of_lt_of_le hk g1.size)).trans (g1.block k hk h1 h2)⟩
    refine ⟨hr.grow.os.trans g2.os, hr.grow.tape.trans g2.tape, hr.grow.output.trans g2.output, Nat.le_trans g2.size hr.grow.size, fun k hk h1 h2 => (hr.grow.block k (Nat.lt_of_lt_of_le hk g2.size) (fun e => ?_)).trans (g2.block k hk h1 h2)⟩
    have := (HR.live e.symm).1
    omega
  · have hk2 := (q4.row.live e).2
    rcases hr.own k hk with h | h
    · exact a1 k h e
    · omega
set_option maxHeartbeats 4000000 in
theorem due9 (v : Value) (n now : Int) (l : List Tm) (hl : l.length ≤ 64) (h : QAt w g v n l) : Calls Try.prog 9 #[.pointer (some ⟨g, 0, none⟩), .int .i64 now] w (DueR now g v n l w) := by
  have HQ := Lib.hid h
  have hlt : g < w.heap.size := (Array.getElem?_eq_some_iff.1 h.blk).1
  have R0 : Hid (Row w w.heap.size 3 1 (.slice none 0 0) 0 (ints [])) := Lib.hid (Row.nil _ _ _ _)
  clear h
  go_enter Try.func9, Try.ntmps9
  go_wp2_with fail
  go_step3
  go_wp2_with fail
  go_step3
  go_wp2_with fail
  go_loopg [5] l.length (fun gn ov wr => ∃ (l1 : List Tm) (xs : List Int) (v1 : Value), gn = l1.length ∧ l1.length ≤ 64 ∧ xs.length + l1.length ≤ 64 ∧ Hid (xs ++ (dueT now l1).map Tm.id = (dueT now l).map Tm.id) ∧ Hid (restT now l1 = restT now l) ∧ Hid (Row wr w.heap.size 3 1 ov xs.length (ints xs)) ∧ Hid (SetS w wr g v v1 n l1) ∧ Hid (Apart ov v1))
  case atStart => exact ⟨l, [], v, rfl, hl, by simpa using hl, Lib.hid rfl, Lib.hid rfl, R0, Lib.hid ⟨HQ.out, Grown2.refl _ _ _, fun k hk => .inl hk⟩, Lib.hid (fun k hk => by simp [Value.ownBlock] at hk)⟩
  case round =>
    obtain ⟨l1, xs, v1, rfl, hl1, hx, HX, HT, HR, HS, HA⟩ := hrel
    clear R0
    cases l1 with
    | nil =>
      have hP := pop_none g wr v1 n now HS.out.q
      go_wp2_with fail
      refine hP.mono ?_
      rintro e w1 ⟨rfl, rfl⟩
      go_wp2_with fail
      try rw [Exit.noGoto_ret]
      go_ret
      exact due_end (l1 := []) rfl rfl HX.out HT.out HR.out HS.out HA.out
    | cons t l1 =>
      by_cases ht : t.at_ ≤ now
      · have hP := pop_yes g wr v1 n now t l1 hl1 HS.out.q ht
        have HX2 : Hid ((xs ++ [t.id]) ++ (dueT now l1).map Tm.id = (dueT now l).map Tm.id) := Lib.hid (by rw [← HX.out]; unfold dueT; simp [ht])
        have HT2 : Hid (restT now l1 = restT now l) := Lib.hid (by rw [← HT.out]; unfold restT; simp [ht])
        clear HX HT ht
        go_wp2_with fail
        refine hP.mono ?_
        rintro e w1 ⟨rfl, hq⟩
        have HQ1 := Lib.hid hq
        clear hP hq
        have hbx : Below w1.heap.size w1 (w1.alloc (.cells #[.int .i64 t.id] 3)) := (Below.refl _ _).alloc (Nat.le_refl _) _
        have HBX := Lib.hid hbx
        have hrow := due_row hlt HR.out HA.out HQ1.out hbx
        have hws := Nat.le_trans HS.out.grow.size (Nat.le_trans HQ1.out.grow.size hbx.size)
        clear hbx
        have s1 : xs.length + 1 ≤ maxLen := by unfold maxLen; omega
        have s2 : (xs.length + 1) * 8 ≤ 140737488355328 := by omega
        go_wp2_with (at_builtin; refine wpList_row elI rfl _ _ rfl w.heap.size _ _ _ rfl hrow _ 1 _ rfl (src_one w1 (.int .i64 t.id) 3 rfl) s1 s2 hws ?_)
        intro v4 w4 hr4
        obtain ⟨v2, HR2, HS2, HA2⟩ := due_next hlt HR.out HS.out HA.out HQ1.out HBX.out hr4
        clear hr4 hrow HR HS HA HQ1 HBX
        go_wp2_with fail
        go_roundg l1.length
        case rel => exact ⟨l1, xs ++ [t.id], v2, rfl, by simp only [List.length_cons] at hl1; omega, by simp only [List.length_cons, List.length_append, List.length_nil] at hx ⊢; omega, HX2, HT2, by simpa [ints] using HR2, HS2, HA2⟩
        case measure => simp
      · have hP := pop_late g wr v1 n now t l1 HS.out.q (by omega)
        have h0 : Hid (dueT now (t :: l1) = [] ∧ restT now (t :: l1) = t :: l1) := Lib.hid (by unfold dueT restT; simp [ht])
        go_wp2_with fail
        refine hP.mono ?_
        rintro e w1 ⟨rfl, rfl⟩
        go_wp2_with fail
        try rw [Exit.noGoto_ret]
        go_ret
        exact due_end h0.out.1 h0.out.2 HX.out HT.out HR.out HS.out HA.out
end Go.Proofs.Ytcgihilcjijckaa.F
