import Derived.Test.YtedhldcoddbbdaaU8
import Derived.Deep.CutBlock
import Derived.Test.YtedhldcoddbbdaaNA
import Derived.Test.YtedhldcoddbbdaaQ4
import Derived.Test.YtedhldcoddbbdaaN1
import Derived.Test.YtedhldcoddbbdaaTA
import Derived.Test.YtedhldcoddbbdaaQ3
set_option linter.unusedVariables false
set_option linter.unusedSimpArgs false
set_option linter.unnecessarySimpa false
namespace Go.Proofs.Ytedhldcoddbbdaa.F
open Go.RowKit Go.Proofs.Ytedhldcoddbbdaa.K
attribute [local go_sem] xor16 cvw16
theorem and1_16 (x : BitVec 16) : bits .and .u16 (v16 x) 1 = if x.getLsbD 0 then 1 else 0 := by
  have h : bits .and .u16 (v16 x) 1 = v16 (x &&& 1#16) := by
    simp only [bits, v16, IntKind.bits, BitVec.ofInt_natCast, BitVec.ofNat_toNat, BitVec.setWidth_eq]
    exact w16 _ (x &&& 1#16).isLt
  rw [h]
  have h2 : x &&& 1#16 = if x.getLsbD 0 then 1#16 else 0#16 := by
    apply BitVec.eq_of_getLsbD_eq
    intro i hi
    cases i with
    | zero => rw [BitVec.getLsbD_and]; cases hx : x.getLsbD 0 <;> simp
    | succ i => rw [BitVec.getLsbD_and]; cases hx : x.getLsbD 0 <;> simp
  rw [h2]
  split <;> rfl
theorem shr1_16 (x : BitVec 16) : v16 x / (2 : Int) = v16 (x >>> 1) := by
  simp only [v16, BitVec.toNat_ushiftRight, Nat.shiftRight_eq_div_pow]; omega
theorem stN_snoc {n : Nat} (p : BitVec n) (k : Nat) (r : BitVec n) : stN p (k + 1) r = stp p (stN p k r) := by
  rw [stN_add]
  rfl
set_option maxHeartbeats 4000000 in
theorem sum40 (l : List (BitVec 8)) (v : Value) (w : World) (h : BytesAt w v l) : Calls Try.prog 40 #[v] w fun e w' => e = .returned (.int .u16 (v16 (s16 l))) ∧ w = w' := by
  have HI := Lib.hid h
  obtain ⟨A, cap, rfl, k1, k2, -, -⟩ := h.at_
  unfold maxLen at k2
  clear h
  have h0 : (65535 : Int) = v16 (crc P16 0xffff#16 []) := by decide
  go_enter Try.func40, Try.ntmps40
  go_wp2_with fail
  go_loopw [3, 4] (fun r i wr => w = wr ∧ ∃ k : Nat, k ≤ l.length ∧ i = .int .i64 k ∧ r = .int .u16 (v16 (crc P16 0xffff#16 (l.take k)))) (fun _ i _ => l.length - (intOf i).toNat)
  case atStart => exact ⟨rfl, 0, by omega, rfl, by simp [← h0]⟩
  case round =>
    clear h0
    obtain ⟨rfl, k, hk, rfl, rfl⟩ := hrel
    by_cases hkl : k < l.length
    · obtain ⟨b1, o1, hA, d0⟩ := BytesAt.get HI.out hkl
      subst hA
      have i0 : (0 : Int) ≤ (k : Int) := by omega
      have i1 : (k : Int) < (l.length : Int) := by omega
      have HS := Lib.hid (show crc P16 0xffff#16 (l.take (k + 1)) = stN P16 8 (crc P16 0xffff#16 (l.take k) ^^^ l[k].setWidth 16) by rw [take_snoc l k hkl, crc_append]; rfl)
      generalize crc P16 0xffff#16 (l.take k) = R at *
      generalize l[k] = c at *
      obtain ⟨W, rfl⟩ : ∃ W, W = w := ⟨_, rfl⟩
      go_wp2_with fail
      have h8 := Lib.hid (rfl : stN P16 0 (R ^^^ c.setWidth 16) = R ^^^ c.setWidth 16)
      generalize R ^^^ c.setWidth 16 = X at *
      go_loopw [3, 5] (fun r i wr => W = wr ∧ ∃ m : Nat, m ≤ 8 ∧ i = .int .i64 m ∧ r = .int .u16 (v16 (stN P16 m X))) (fun _ i _ => 8 - (intOf i).toNat)
      case atStart => exact ⟨rfl, 0, by omega, rfl, rfl⟩
      case round =>
        obtain ⟨rfl, m, hm, rfl, rfl⟩ := hrel
        by_cases hm8 : m < 8
        · have HS2 := Lib.hid (stN_snoc P16 m X)
          have j1 : (m : Int) < 8 := by omega
          generalize stN P16 m X = Y at *
          have e1 := and1_16 Y
          have e2 := shr1_16 Y
          have e3 := xor16 (Y >>> 1) P16
          have e4 : v16 P16 = 33800 := by decide
          rw [e4] at e3
          cases hY : Y.getLsbD 0
          · rw [hY] at e1
            have HS3 : Hid (stp P16 Y = Y >>> 1) := Lib.hid (by unfold stp; rw [hY]; simp)
            clear hY
            go_wp2_with fail
            go_roundw
            case rel => exact ⟨trivial, m + 1, by omega, by go_num, by rw [HS2.out, HS3.out]⟩
            case measure => simp [intOf]; omega
          · rw [hY] at e1
            have HS3 : Hid (stp P16 Y = Y >>> 1 ^^^ P16) := Lib.hid (by unfold stp; rw [hY]; simp)
            clear hY
            go_wp2_with fail
            go_roundw
            case rel => exact ⟨trivial, m + 1, by omega, by go_num, by rw [HS2.out, HS3.out]⟩
            case measure => simp [intOf]; omega
        · obtain rfl : m = 8 := by omega
          go_wp2_with fail
          go_roundw
          case rel => exact ⟨trivial, k + 1, by omega, by go_num, by rw [HS.out]⟩
          case measure => simp [intOf]; omega
    · obtain rfl : k = l.length := by omega
      rw [List.take_length]
      have hn := not16 (crc P16 0xffff#16 l)
      go_wp2_with fail
      go_ret
      exact ⟨rfl, rfl⟩
end Go.Proofs.Ytedhldcoddbbdaa.F

/- Plain: the reference's receiver, and that the program's is like it. -/
namespace Go.Proofs.Ytedhldcoddbbdaa.F
open Go.RowKit Go.Proofs.Ytedhldcoddbbdaa.K
/-- the reference's receiver -/
structure Rn where
  mru : Int
  accm : Int
  pfc : Bool
  acfc : Bool
  B : List (BitVec 8)
  c0 : Int
  c1 : Int
  c2 : Int
  c3 : Int
  c4 : Int
  c5 : Int
/-- one byte is undone: is the next one turned?, what has come -/
def und (s : Bool × List (BitVec 8)) (c : BitVec 8) : Bool × List (BitVec 8) := if !s.1 && decide (c = 125#8) then (true, s.2) else (false, s.2 ++ [if s.1 then c ^^^ 32#8 else c])
def undL (l : List (BitVec 8)) : Bool × List (BitVec 8) := l.foldl und (false, [])
theorem undL_snoc (l : List (BitVec 8)) (c : BitVec 8) : undL (l ++ [c]) = und (undL l) c := by unfold undL; rw [List.foldl_append]; rfl
def Rn.clear (r : Rn) : Rn := { r with B := [] }
/-- a flag has come -/
def Rn.fin (r : Rn) : Rn × Option (Int × List (BitVec 8)) :=
  if r.B = [] then (r.clear, none)
  else if r.B.getLast? = some 125#8 then ({ r.clear with c4 := wrap64 (r.c4 + 1) }, none)
  else if (undL r.B).2.length < 4 then ({ r.clear with c1 := wrap64 (r.c1 + 1) }, none)
  else if r.mru + 6 < ((undL r.B).2.length : Int) then ({ r.clear with c2 := wrap64 (r.c2 + 1) }, none)
  else if good16 (undL r.B).2 = false then ({ r.clear with c3 := wrap64 (r.c3 + 1) }, none)
  else if (parseP ((undL r.B).2.take ((undL r.B).2.length - 2)) r.pfc r.acfc).1 ≠ 0 then ({ r.clear with c5 := wrap64 (r.c5 + 1) }, none)
  else ({ r.clear with c0 := wrap64 (r.c0 + 1) }, some ((parseP ((undL r.B).2.take ((undL r.B).2.length - 2)) r.pfc r.acfc).2))
def Rn.put (r : Rn) (c : BitVec 8) : Rn := if dropF r.accm c.toNat then r else { r with B := r.B ++ [c] }
def Rn.step (r : Rn) (c : BitVec 8) : Rn × Option (Int × List (BitVec 8)) := if c = 126#8 then r.fin else (r.put c, none)
def Rn.feed (r : Rn) : List (BitVec 8) → Rn × List (Int × List (BitVec 8))
  | [] => (r, [])
  | c :: l => (((r.step c).1.feed l).1, (r.step c).2.toList ++ ((r.step c).1.feed l).2)
theorem Rn.feed_append (r : Rn) (p q : List (BitVec 8)) : r.feed (p ++ q) = (((r.feed p).1.feed q).1, (r.feed p).2 ++ ((r.feed p).1.feed q).2) := by
  induction p generalizing r with
  | nil => simp [Rn.feed]
  | cons c l ih => simp only [List.cons_append, Rn.feed, ih, List.append_assoc]
theorem Rn.feed_take (r : Rn) (p : List (BitVec 8)) (k : Nat) (h : k < p.length) : r.feed (p.take (k + 1)) = (((r.feed (p.take k)).1.step p[k]).1, (r.feed (p.take k)).2 ++ ((r.feed (p.take k)).1.step p[k]).2.toList) := by
  rw [List.take_succ_eq_append_getElem h, Rn.feed_append]
  simp [Rn.feed]
/-- the two receivers are alike -/
structure Sim (d : Ln) (r : Rn) : Prop where
  mru : d.mru = r.mru
  m0 : 64 ≤ r.mru
  pfc : d.pfc = r.pfc
  acfc : d.acfc = r.acfc
  drop : d.drop = dropF r.accm
  any : d.any = !r.B.isEmpty
  last : r.B ≠ [] → r.B.getLast? = some d.last
  esc : d.esc = (undL r.B).1
  l : d.l = (undL r.B).2.take (r.mru + 7).toNat
  cs : d.c0 = r.c0 ∧ d.c1 = r.c1 ∧ d.c2 = r.c2 ∧ d.c3 = r.c3 ∧ d.c4 = r.c4 ∧ d.c5 = r.c5
theorem Sim.clear {d : Ln} {r : Rn} (h : Sim d r) : Sim d.reset r.clear := by
  obtain ⟨h1, h2, h3, h4, h5, -, -, -, -, h6⟩ := h
  exact ⟨h1, h2, h3, h4, h5, rfl, fun e => absurd rfl e, rfl, by simp [Ln.reset, Rn.clear, undL], h6⟩
theorem Sim.put {d : Ln} {r : Rn} (h : Sim d r) (c : BitVec 8) : Sim (d.put c) (r.put c) := by
  obtain ⟨h1, h2, h3, h4, h5, h6, h7, h8, h9, h10⟩ := h
  unfold Ln.put Rn.put
  rw [h5]
  cases hd : dropF r.accm c.toNat
  · simp only [Bool.false_eq_true, if_false]
    have hu := undL_snoc r.B c
    have hlast : (r.B ++ [c]).getLast? = some c := by simp
    have hemp : (r.B ++ [c]).isEmpty = false := by simp
    cases hq : (!d.esc && decide (c = 125#8))
    · simp only [Bool.false_eq_true, if_false]
      have hu2 : und (undL r.B) c = (false, (undL r.B).2 ++ [if (undL r.B).1 then c ^^^ 32#8 else c]) := by
        unfold und
        rw [← h8, hq]
        rfl
      refine ⟨h1, h2, h3, h4, rfl, by simp, fun _ => hlast, by rw [hu, hu2], ?_, h10⟩
      show (if (d.l.length : Int) ≤ d.mru + 6 then d.l ++ [if d.esc = true then c ^^^ 32#8 else c] else d.l) = (undL (r.B ++ [c])).2.take (r.mru + 7).toNat
      rw [hu, hu2, h8, h9, h1]
      dsimp only
      rw [List.length_take]
      by_cases hl : (undL r.B).2.length ≤ (r.mru + 6).toNat
      · rw [if_pos (by omega), List.take_of_length_le (by omega), List.take_of_length_le (by simp; omega)]
      · rw [if_neg (by omega), List.take_append_of_le_length (by omega)]
    · simp only [if_true]
      have hu2 : und (undL r.B) c = (true, (undL r.B).2) := by
        unfold und
        rw [← h8, hq]
        rfl
      exact ⟨h1, h2, h3, h4, rfl, by simp, fun _ => hlast, by rw [hu, hu2], by rw [hu, hu2]; exact h9, h10⟩
  · simp only [if_true]
    exact ⟨h1, h2, h3, h4, h5, h6, h7, h8, h9, h10⟩
theorem undL_esc (l : List (BitVec 8)) (h : (undL l).1 = true) : l.getLast? = some 125#8 := by
  rcases List.eq_nil_or_concat l with rfl | ⟨p, c, rfl⟩
  · simp [undL] at h
  · rw [List.concat_eq_append, undL_snoc] at h
    rw [List.concat_eq_append]
    unfold und at h
    split at h
    · rename_i hc
      simp only [Bool.and_eq_true, decide_eq_true_eq] at hc
      simp [hc.2]
    · simp at h
theorem Sim.fin {d : Ln} {r : Rn} (h : Sim d r) : Sim d.fin.1 r.fin.1 ∧ d.fin.2 = r.fin.2 := by
  have hc := h.clear
  obtain ⟨h1, h2, h3, h4, h5, h6, h7, h8, h9, h10, h11, h12, h13, h14, h15⟩ := h
  have key : ∀ (d2 : Ln) (r2 : Rn), Sim d2 r2 → True := fun _ _ _ => trivial
  unfold Ln.fin Rn.fin
  by_cases hB : r.B = []
  · have e : d.any = false := by rw [h6, hB]; rfl
    simp only [if_pos hB, if_pos e]
    exact ⟨hc, trivial⟩
  · have e : ¬ d.any = false := by rw [h6]; simp [hB]
    simp only [if_neg hB, if_neg e]
    have hl := h7 hB
    obtain ⟨q1, q2, q3, q4, q5, q6, q7, q8, q9, q10, q11, q12, q13, q14, q15⟩ := hc
    by_cases hla : d.last = 125#8
    · have e2 : r.B.getLast? = some 125#8 := by rw [hl, hla]
      simp only [if_pos hla, if_pos e2]
      exact ⟨⟨q1, q2, q3, q4, q5, q6, q7, q8, q9, q10, q11, q12, q13, by show wrap64 (d.c4 + 1) = wrap64 (r.c4 + 1); rw [h14], q15⟩, trivial⟩
    · have e2 : ¬ r.B.getLast? = some 125#8 := by rw [hl]; simpa using hla
      simp only [if_neg hla, if_neg e2]
      generalize hu : (undL r.B).2 = u at *
      have hlen : d.l.length = min (r.mru + 7).toNat u.length := by rw [h9, List.length_take]
      by_cases hs : u.length < 4
      · have e3 : d.l.length < 4 := by omega
        simp only [if_pos hs, if_pos e3]
        exact ⟨⟨q1, q2, q3, q4, q5, q6, q7, q8, q9, q10, by show wrap64 (d.c1 + 1) = wrap64 (r.c1 + 1); rw [h11], q12, q13, q14, q15⟩, trivial⟩
      · have e3 : ¬ d.l.length < 4 := by omega
        simp only [if_neg hs, if_neg e3]
        by_cases hg : r.mru + 6 < (u.length : Int)
        · have e4 : d.mru + 6 < (d.l.length : Int) := by omega
          simp only [if_pos hg, if_pos e4]
          exact ⟨⟨q1, q2, q3, q4, q5, q6, q7, q8, q9, q10, q11, by show wrap64 (d.c2 + 1) = wrap64 (r.c2 + 1); rw [h12], q13, q14, q15⟩, trivial⟩
        · have e4 : ¬ d.mru + 6 < (d.l.length : Int) := by omega
          simp only [if_neg hg, if_neg e4]
          have hdl : d.l = u := by rw [h9, List.take_of_length_le (by omega)]
          rw [hdl, h3, h4]
          by_cases hq : good16 u = false
          · simp only [if_pos hq]
            exact ⟨⟨q1, q2, q3, q4, q5, q6, q7, q8, q9, q10, q11, q12, by show wrap64 (d.c3 + 1) = wrap64 (r.c3 + 1); rw [h13], q14, q15⟩, trivial⟩
          · simp only [if_neg hq]
            by_cases hp : (parseP (u.take (u.length - 2)) r.pfc r.acfc).1 ≠ 0
            · simp only [if_pos hp]
              exact ⟨⟨q1, q2, q3, q4, q5, q6, q7, q8, q9, q10, q11, q12, q13, q14, by show wrap64 (d.c5 + 1) = wrap64 (r.c5 + 1); rw [h15]⟩, trivial⟩
            · simp only [if_neg hp]
              exact ⟨⟨q1, q2, q3, q4, q5, q6, q7, q8, q9, by show wrap64 (d.c0 + 1) = wrap64 (r.c0 + 1); rw [h10], q11, q12, q13, q14, q15⟩, trivial⟩
theorem Sim.step {d : Ln} {r : Rn} (h : Sim d r) (c : BitVec 8) : Sim (stepL d c).1 (r.step c).1 ∧ (stepL d c).2 = (r.step c).2 := by
  unfold stepL Rn.step
  split
  · exact h.fin
  · exact ⟨h.put c, rfl⟩
theorem Sim.feed {d : Ln} {r : Rn} (h : Sim d r) (l : List (BitVec 8)) : Sim (feedL d l).1 (r.feed l).1 ∧ (feedL d l).2 = (r.feed l).2 := by
  induction l generalizing d r with
  | nil => exact ⟨h, rfl⟩
  | cons c l ih =>
    obtain ⟨h1, h2⟩ := h.step c
    obtain ⟨h3, h4⟩ := ih h1
    simp only [feedL, Rn.feed]
    exact ⟨h3, by rw [h2, h4]⟩
def Rn.start (m a : Int) (p q : Bool) : Rn := ⟨m, a, p, q, [], 0, 0, 0, 0, 0, 0⟩
theorem Sim.start (m a : Int) (p q : Bool) (h : 64 ≤ m) : Sim (Ln.start m (dropF a) p q) (Rn.start m a p q) :=
  ⟨rfl, h, rfl, rfl, rfl, rfl, fun e => absurd rfl e, rfl, by simp [Ln.start, Rn.start, undL], rfl, rfl, rfl, rfl, rfl, rfl⟩
theorem undL_len (l : List (BitVec 8)) : (undL l).2.length ≤ l.length := by
  have : ∀ (l : List (BitVec 8)) (s : Bool × List (BitVec 8)), (l.foldl und s).2.length ≤ s.2.length + l.length := by
    intro l
    induction l with
    | nil => intro s; simp
    | cons c r ih =>
      intro s
      have h1 := ih (und s c)
      have h2 : (und s c).2.length ≤ s.2.length + 1 := by unfold und; split <;> simp
      simp only [List.foldl_cons, List.length_cons]
      omega
  have := this l (false, [])
  simpa [undL] using this
theorem Rn.step_len (r : Rn) (c : BitVec 8) : (r.step c).1.B.length ≤ r.B.length + 1 := by
  unfold Rn.step
  split
  · unfold Rn.fin
    repeat' split
    all_goals simp [Rn.clear]
  · unfold Rn.put
    split <;> simp
theorem Rn.feed_len (r : Rn) (l : List (BitVec 8)) : (r.feed l).1.B.length ≤ r.B.length + l.length := by
  induction l generalizing r with
  | nil => simp [Rn.feed]
  | cons c l ih =>
    have h1 := ih (r.step c).1
    have h2 := r.step_len c
    simp only [Rn.feed, List.length_cons]
    omega
theorem Rn.step_same (r : Rn) (c : BitVec 8) : (r.step c).1.mru = r.mru ∧ (r.step c).1.accm = r.accm := by
  unfold Rn.step
  split
  · unfold Rn.fin
    repeat' split
    all_goals exact ⟨rfl, rfl⟩
  · unfold Rn.put
    split <;> exact ⟨rfl, rfl⟩
end Go.Proofs.Ytedhldcoddbbdaa.F

namespace Go.Proofs.Ytedhldcoddbbdaa.F
open Go.RowKit Go.Proofs.Ytedhldcoddbbdaa.K
def RC (r : Rn) (v : Value) : Array Value := #[.int .i64 r.mru, .int .i64 r.accm, .bool r.pfc, .bool r.acfc, v, .int .i64 r.c0, .int .i64 r.c1, .int .i64 r.c2, .int .i64 r.c3, .int .i64 r.c4, .int .i64 r.c5]
/-- it lies at a block -/
structure RnAt (w : World) (g : Nat) (r : Rn) (v : Value) : Prop where
  blk : w.heap[g]? = some (.cells (RC r v) 58 (0, 0))
  row : Row w 0 5 1 v r.B.length (r.B.map b8)
  ne : v.ownBlock ≠ some g
theorem RnAt.free {w : World} {g : Nat} {r : Rn} {v : Value} (h : RnAt w g r v) (j : Nat) : w.frozen? ⟨g, j, none⟩ = false := frozen_of_row _ _ _ _ _ h.blk
theorem RnAt.below {w w' : World} {g : Nat} {r : Rn} {v : Value} (h : RnAt w g r v) (hb : Below w.heap.size w w') : RnAt w' g r v :=
  ⟨(hb.block g (Array.getElem?_eq_some_iff.1 h.blk).1).trans h.blk, h.row.below hb, h.ne⟩
/-- the facts a walk reads of the record -/
structure RnF (w : World) (g : Nat) (r : Rn) (v : Value) : Prop where
  c0 : w.cell? ⟨g, 0, none⟩ = some (.int .i64 r.mru)
  c1 : w.cell? ⟨g, 1, none⟩ = some (.int .i64 r.accm)
  c2 : w.cell? ⟨g, 2, none⟩ = some (.bool r.pfc)
  c3 : w.cell? ⟨g, 3, none⟩ = some (.bool r.acfc)
  c4 : w.cell? ⟨g, 4, none⟩ = some v
  c5 : w.cell? ⟨g, 5, none⟩ = some (.int .i64 r.c0)
  c6 : w.cell? ⟨g, 6, none⟩ = some (.int .i64 r.c1)
  c7 : w.cell? ⟨g, 7, none⟩ = some (.int .i64 r.c2)
  c8 : w.cell? ⟨g, 8, none⟩ = some (.int .i64 r.c3)
  c9 : w.cell? ⟨g, 9, none⟩ = some (.int .i64 r.c4)
  c10 : w.cell? ⟨g, 10, none⟩ = some (.int .i64 r.c5)
theorem RnAt.f {w : World} {g : Nat} {r : Rn} {v : Value} (h : RnAt w g r v) : RnF w g r v :=
  ⟨(cell_of_row _ _ _ _ _ _ h.blk).trans rfl, (cell_of_row _ _ _ _ _ _ h.blk).trans rfl, (cell_of_row _ _ _ _ _ _ h.blk).trans rfl, (cell_of_row _ _ _ _ _ _ h.blk).trans rfl, (cell_of_row _ _ _ _ _ _ h.blk).trans rfl, (cell_of_row _ _ _ _ _ _ h.blk).trans rfl, (cell_of_row _ _ _ _ _ _ h.blk).trans rfl, (cell_of_row _ _ _ _ _ _ h.blk).trans rfl, (cell_of_row _ _ _ _ _ _ h.blk).trans rfl, (cell_of_row _ _ _ _ _ _ h.blk).trans rfl, (cell_of_row _ _ _ _ _ _ h.blk).trans rfl⟩
/-- behind some calls -/
structure RnS (w w1 : World) (g : Nat) (v v1 : Value) (r1 : Rn) : Prop where
  q : RnAt w1 g r1 v1
  grow : Grown2 w w1 g v.ownBlock
  own : ∀ k, v1.ownBlock = some k → v.ownBlock = some k ∨ w.heap.size ≤ k
theorem RnS.refl {w : World} {g : Nat} {v : Value} {r : Rn} (h : RnAt w g r v) : RnS w w g v v r := ⟨h, Grown2.refl _ _ _, fun k hk => .inl hk⟩
theorem RnS.trans {w w1 w2 : World} {g : Nat} {v v1 v2 : Value} {r1 r2 : Rn} (h : RnS w w1 g v v1 r1) (h2 : RnS w1 w2 g v1 v2 r2) : RnS w w2 g v v2 r2 :=
  ⟨h2.q, h.grow.trans h2.grow h.own, fun k hk => by
    rcases h2.own k hk with q | q
    · exact h.own k q
    · exact .inr (Nat.le_trans h.grow.size q)⟩
theorem RnS.below {w w1 w2 : World} {g : Nat} {v v1 : Value} {r1 : Rn} (h : RnS w w1 g v v1 r1) (hb : Below w1.heap.size w1 w2) : RnS w w2 g v v1 r1 := h.trans ⟨h.q.below hb, Grown2.below hb _ _, fun k hk => .inl hk⟩
/-- a cell of the record's own is written; the row's value stays -/
theorem RnS.set {w w1 : World} {g : Nat} {v v1 : Value} {r1 : Rn} (h : RnS w w1 g v v1 r1) (k : Nat) (u : Value) (r2 : Rn) (hl : r2.B = r1.B) (ht : (RC r1 v1).setIfInBounds k u = RC r2 v1) : RnS w (w1.setCell ⟨g, k, none⟩ u) g v v1 r2 := by
  have hset : w1.grownBy (w1.setCell ⟨g, k, none⟩ u) (some g) := ⟨rfl, rfl, rfl, by simp [World.setCell], fun k _ hk => heap_setCell_other _ _ _ _ (fun e => hk (by simp [e]))⟩
  refine ⟨⟨(heap_setCell_same _ _ _ _ _ _ h.q.blk).trans (by rw [ht]), ?_, h.q.ne⟩, h.grow.trans (r1 := none) ⟨rfl, rfl, rfl, by simp [World.setCell], fun k hk h1 _ => heap_setCell_other _ _ _ _ h1⟩ (fun k e => by cases e), h.own⟩
  rw [hl]
  exact h.q.row.kept hset (fun k hk e => h.q.ne (by rw [hk, ← e]))
/-- the row's value is written -/
theorem RnS.setv {w w1 w2 : World} {g : Nat} {v v1 v2 : Value} {r1 r2 : Rn} (h : RnS w w1 g v v1 r1) (hg : Grown2 w1 w2 g v1.ownBlock) (hb : w2.heap[g]? = w1.heap[g]?) (ho : ∀ k, v2.ownBlock = some k → v1.ownBlock = some k ∨ w1.heap.size ≤ k) (hr : Row w2 0 5 1 v2 r2.B.length (r2.B.map b8)) (ht : (RC r1 v1).setIfInBounds 4 v2 = RC r2 v2) : RnS w (w2.setCell ⟨g, 4, none⟩ v2) g v v2 r2 := by
  have hlt := (Array.getElem?_eq_some_iff.1 h.q.blk).1
  have hne : v2.ownBlock ≠ some g := fun e => by
    rcases ho g e with q | q
    · exact h.q.ne q
    · omega
  have hset : w2.grownBy (w2.setCell ⟨g, 4, none⟩ v2) (some g) := ⟨rfl, rfl, rfl, by simp [World.setCell], fun k _ hk => heap_setCell_other _ _ _ _ (fun e => hk (by simp [e]))⟩
  exact h.trans ⟨⟨(heap_setCell_same _ _ _ _ _ _ (hb.trans h.q.blk)).trans (by rw [ht]), hr.kept hset (fun k hk e => hne (by rw [hk, ← e])), hne⟩, hg.trans (r1 := none) ⟨rfl, rfl, rfl, by simp [World.setCell], fun k hk h1 _ => heap_setCell_other _ _ _ _ h1⟩ (fun k e => by cases e), ho⟩
/-- another block is written -/
theorem RnS.elsewhere {w w1 w2 : World} {g b : Nat} {v v1 : Value} {r1 : Rn} (h : RnS w w1 g v v1 r1) (hg : w1.grownBy w2 (some b)) (hb : w.heap.size ≤ b) (h1 : b ≠ g) (h2 : v1.ownBlock ≠ some b) : RnS w w2 g v v1 r1 := by
  have hgl := (Array.getElem?_eq_some_iff.1 h.q.blk).1
  exact ⟨⟨(hg.block g hgl (by simp; omega)).trans h.q.blk, h.q.row.kept hg (fun k hk e => h2 (by rw [hk, ← e])), h.q.ne⟩, ⟨hg.os.trans h.grow.os, hg.tape.trans h.grow.tape, hg.output.trans h.grow.output, Nat.le_trans h.grow.size hg.size, fun k hk k1 k2 => (hg.block k (Nat.lt_of_lt_of_le hk h.grow.size) (by simp; omega)).trans (h.grow.block k hk k1 k2)⟩, h.own⟩
theorem rnew_bad (m a : Int) (p q : Bool) (w : World) (h : newOk m a = false) : Calls Try.prog 29 #[.int .i64 m, .int .i64 a, .bool p, .bool q] w fun e w' => e = .returned (.pointer none) ∧ w = w' := by
  have HR := Lib.hid (fun W => map25 a W)
  unfold newOk at h
  by_cases h1 : 64 ≤ m
  · by_cases h2 : m ≤ 16384
    · have h3 : mapB a = false := by simpa [h1, h2] using h
      rw [h3] at HR
      have z1 : ¬ m < 64 := by omega
      have z2 : ¬ 16384 < m := by omega
      clear h
      go_enter Try.func29, Try.ntmps29
      go_wp2_with fail
      refine (HR.out _).mono ?_
      rintro e w1 ⟨rfl, rfl⟩
      go_wp2_with fail
      go_ret
      exact ⟨rfl, rfl⟩
    · have z1 : ¬ m < 64 := by omega
      have z2 : 16384 < m := by omega
      clear h
      go_enter Try.func29, Try.ntmps29
      go_wp2_with fail
      go_ret
      exact ⟨rfl, rfl⟩
  · have z1 : m < 64 := by omega
    clear h
    go_enter Try.func29, Try.ntmps29
    go_wp2_with fail
    go_ret
    exact ⟨rfl, rfl⟩
theorem rnew29 (m a : Int) (p q : Bool) (w : World) (h : newOk m a = true) : Calls Try.prog 29 #[.int .i64 m, .int .i64 a, .bool p, .bool q] w fun e w' => e = .returned (.pointer (some ⟨w.heap.size, 0, none⟩)) ∧ RnAt w' w.heap.size (Rn.start m a p q) (.slice none 0 0) ∧ Below w.heap.size w w' := by
  have HR := Lib.hid (fun W => map25 a W)
  unfold newOk at h
  simp only [Bool.and_eq_true, decide_eq_true_eq] at h
  obtain ⟨h1, h2, h3⟩ := h
  rw [h3] at HR
  have z1 : ¬ m < 64 := by omega
  have z2 : ¬ 16384 < m := by omega
  clear h3
  go_enter Try.func29, Try.ntmps29
  go_wp2_with fail
  refine (HR.out _).mono ?_
  rintro e w1 ⟨rfl, rfl⟩
  go_wp2_with fail
  go_ret
  exact ⟨rfl, ⟨heap_alloc_new _ _, Row.nil _ _ _ _, by simp [Value.ownBlock]⟩, (Below.refl _ _).alloc (Nat.le_refl _) _⟩
end Go.Proofs.Ytedhldcoddbbdaa.F

namespace Go.Proofs.Ytedhldcoddbbdaa.F
open Go.RowKit Go.Proofs.Ytedhldcoddbbdaa.K
theorem two_bytes (x : BitVec 16) (a b : BitVec 8) : a.setWidth 16 ^^^ (b.setWidth 16 <<< 8) = x ↔ a = x.setWidth 8 ∧ b = (x >>> 8).setWidth 8 := by
  constructor
  · rintro rfl
    constructor
    · apply BitVec.eq_of_getLsbD_eq
      intro i hi
      simp [hi]
    · apply BitVec.eq_of_getLsbD_eq
      intro i hi
      have h1 : ¬ 8 + i < 8 := by omega
      have h2 : 8 + i < 16 := by omega
      have h3 : 8 + i - 8 = i := by omega
      simp [hi, h2]
  · rintro ⟨rfl, rfl⟩
    apply BitVec.eq_of_getLsbD_eq
    intro i hi
    by_cases h8 : i < 8
    · simp [h8, hi]
    · have h3 : 8 + (i - 8) = i := by omega
      have h4 : i - 8 < 8 := by omega
      simp [h8, hi, h3, h4]
theorem good_split (p : List (BitVec 8)) (a b : BitVec 8) : good16 (p ++ [a, b]) = (decide (a = (s16 p).setWidth 8) && decide (b = (s16 p >>> 8).setWidth 8)) := by
  unfold good16
  rw [crc_append]
  have hx := crc_two P16 (crc P16 0xffff#16 p) _ a b rfl
  rw [hx]
  rw [← Bool.decide_and, decide_eq_decide, ← two_bytes]
  unfold s16
  generalize crc P16 0xffff#16 p = R
  generalize a.setWidth 16 ^^^ (b.setWidth 16 <<< 8) = x
  have h0 : (0xf0b8#16) = stN P16 16 0xffff#16 := by decide +kernel
  rw [h0]
  constructor
  · intro h
    have h2 : stN P16 16 ((R ^^^ x) ^^^ 0xffff#16) = 0#16 := by rw [stN_xor, h]; simp
    have h3 := stN_inj0 P16 (by omega) (by decide) _ _ h2
    apply BitVec.eq_of_getLsbD_eq
    intro i hi
    have h4 := congrArg (fun y => y.getLsbD i) h3
    have h5 : (0xffff#16).getLsbD i = true := by
      have : (0xffff#16) = BitVec.allOnes 16 := by decide
      rw [this, BitVec.getLsbD_allOnes]; simp [hi]
    simp only [BitVec.getLsbD_xor, h5, BitVec.getLsbD_zero] at h4
    simp only [BitVec.getLsbD_not, hi, decide_true, Bool.true_and]
    cases hR : R.getLsbD i <;> cases hxx : x.getLsbD i <;> simp_all
  · rintro rfl
    rw [xor_not_self]
    rfl
/-- what whole gives back -/
def WholeR (r : Rn) (g : Nat) (v : Value) (w : World) (e : Ending) (w' : World) : Prop := ∃ (n : Int) (u : Value) (ok : Bool), e = .returned (.tuple #[.agg #[.int .i64 n, u], .bool ok]) ∧ RnS w w' g v (.slice none 0 0) r.fin.1 ∧ ((ok = false ∧ r.fin.2 = none ∧ n = 0 ∧ u = .slice none 0 0) ∨ ∃ l, ok = true ∧ r.fin.2 = some (n, l) ∧ Row w' w.heap.size 5 1 u l.length (l.map b8))
theorem whole_fin {w W1 wx : World} {g : Nat} {r r1 : Rn} {v x y n u : Value} (h : RnAt w g r v) (hb1 : Below w.heap.size w W1) (hs : RnS W1 wx g v (.slice none 0 0) r1) (hf : wx.heap[w.heap.size]? = some (.cells #[x, y] 24 (0, 0))) : RnS w ((wx.setCell ⟨w.heap.size, 0, none⟩ n).setCell ⟨w.heap.size, 1, none⟩ u) g v (.slice none 0 0) r1 ∧ ((wx.setCell ⟨w.heap.size, 0, none⟩ n).setCell ⟨w.heap.size, 1, none⟩ u).heap[w.heap.size]? = some (.cells #[n, u] 24 (0, 0)) ∧ wx.grownBy ((wx.setCell ⟨w.heap.size, 0, none⟩ n).setCell ⟨w.heap.size, 1, none⟩ u) (some w.heap.size) := by
  have hset : wx.grownBy ((wx.setCell ⟨w.heap.size, 0, none⟩ n).setCell ⟨w.heap.size, 1, none⟩ u) (some w.heap.size) := ⟨rfl, rfl, rfl, by simp [World.setCell], fun k _ hk => (heap_setCell_other _ _ _ _ (fun e => hk (by simp [e]))).trans (heap_setCell_other _ _ _ _ (fun e => hk (by simp [e])))⟩
  have hlt := (Array.getElem?_eq_some_iff.1 h.blk).1
  exact ⟨(((RnS.refl h).below hb1).trans hs).elsewhere hset (Nat.le_refl _) (by omega) (by simp [Value.ownBlock]), frame_set hf, hset⟩
theorem rclear_s {w : World} {g : Nat} {r : Rn} {v : Value} (h : RnAt w g r v) : RnS w (w.setCell ⟨g, 4, none⟩ (.slice none 0 0)) g v (.slice none 0 0) r.clear :=
  (RnS.refl h).setv (w2 := w) (v2 := .slice none 0 0) (r2 := r.clear) (Grown2.refl _ _ _) rfl (fun k hk => by simp [Value.ownBlock] at hk) (Row.nil _ _ _ _) rfl
end Go.Proofs.Ytedhldcoddbbdaa.F
