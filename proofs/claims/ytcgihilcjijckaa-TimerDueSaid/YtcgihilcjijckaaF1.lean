import Derived.Test.YtcgihilcjijckaaD8
import Derived.RangeFuncNested
import Derived.RangeFuncBound
import Derived.RangeFuncCalls
import Derived.RangeFuncLeaves
import Derived.Shelf.Abstract
import Derived.Shelf.RegionOpen
import Derived.WalkKit
import Derived.OwnWalkIn
import Derived.TacticsInMore
import Derived.LoopNIn
import Derived.LoopIn
set_option linter.unusedVariables false
set_option linter.unusedSimpArgs false
namespace Go.Proofs.Ytcgihilcjijckaa.F
open Go.RowKit Go.Proofs.Ytcgihilcjijckaa.K Go.Shelf
attribute [local go_sem] Oper.semAt_some
/-- 'append' to a row, in a fenced walk -/
theorem wpListIn_row {F : Fence} {nf : Nat} {P : Program} {w : World} {ops : Array Oper} {rest : List Oper} {o : Oper} {a : Act} {Q : Exit → Act → World → Prop} {t e : TypeId} {size bytes : Nat} {z : Value} (E : ElemT P t e size bytes z)
    (hgd : o.guard = none) (s x : Operand) (ho : o.op = .call { callee := .builtin .append, args := #[s, x], argTypes := #[t, t] })
    (B : Nat) (v : Value) (n : Nat) (xs : List Value) (hs : a.eval s = v) (hown : Row w B e size v n xs)
    (xv : Value) (m : Nat) (news : List Value) (hx : a.eval x = xv) (hsrc : SrcR w size xv m news)
    (h63 : n + m ≤ maxLen) (hbytes : (n + m) * bytes ≤ 140737488355328) (hB : B ≤ w.heap.size)
    (h : ∀ v' w', RowR w w' B e size v v' (n + m) (xs ++ news) → wpListIn F nf P ops Q rest (a.put o.dst v') w') : wpListIn F nf P ops Q (o :: rest) a w := by
  refine wpListIn_plain hgd fun K hK => ?_
  obtain ⟨v', w', hr, h2, h3, h4⟩ := run_row (P := P) w E B o.type v n xs hown xv m news hsrc h63 hbytes hB
  unfold Oper.wpIn
  refine ⟨by simp [Oper.about, ho, resolve, Target.leads, Sem.run_pure], ?_⟩
  rw [Oper.semAt_plain F _ _ (by rw [ho]; intro c hc'; cases hc')]
  simp [execOp, ho, resolve, invoke, builtin, hs, hx, hr, Result.andThen]
  exact hK _ _ (h v' w' ⟨h2, h3, h4⟩)
/-- whose row a cell holds -/
def ownAt (W : World) (c : Nat) : Option Nat := (W.cell? ⟨c, 0, none⟩).bind Value.ownBlock
/-- what a round keeps: all cells but a block's, and its row's -/
structure Kc (c : Nat) (W W' : World) : Prop where
  size : W.heap.size ≤ W'.heap.size
  same : ∀ (k : Nat) (o : Obj), W.heap[k]? = some o → o.isCells = true → k ≠ c → ownAt W c ≠ some k → W'.heap[k]? = some o
  own : ∀ k, ownAt W' c = some k → ownAt W c = some k ∨ W.heap.size ≤ k
theorem kc_t {c : Nat} {A B C : World} (h : Kc c A B) (k : Kc c B C) : Kc c A C :=
  ⟨Nat.le_trans h.size k.size, fun i o hi ho h1 h2 => k.same i o (h.same i o hi ho h1 h2) ho h1 (fun e => by
    rcases h.own i e with q | q
    · exact h2 q
    · have := (Array.getElem?_eq_some_iff.1 hi).1; omega), fun i hi => by
    rcases k.own i hi with q | q
    · exact h.own i q
    · exact .inr (Nat.le_trans h.size q)⟩
theorem ownAt_of_block {W W' : World} {c : Nat} (h : W'.heap[c]? = W.heap[c]?) : ownAt W' c = ownAt W c := by
  unfold ownAt
  rw [show W'.cell? ⟨c, 0, none⟩ = W.cell? ⟨c, 0, none⟩ from World.cell?_of_block h]
theorem kc_b {c : Nat} {w : World} (hc : c < w.heap.size) (W : World) (l : Nat) (o o' : Obj) (hl : w.heap.size ≤ l) (h : W.heap[l]? = some o) (ho : o.isCells = false) (_ : o.isWalk = false) : Kc c W (W.putObj l o') :=
  ⟨by simp, fun k p hk hp h1 h2 => (World.putObj_heap_other (fun e => by subst e; rw [h] at hk; cases hk; rw [ho] at hp; cases hp)).trans hk, fun k hk => .inl (by rw [ownAt_of_block (World.putObj_heap_other (by omega))] at hk; exact hk)⟩
def On.enc (x : On) : Array Value := #[.int .i64 x.id, .int .i64 x.at_]
theorem _root_.Go.Proofs.Ytcgihilcjijckaa.K.Row.kc {W W' : World} {c B n size : Nat} {e : TypeId} {v : Value} {xs : List Value} (h : Row W B e size v n xs) (hk : Kc c W W') (h1 : v.ownBlock ≠ some c) (h2 : ∀ k, v.ownBlock = some k → ownAt W c ≠ some k) : Row W' B e size v n xs ∧ ∀ k, v.ownBlock = some k → ownAt W' c ≠ some k := by
  have h3 : ∀ k, v.ownBlock = some k → ownAt W' c ≠ some k := fun k hk2 e => by
    rcases hk.own k e with q | q
    · exact h2 k hk2 q
    · have := (Row.live h hk2).2; omega
  refine ⟨⟨h.len, h.form.imp id fun ⟨b, cap, cur, q1, q2, q3, q4⟩ => ⟨b, cap, cur, q1, q2, ?_, q4⟩⟩, h3⟩
  have e1 : v.ownBlock = some b := by rw [q1]; rfl
  exact hk.same b _ q3 rfl (fun e => h1 (by rw [e1, e])) (h2 b e1)
/-- the whole of a queue's list, to be appended -/
theorem QAt.src {w : World} {g cap : Nat} {A : Option Addr} {n : Int} {l : List Tm} (h : QAt w g (.slice A l.length cap) n l) : SrcR w 3 (.slice A l.length cap) l.length (tms l) := by
  rcases h.row.form with ⟨h1, h2⟩ | ⟨b, cap', cur, h1, -, h3, h4, h5, -⟩
  · obtain rfl := List.eq_nil_of_length_eq_zero h2
    cases h1
    exact SrcR.none0 _ _
  · cases h1
    have := Row.part h.row (fun u hu => tms_one hu) 0 l.length 0 cap (fun _ => by omega) (by omega)
    rwa [Nat.zero_mul, List.drop_zero, List.take_of_length_le (by rw [tms_len]; omega)] at this
theorem row_tm {w : World} {B : Nat} {A : Option Addr} {cap : Nat} {l : List Tm} (h : Row w B 63 3 (.slice A l.length cap) l.length (tms l)) {k : Nat} (hk : k < l.length) : ∃ b, A = some ⟨b, 0, none⟩ ∧ w.cell? ⟨b, k * 3, none⟩ = some (.int .i64 l[k].id) ∧ w.cell? ⟨b, k * 3 + 1, none⟩ = some (.int .i64 l[k].at_) ∧ w.cell? ⟨b, k * 3 + 2, none⟩ = some (.int .i64 l[k].set_) := by
  obtain ⟨b, hA, -, h0⟩ := h.cell (j := k * 3 + 0) (u := .int .i64 l[k].id) (by rw [tms_at hk 0 (by omega)]; rfl)
  obtain ⟨b1, hA1, -, h1⟩ := h.cell (j := k * 3 + 1) (u := .int .i64 l[k].at_) (by rw [tms_at hk 1 (by omega)]; rfl)
  obtain ⟨b2, hA2, -, h2⟩ := h.cell (j := k * 3 + 2) (u := .int .i64 l[k].set_) (by rw [tms_at hk 2 (by omega)]; rfl)
  subst hA
  cases hA1
  cases hA2
  exact ⟨b, rfl, h0, h1, h2⟩
set_option maxRecDepth 100000 in
set_option maxHeartbeats 4000000 in
/-- All's function value, at a queue: its rounds, one by one. -/
theorem all42_stops (F : Fence) (nf : Nat) (h42 : F.fn 42) (hro : F.round = none) (hn : 1 ≤ nf) (Bn g c : Nat) (v : Value) (m : Int) (l : List Tm) (hl : l.length ≤ 64) (w : World) (hBn : Bn < w.heap.size) (hc : w.cell? ⟨Bn, 0, none⟩ = some (.pointer (some ⟨g, 0, none⟩))) (hQ : QAt w g v m l) (hcl : c < w.heap.size) (hown : ∀ k, ownAt w c = some k → k < w.heap.size) :
    SeqStopsK F nf Try.prog 42 #[.pointer (some ⟨Bn, 0, none⟩)] On.enc (Kc c) (fun ys => ys = l.map Tm.on) (fun pre => pre <+: l.map Tm.on) 64 w := fun ll J Jx W hW hJ hJx hY h0 => by
  have HY := Lib.hid hY
  have HJ := Lib.hid hJ
  have cB := (hW.cell (p := ⟨Bn, 0, none⟩) hBn).trans hc
  have HQ := Lib.hid (hQ.below hW)
  have hcl2 : c < W.heap.size := Nat.lt_of_lt_of_le hcl hW.size
  have HO : Hid (∀ k, ownAt W c = some k → k < W.heap.size) := Lib.hid (fun k hk => by
    rw [ownAt_of_block (hW.block c hcl)] at hk
    exact Nat.lt_of_lt_of_le (hown k hk) hW.size)
  clear hY hJ hJx hQ hc hown hW
  have c0 := HQ.out.c0
  obtain ⟨A, cap, rfl, k1, k2, k3⟩ := HQ.out.form
  clear k3
  unfold maxLen at k2
  have hsrc := Lib.hid HQ.out.src
  have hrow := Lib.hid (Row.nil W W.heap.size 63 3)
  have s1 : 0 + l.length ≤ maxLen := by unfold maxLen; omega
  have s2 : (0 + l.length) * 24 ≤ 140737488355328 := by omega
  refine callsIn_of_wp Try.func42 rfl h42 ?_ hro
  simp only [Try.ntmps42, List.size_toArray, List.length_cons, List.length_nil, Nat.reduceAdd, Nat.reduceSub, Array.replicate_succ, Array.replicate_zero, List.push_toArray, List.append_toArray, List.nil_append, List.cons_append]
  gi_wp2_with (gi_at_builtin; refine wpListIn_row elT rfl _ _ rfl W.heap.size _ _ _ rfl hrow.out _ l.length _ rfl hsrc.out s1 s2 (Nat.le_refl _) ?_)
  intro v2 w2 hr2
  obtain ⟨A2, cp2, hv2, hc2, hm2⟩ := Row.slice hr2.row
  subst hv2
  unfold maxLen at hm2
  have hJ2 := HJ.out [] W w2 none h0 hr2.grow (fun r e => by cases e)
  have hR2 : Hid (Row w2 W.heap.size 63 3 (.slice A2 l.length cp2) l.length (tms l)) := Lib.hid hr2.row
  have hO2 : Hid (∀ k, (Value.slice A2 l.length cp2).ownBlock = some k → ownAt w2 c ≠ some k) := Lib.hid (fun k hk e => by
    rw [ownAt_of_block (hr2.grow.block c hcl2 (by simp [Value.ownBlock]))] at e
    have h1 := HO.out k e
    have h2 := (Row.live hr2.row hk).1
    omega)
  have HV : Hid ((Value.slice A2 l.length cp2).ownBlock ≠ some c) := Lib.hid (fun e => by have := (Row.live hr2.row e).1; omega)
  have hws2 := hr2.grow.size
  clear c0 hr2
  gi_wp2
  gi_loopw [4, 13] (fun _ i wr => ∃ k : Nat, k ≤ l.length ∧ i = .int .i64 k ∧ Hid (J ((l.map Tm.on).take k) wr) ∧ Hid (Row wr W.heap.size 63 3 (.slice A2 l.length cp2) l.length (tms l)) ∧ Hid (∀ k, (Value.slice A2 l.length cp2).ownBlock = some k → ownAt wr c ≠ some k) ∧ W.heap.size ≤ wr.heap.size) (fun _ i _ => l.length - (intOf i).toNat)
  case atStart => exact ⟨0, Nat.zero_le _, rfl, Lib.hid hJ2, hR2, hO2, hws2⟩
  case round =>
    obtain ⟨k, hk, rfl, HJk, HRk, HOk, hws⟩ := hrel
    by_cases hlt : k < l.length
    · obtain ⟨b, hA, d0, d1, d2⟩ := row_tm HRk.out hlt
      subst hA
      have HS : Hid ((l.map Tm.on).take (k + 1) = (l.map Tm.on).take k ++ [l[k].on]) := Lib.hid (by rw [List.take_succ_eq_append_getElem (by simpa using hlt)]; simp)
      have hi0 : (0 : Int) ≤ (k : Int) := by omega
      have hia : (k : Int) < (l.length : Int) := by omega
      generalize l[k] = t at *
      obtain ⟨ti, ta, ts⟩ := t
      simp only at d0 d1 d2
      have hJ3 := HJ.out _ wr (wr.alloc (.cells #[.int .i64 ti, .int .i64 ta, .int .i64 ts] 63)) none HJk.out (World.grownBy_alloc _ _ none) (fun r e => by cases e)
      obtain ⟨fn, tmps, assign, body, hy, hR⟩ := HY.out _ ⟨ti, ta⟩ _ hJ3 (by rw [List.length_take, List.length_map]; omega)
      unfold On.enc at hy
      dsimp only at hy
      gi_wp2
      refine hR.mono ?_
      rintro e W3 (⟨rfl, hJ4, hk4⟩ | ⟨rfl, hJx4⟩)
      · have hra := HRk.out.below ((Below.refl _ wr).alloc (Nat.le_refl _) (.cells #[.int .i64 ti, .int .i64 ta, .int .i64 ts] 63))
        have hcw : c < wr.heap.size := Nat.lt_of_lt_of_le hcl2 hws
        have hoa : ∀ k, (Value.slice (some ⟨b, 0, none⟩) l.length cp2).ownBlock = some k → ownAt (wr.alloc (.cells #[.int .i64 ti, .int .i64 ta, .int .i64 ts] 63)) c ≠ some k := fun k hk e => by
          rw [ownAt_of_block (Below.heap_alloc _ _ _ hcw)] at e
          exact HOk.out k hk e
        obtain ⟨hr5, ho5⟩ := hra.kc hk4 HV.out hoa
        have H5 := Lib.hid hr5
        have H6 := Lib.hid ho5
        have H7 := Lib.hid hJ4
        have hws3 : W.heap.size ≤ W3.heap.size := by have := hk4.size; simp at this; omega
        clear hra hoa hr5 ho5 hJ4 hk4 hJ3 hR hy
        gi_wp2
        go_roundw
        case rel => exact ⟨k + 1, by omega, by go_num, by have h0 := HS.out; simp only [Tm.on] at h0; rw [h0]; exact H7, H5, H6, hws3⟩
        case measure => simp [intOf]; omega
      · have HX := Lib.hid hJx4
        clear hJx4 hR hy
        gi_wp2
        refine bodyPost_ret (results_none rfl _ _ _) rfl ?_
        exact ⟨⟨_, rfl⟩, .inr ⟨_, by have h0 := HS.out; simp only [Tm.on] at h0; rw [← h0]; exact List.take_prefix _ _, HX.out⟩⟩
    · obtain rfl : k = l.length := by omega
      gi_wp2
      go_end0
      exact ⟨⟨_, rfl⟩, .inl ⟨_, rfl, by have := HJk.out; rwa [List.take_of_length_le (by simp)] at this⟩⟩
end Go.Proofs.Ytcgihilcjijckaa.F
