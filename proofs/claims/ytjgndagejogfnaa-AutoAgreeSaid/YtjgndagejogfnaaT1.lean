import Derived.Test.YtjgndagejogfnaaProg
import Derived.Test.YtjgndagejogfnaaA0
import Derived.Test.YtjgndagejogfnaaRG
import Derived.WalkKit
import Derived.Tactics2
import Derived.Outline
import Derived.Lib.Hide
import Derived.Deep.WholeRow
import Derived.Laws.Rows
import Derived.Laws.CopyRow
import Derived.Laws.CopyOwn
import Derived.Laws.Tables
set_option linter.unusedVariables false
set_option linter.unusedSimpArgs false
namespace Go.Proofs.Ytjgndagejogfnaa.F
open Go.RowKit Go.Proofs.Ytjgndagejogfnaa.K
theorem info61 : (Try.prog.info? 61).map (·.size) = some 2 := by kernel_rfl
theorem info62 : (Try.prog.info? 62).map (·.size) = some 20 := by kernel_rfl
theorem to46 (n : Int) (A : Option Addr) (m c : Nat) (w : World) : Calls Try.prog 46 #[.int .i64 n, .slice A m c] w fun e w' => e = .returned (.agg #[.int .i64 n, .slice A m c]) ∧ Below w.heap.size w w' := by
  go_enter Try.func46, Try.ntmps46
  go_wp2
  exact bodyPost_ret (v := .agg #[.int .i64 n, .slice A m c]) (results_cell_row rfl _ _ w.heap.size 61 _ (0, 0) _ rfl (heap_alloc_new _ _) Try.underlying61 rfl info61) rfl ⟨rfl, (Below.refl _ _).alloc (Nat.le_refl _) _⟩
theorem never45 (w : World) : Calls Try.prog 45 #[] w fun e w' => e = .returned (.agg #[.int .i64 (-1), .slice none 0 0]) ∧ Below w.heap.size w w' := by
  go_enter Try.func45, Try.ntmps45
  go_wp2_with fail
  refine (to46 _ _ _ _ _).mono ?_
  rintro e w1 ⟨rfl, hb⟩
  have hc : w1.heap[w.heap.size]? = some (.cells #[.int .i64 0, .slice none 0 0] 61 (0, 0)) := (hb.block _ (by simp)).trans (heap_alloc_new _ _)
  have c0 := (cell_of_row _ _ 0 _ _ _ hc).trans rfl
  have c1 := (cell_of_row _ _ 1 _ _ _ hc).trans rfl
  have f0 := frozen_of_row _ _ 0 _ _ hc
  have f1 := frozen_of_row _ _ 1 _ _ hc
  have hB := below_then ((Below.refl _ w).alloc (Nat.le_refl _) (.cells #[.int .i64 0, .slice none 0 0] 61)) hb
  go_wp2
  exact bodyPost_ret (v := .agg #[.int .i64 (-1), .slice none 0 0]) (results_cell_row rfl _ _ w.heap.size 61 _ (0, 0) _ rfl (heap_setCell_same _ _ _ _ _ _ (heap_setCell_same _ _ _ _ _ _ hc)) Try.underlying61 rfl info61) rfl ⟨rfl, (hB.setCell (Nat.le_refl _) _).setCell (Nat.le_refl _) _⟩
/-! the operations of a row's regions, one by one -/
section
variable {o : Oper} {a : Act} {w : World} {K : Act → World → Prop} {Q : Exit → Act → World → Prop}
theorem op_to0 (n : Int) (ho : o.op = .call { callee := .value (.func 46), args := #[.const (.int .i64 n), .const (.slice none 0 0)], argTypes := #[3, 22] })
    (h : ∀ w', Below w.heap.size w w' → K (a.put o.dst (.agg #[.int .i64 n, .slice none 0 0])) w') : Oper.wp Try.prog o a w K Q := by
  unfold Oper.wp execOp
  simp only [ho]
  go_simp
  refine (to46 n none 0 0 w).mono ?_
  rintro e w' ⟨rfl, hb⟩
  exact h _ hb
theorem op_toT (n : Int) (t : Nat) (A : Option Addr) (m c : Nat) (ho : o.op = .call { callee := .value (.func 46), args := #[.const (.int .i64 n), .tmp t], argTypes := #[3, 22] }) (hx : a.eval (.tmp t) = .slice A m c)
    (h : ∀ w', Below w.heap.size w w' → K (a.put o.dst (.agg #[.int .i64 n, .slice A m c])) w') : Oper.wp Try.prog o a w K Q := by
  have hx' : a.tmps[t]?.getD undef = .slice A m c := by simpa [Act.eval] using hx
  unfold Oper.wp execOp
  simp only [ho]
  go_simp
  refine (to46 n A m c w).mono ?_
  rintro e w' ⟨rfl, hb⟩
  exact h _ hb
def lits3 (l : List Int) : Array Value := (l.map (Value.int .i64)).toArray
theorem op_lit1 (x : Int) (ho : o.op = .buildSlice 22 1 #[(0, .const (.int .i64 x))]) (h : K (a.put o.dst (.slice (some ⟨w.heap.size, 0, none⟩) 1 1)) (w.alloc (.cells #[.int .i64 x] 3))) : Oper.wp Try.prog o a w K Q := by
  unfold Oper.wp execOp
  simp only [ho]
  go_simp
  exact h
theorem op_lit2 (x y : Int) (ho : o.op = .buildSlice 22 2 #[(0, .const (.int .i64 x)), (1, .const (.int .i64 y))]) (h : K (a.put o.dst (.slice (some ⟨w.heap.size, 0, none⟩) 2 2)) (w.alloc (.cells #[.int .i64 x, .int .i64 y] 3))) : Oper.wp Try.prog o a w K Q := by
  unfold Oper.wp execOp
  simp only [ho]
  go_simp
  exact h
theorem op_lit3 (x y z : Int) (ho : o.op = .buildSlice 22 3 #[(0, .const (.int .i64 x)), (1, .const (.int .i64 y)), (2, .const (.int .i64 z))]) (h : K (a.put o.dst (.slice (some ⟨w.heap.size, 0, none⟩) 3 3)) (w.alloc (.cells #[.int .i64 x, .int .i64 y, .int .i64 z] 3))) : Oper.wp Try.prog o a w K Q := by
  unfold Oper.wp execOp
  simp only [ho]
  go_simp
  exact h
theorem op_load (g t : Nat) (hx : a.eval (.tmp t) = .pointer (some ⟨g, 0, none⟩)) (hg : w.heap[g]? = some (.cells #[.int .i64 (-1), .slice none 0 0] 61 (0, 0))) (ho : o.op = .load 61 (.tmp t)) (h : K (a.put o.dst (.agg #[.int .i64 (-1), .slice none 0 0])) w) : Oper.wp Try.prog o a w K Q := by
  have c0 := (cell_of_row _ _ 0 _ _ _ hg).trans rfl
  have c1 := (cell_of_row _ _ 1 _ _ _ hg).trans rfl
  unfold Oper.wp execOp
  simp only [ho, hx]
  go_simp
  exact h
theorem op_store (g t u : Nat) (cs cs' : Array Value) (hx : a.eval (.tmp t) = .pointer (some ⟨g, 0, none⟩)) (hy : a.eval (.tmp u) = .agg cs') (hg : w.heap[g]? = some (.cells cs 62 (0, 0))) (hs : cs.size = 20) (hs' : cs'.size = 20) (h1 : ∀ v ∈ cs'.toList, v.oneCell' = true) (ho : o.op = .store 62 (.tmp t) (.tmp u)) (h : K (a.put o.dst undef) (w.setRow g cs')) : Oper.wp Try.prog o a w K Q := by
  have hr := run_storeCells_at (P := Try.prog) g 0 62 cs'.toList 0 cs w hg (by simp [hs, hs']) h1
  have hl : (cs.toList.take (0 + 0) ++ cs'.toList ++ cs.toList.drop (0 + 0 + cs'.toList.length)).toArray = cs' := by
    have : cs.toList.drop 20 = [] := List.drop_eq_nil_of_le (by simp [hs])
    simp [hs', this]
  rw [hl] at hr
  unfold Oper.wp execOp
  simp only [ho, hx, hy]
  go_simp
  exact h
theorem op_build (t0 t1 t2 t3 t4 t5 t6 t7 t8 t9 : Nat) (n0 n1 n2 n3 n4 n5 n6 n7 n8 n9 : Int) (A0 A1 A2 A3 A4 A5 A6 A7 A8 A9 : Option Addr) (m0 m1 m2 m3 m4 m5 m6 m7 m8 m9 c0 c1 c2 c3 c4 c5 c6 c7 c8 c9 : Nat)
    (ho : o.op = .build 62 #[(0, .tmp t0), (1, .tmp t1), (2, .tmp t2), (3, .tmp t3), (4, .tmp t4), (5, .tmp t5), (6, .tmp t6), (7, .tmp t7), (8, .tmp t8), (9, .tmp t9)])
    (h0 : a.eval (.tmp t0) = .agg #[.int .i64 n0, .slice A0 m0 c0]) (h1 : a.eval (.tmp t1) = .agg #[.int .i64 n1, .slice A1 m1 c1]) (h2 : a.eval (.tmp t2) = .agg #[.int .i64 n2, .slice A2 m2 c2]) (h3 : a.eval (.tmp t3) = .agg #[.int .i64 n3, .slice A3 m3 c3])
    (h4 : a.eval (.tmp t4) = .agg #[.int .i64 n4, .slice A4 m4 c4]) (h5 : a.eval (.tmp t5) = .agg #[.int .i64 n5, .slice A5 m5 c5]) (h6 : a.eval (.tmp t6) = .agg #[.int .i64 n6, .slice A6 m6 c6]) (h7 : a.eval (.tmp t7) = .agg #[.int .i64 n7, .slice A7 m7 c7])
    (h8 : a.eval (.tmp t8) = .agg #[.int .i64 n8, .slice A8 m8 c8]) (h9 : a.eval (.tmp t9) = .agg #[.int .i64 n9, .slice A9 m9 c9])
    (h : K (a.put o.dst (.agg #[.int .i64 n0, .slice A0 m0 c0, .int .i64 n1, .slice A1 m1 c1, .int .i64 n2, .slice A2 m2 c2, .int .i64 n3, .slice A3 m3 c3, .int .i64 n4, .slice A4 m4 c4, .int .i64 n5, .slice A5 m5 c5, .int .i64 n6, .slice A6 m6 c6, .int .i64 n7, .slice A7 m7 c7, .int .i64 n8, .slice A8 m8 c8, .int .i64 n9, .slice A9 m9 c9])) w) : Oper.wp Try.prog o a w K Q := by
  unfold Oper.wp execOp
  simp only [ho, List.map_toArray, List.map_cons, List.map_nil, h0, h1, h2, h3, h4, h5, h6, h7, h8, h9]
  go_simp
  exact h
end
/-- integers in a row of the call's own -/
def Own (B : Nat) (w : World) (v : Value) (l : List Int) : Prop := w.ownsRow B 3 1 v l.length (l.map (Value.int .i64))
theorem own_nil (B : Nat) (w : World) : Own B w (.slice none 0 0) [] := World.ownsRow_nil _ _ _ _
theorem Own.kept {B : Nat} {w w' : World} {v : Value} {l : List Int} {r : Option Nat} (h : Own B w v l) (hg : w.grownBy w' r) (hr : ∀ g, r = some g → g < B) : Own B w' v l := by
  refine World.ownsRow.kept h hg ?_
  cases hv : v.ownBlock with
  | none => exact .inl rfl
  | some k =>
    refine .inr fun e => ?_
    have := (World.ownsRow.lt h k hv).1
    have := hr k e.symm
    omega
theorem below_grown0 {w w' : World} (hb : Below w.heap.size w w') (r : Option Nat) : w.grownBy w' r := ⟨hb.os, hb.tape, hb.output, hb.size, fun k hk _ => hb.block k hk⟩
theorem Own.below {B : Nat} {w w' : World} {v : Value} {l : List Int} (h : Own B w v l) (hb : Below w.heap.size w w') : Own B w' v l := h.kept (below_grown0 hb none) (fun g e => by cases e)
theorem own_lit {B : Nat} {w : World} (hB : B ≤ w.heap.size) (l : List Int) (hl : l.length ≤ maxLen) : Own B (w.alloc (.cells (l.map (Value.int .i64)).toArray 3)) (.slice (some ⟨w.heap.size, 0, none⟩) l.length l.length) l := by
  have := World.ownsRow_lit (base := B) (e := 3) (size := 1) w (l.map (Value.int .i64)).toArray l.length hB hl (by simp)
  simpa [Own] using this
inductive TabR (B : Nat) (w : World) : List (Int × List Int) → List Value → Prop
  | nil : TabR B w [] []
  | cons {n : Int} {l : List Int} {A : Option Addr} {m c : Nat} {es : List (Int × List Int)} {cs : List Value} : Own B w (.slice A m c) l → TabR B w es cs → TabR B w ((n, l) :: es) (.int .i64 n :: .slice A m c :: cs)
theorem TabR.kept {B : Nat} {w w' : World} {r : Option Nat} {es : List (Int × List Int)} {cs : List Value} (h : TabR B w es cs) (hg : w.grownBy w' r) (hr : ∀ g, r = some g → g < B) : TabR B w' es cs := by
  induction h with
  | nil => exact .nil
  | cons h _ ih => exact .cons (h.kept hg hr) ih
theorem TabR.one {B : Nat} {w : World} {es : List (Int × List Int)} {cs : List Value} (h : TabR B w es cs) : cs.length = 2 * es.length ∧ ∀ v ∈ cs, v.oneCell' = true := by
  induction h with
  | nil => simp
  | cons h _ ih =>
    refine ⟨by simp [ih.1]; omega, fun v hv => ?_⟩
    simp only [List.mem_cons] at hv
    rcases hv with rfl | rfl | hv
    · rfl
    · rfl
    · exact ih.2 v hv
/-- what an operation of a row's region leaves -/
inductive Sp
  | ent (n : Int) (l : List Int)
  | row (l : List Int)
  | tab (es : List (Int × List Int))
  | done (es : List (Int × List Int))
  | any
def Sp.ok (B g2 : Nat) (w : World) (v : Value) : Sp → Prop
  | .ent n l => ∃ A m c, v = .agg #[.int .i64 n, .slice A m c] ∧ Own B w (.slice A m c) l
  | .row l => ∃ A m c, v = .slice A m c ∧ Own B w (.slice A m c) l
  | .tab es => ∃ cs, v = .agg cs.toArray ∧ TabR B w es cs
  | .done es => ∃ cs, w.heap[g2]? = some (.cells cs.toArray 62 (0, 0)) ∧ TabR B w es cs
  | .any => True
structure Gd (g2 g3 : Nat) (w0 w : World) : Prop where
  res : ∃ cs, w.heap[g2]? = some (.cells cs 62 (0, 0)) ∧ cs.size = 20
  no : w.heap[g3]? = some (.cells #[.int .i64 (-1), .slice none 0 0] 61 (0, 0))
  bel : Below w0.heap.size w0 w
theorem Gd.lt2 {g2 g3 : Nat} {w0 w : World} (h : Gd g2 g3 w0 w) : g2 < w.heap.size := by obtain ⟨cs, h1, _⟩ := h.res; exact (Array.getElem?_eq_some_iff.1 h1).1
theorem Gd.lt3 {g2 g3 : Nat} {w0 w : World} (h : Gd g2 g3 w0 w) : g3 < w.heap.size := (Array.getElem?_eq_some_iff.1 h.no).1
theorem Gd.below {g2 g3 : Nat} {w0 w w' : World} (h : Gd g2 g3 w0 w) (hb : Below w.heap.size w w') : Gd g2 g3 w0 w' := by
  obtain ⟨cs, h1, h2⟩ := h.res
  exact ⟨⟨cs, (hb.block _ h.lt2).trans h1, h2⟩, (hb.block _ h.lt3).trans h.no, below_then h.bel hb⟩
def ExtR (st g2 : Nat) (k : Nat) (w w' : World) : Prop := w.grownBy w' (if k = st then some g2 else none)
theorem ext_below {st g2 k : Nat} {w w' : World} (hb : Below w.heap.size w w') : ExtR st g2 k w w' := below_grown0 hb _
theorem sp_mono {B g2 st : Nat} (hB : g2 < B) (sps : List Sp) (hd : ∀ i es, sps.getD i .any = .done es → i = st) (k i : Nat) (v : Value) (w w' : World) (hk : k ≠ i) (h : Sp.ok B g2 w v (sps.getD i .any)) (hx : ExtR st g2 k w w') (hlt : g2 < w.heap.size) : Sp.ok B g2 w' v (sps.getD i .any) := by
  have hr : ∀ g, (if k = st then some g2 else none) = some g → g < B := by
    intro g e
    split at e
    · cases e; exact hB
    · cases e
  cases hs : sps.getD i .any with
  | ent n l =>
    rw [hs] at h
    obtain ⟨A, m, c, rfl, h1⟩ := h
    exact ⟨A, m, c, rfl, h1.kept hx hr⟩
  | row l =>
    rw [hs] at h
    obtain ⟨A, m, c, rfl, h1⟩ := h
    exact ⟨A, m, c, rfl, h1.kept hx hr⟩
  | tab es =>
    rw [hs] at h
    obtain ⟨cs, rfl, h1⟩ := h
    exact ⟨cs, rfl, h1.kept hx hr⟩
  | done es =>
    rw [hs] at h
    obtain ⟨cs, h0, h1⟩ := h
    have hi := hd i es hs
    have : k ≠ st := fun e => hk (by omega)
    exact ⟨cs, (World.grownBy.block hx g2 hlt (by rw [if_neg this]; simp)).trans h0, h1.kept hx hr⟩
  | any => trivial
section
variable {ops : Array Oper} {Q : Exit → Act → World → Prop}
theorem tab_region {id : Nat} {a0 : Act} {W w0 : World} (g2 g3 st : Nat) (es : List (Int × List Int)) (sps : List Sp) (hchk : regChk ops a0.tmps.size = true) (hst : st < ops.size) (hsp : sps.getD st .any = .done es)
    (hd : ∀ i es, sps.getD i .any = .done es → i = st) (h23 : g2 < g3) (hW : W.heap.size ≤ g2) (hG0 : Gd g2 g3 W w0)
    (hop : ∀ (i : Nat) (o : Oper), ops[i]? = some o → ∀ a w, SameA ops a0 a → Gd g2 g3 W w → (∀ j, waitsFor o j = true → Sp.ok (g3 + 1) g2 w (leftBy ops a j) (sps.getD j .any)) →
      Oper.wp Try.prog o a w (fun a' w' => ∃ v, a' = a.put o.dst v ∧ (o.dst = none → v = undef) ∧ Gd g2 g3 W w' ∧ ExtR st g2 i w w' ∧ Sp.ok (g3 + 1) g2 w' v (sps.getD i .any)) Q)
    (hend : ∀ a w cs, SameA ops a0 a → w.heap[g2]? = some (.cells cs.toArray 62 (0, 0)) → TabR (g3 + 1) w es cs → Below W.heap.size W w → Q .normal a w) : (Code.region id ops true).wp Try.prog Q a0 w0 :=
  region_by' (by kernel_rfl) hchk (fun i v w => Sp.ok (g3 + 1) g2 w v (sps.getD i .any)) (Gd g2 g3 W) (ExtR st g2) ⟨hG0.res, hG0.no, hG0.bel.drew⟩
    (fun k i v w w' hk h hG hx => sp_mono (by omega) sps hd k i v w w' hk h hx hG.lt2) hop
    (fun a w hA hG hX => by
      have := hX st hst
      rw [hsp] at this
      obtain ⟨cs, h1, h2⟩ := this
      exact hend a w cs hA h1 h2 hG.bel)
theorem tab_line {id : Nat} {a0 : Act} {W w0 : World} (g2 g3 st : Nat) (es : List (Int × List Int)) (sps : List Sp) (hchk : regChk ops a0.tmps.size = true) (hst : st < ops.size) (hsp : sps.getD st .any = .done es)
    (hd : ∀ i es, sps.getD i .any = .done es → i = st) (h23 : g2 < g3) (hW : W.heap.size ≤ g2) (hG0 : Gd g2 g3 W w0)
    (hop : ∀ (i : Nat) (o : Oper), ops[i]? = some o → ∀ a w, SameA ops a0 a → Gd g2 g3 W w → (∀ j, j < i → Sp.ok (g3 + 1) g2 w (leftBy ops a j) (sps.getD j .any)) →
      Oper.wp Try.prog o a w (fun a' w' => ∃ v, a' = a.put o.dst v ∧ (o.dst = none → v = undef) ∧ Gd g2 g3 W w' ∧ ExtR st g2 i w w' ∧ Sp.ok (g3 + 1) g2 w' v (sps.getD i .any)) Q)
    (hend : ∀ a w cs, SameA ops a0 a → w.heap[g2]? = some (.cells cs.toArray 62 (0, 0)) → TabR (g3 + 1) w es cs → Below W.heap.size W w → Q .normal a w) : (Code.region id ops false).wp Try.prog Q a0 w0 :=
  region_line hchk (fun i v w => Sp.ok (g3 + 1) g2 w v (sps.getD i .any)) (Gd g2 g3 W) (ExtR st g2) hG0
    (fun k i v w w' hk h hG hx => sp_mono (by omega) sps hd k i v w w' hk h hx hG.lt2) hop
    (fun a w hA hG hX => by
      have := hX st hst
      rw [hsp] at this
      obtain ⟨cs, h1, h2⟩ := this
      exact hend a w cs hA h1 h2 hG.bel)
/-! the steps, with what they leave said in the words of the region -/
section
variable {o : Oper} {a a0 : Act} {w W : World} {g2 g3 st i : Nat}
abbrev Leaves (W : World) (g2 g3 st i : Nat) (sp : Sp) (o : Oper) (a : Act) (w : World) : Act → World → Prop := fun a' w' => ∃ v, a' = a.put o.dst v ∧ (o.dst = none → v = undef) ∧ Gd g2 g3 W w' ∧ ExtR st g2 i w w' ∧ Sp.ok (g3 + 1) g2 w' v sp
theorem st_to0 (n : Int) (d : Nat) (hd : o.dst = some d) (ho : o.op = .call { callee := .value (.func 46), args := #[.const (.int .i64 n), .const (.slice none 0 0)], argTypes := #[3, 22] }) (hG : Gd g2 g3 W w) : Oper.wp Try.prog o a w (Leaves W g2 g3 st i (.ent n []) o a w) Q :=
  op_to0 n ho fun w' hb => ⟨_, rfl, (fun e => by rw [hd] at e; cases e), hG.below hb, ext_below hb, none, 0, 0, rfl, own_nil _ _⟩
theorem st_toT (n : Int) (t d : Nat) (l : List Int) (hd : o.dst = some d) (ho : o.op = .call { callee := .value (.func 46), args := #[.const (.int .i64 n), .tmp t], argTypes := #[3, 22] }) (hG : Gd g2 g3 W w) (hx : Sp.ok (g3 + 1) g2 w (a.eval (.tmp t)) (.row l)) : Oper.wp Try.prog o a w (Leaves W g2 g3 st i (.ent n l) o a w) Q := by
  obtain ⟨A, m, c, e, h1⟩ := hx
  exact op_toT n t A m c ho e fun w' hb => ⟨_, rfl, (fun e => by rw [hd] at e; cases e), hG.below hb, ext_below hb, A, m, c, rfl, h1.below hb⟩
theorem st_lit1 (x : Int) (d : Nat) (hd : o.dst = some d) (ho : o.op = .buildSlice 22 1 #[(0, .const (.int .i64 x))]) (hG : Gd g2 g3 W w) : Oper.wp Try.prog o a w (Leaves W g2 g3 st i (.row [x]) o a w) Q := by
  have hb : Below w.heap.size w (w.alloc (.cells #[.int .i64 x] 3)) := (Below.refl _ _).alloc (Nat.le_refl _) _
  exact op_lit1 x ho ⟨_, rfl, (fun e => by rw [hd] at e; cases e), hG.below hb, ext_below hb, _, _, _, rfl, own_lit (B := g3 + 1) hG.lt3 [x] (by simp [maxLen])⟩
theorem st_lit2 (x y : Int) (d : Nat) (hd : o.dst = some d) (ho : o.op = .buildSlice 22 2 #[(0, .const (.int .i64 x)), (1, .const (.int .i64 y))]) (hG : Gd g2 g3 W w) : Oper.wp Try.prog o a w (Leaves W g2 g3 st i (.row [x, y]) o a w) Q := by
  have hb : Below w.heap.size w (w.alloc (.cells #[.int .i64 x, .int .i64 y] 3)) := (Below.refl _ _).alloc (Nat.le_refl _) _
  exact op_lit2 x y ho ⟨_, rfl, (fun e => by rw [hd] at e; cases e), hG.below hb, ext_below hb, _, _, _, rfl, own_lit (B := g3 + 1) hG.lt3 [x, y] (by simp [maxLen])⟩
theorem st_lit3 (x y z : Int) (d : Nat) (hd : o.dst = some d) (ho : o.op = .buildSlice 22 3 #[(0, .const (.int .i64 x)), (1, .const (.int .i64 y)), (2, .const (.int .i64 z))]) (hG : Gd g2 g3 W w) : Oper.wp Try.prog o a w (Leaves W g2 g3 st i (.row [x, y, z]) o a w) Q := by
  have hb : Below w.heap.size w (w.alloc (.cells #[.int .i64 x, .int .i64 y, .int .i64 z] 3)) := (Below.refl _ _).alloc (Nat.le_refl _) _
  exact op_lit3 x y z ho ⟨_, rfl, (fun e => by rw [hd] at e; cases e), hG.below hb, ext_below hb, _, _, _, rfl, own_lit (B := g3 + 1) hG.lt3 [x, y, z] (by simp [maxLen])⟩
theorem grownBy_refl (w : World) (r : Option Nat) : w.grownBy w r := ⟨rfl, rfl, rfl, Nat.le_refl _, fun _ _ _ => rfl⟩
theorem st_load (t d : Nat) (hd : o.dst = some d) (ho : o.op = .load 61 (.tmp t)) (hG : Gd g2 g3 W w) (hx : a.eval (.tmp t) = .pointer (some ⟨g3, 0, none⟩)) : Oper.wp Try.prog o a w (Leaves W g2 g3 st i (.ent (-1) []) o a w) Q :=
  op_load g3 t hx hG.no ho ⟨_, rfl, (fun e => by rw [hd] at e; cases e), hG, grownBy_refl _ _, none, 0, 0, rfl, own_nil _ _⟩
theorem st_build (t0 t1 t2 t3 t4 t5 t6 t7 t8 t9 d : Nat) (n0 n1 n2 n3 n4 n5 n6 n7 n8 n9 : Int) (l0 l1 l2 l3 l4 l5 l6 l7 l8 l9 : List Int) (hd : o.dst = some d)
    (ho : o.op = .build 62 #[(0, .tmp t0), (1, .tmp t1), (2, .tmp t2), (3, .tmp t3), (4, .tmp t4), (5, .tmp t5), (6, .tmp t6), (7, .tmp t7), (8, .tmp t8), (9, .tmp t9)]) (hG : Gd g2 g3 W w)
    (h0 : Sp.ok (g3 + 1) g2 w (a.eval (.tmp t0)) (.ent n0 l0)) (h1 : Sp.ok (g3 + 1) g2 w (a.eval (.tmp t1)) (.ent n1 l1)) (h2 : Sp.ok (g3 + 1) g2 w (a.eval (.tmp t2)) (.ent n2 l2)) (h3 : Sp.ok (g3 + 1) g2 w (a.eval (.tmp t3)) (.ent n3 l3)) (h4 : Sp.ok (g3 + 1) g2 w (a.eval (.tmp t4)) (.ent n4 l4))
    (h5 : Sp.ok (g3 + 1) g2 w (a.eval (.tmp t5)) (.ent n5 l5)) (h6 : Sp.ok (g3 + 1) g2 w (a.eval (.tmp t6)) (.ent n6 l6)) (h7 : Sp.ok (g3 + 1) g2 w (a.eval (.tmp t7)) (.ent n7 l7)) (h8 : Sp.ok (g3 + 1) g2 w (a.eval (.tmp t8)) (.ent n8 l8)) (h9 : Sp.ok (g3 + 1) g2 w (a.eval (.tmp t9)) (.ent n9 l9)) :
    Oper.wp Try.prog o a w (Leaves W g2 g3 st i (.tab [(n0, l0), (n1, l1), (n2, l2), (n3, l3), (n4, l4), (n5, l5), (n6, l6), (n7, l7), (n8, l8), (n9, l9)]) o a w) Q := by
  obtain ⟨A0, m0, c0, e0, w0⟩ := h0
  obtain ⟨A1, m1, c1, e1, w1⟩ := h1
  obtain ⟨A2, m2, c2, e2, w2⟩ := h2
  obtain ⟨A3, m3, c3, e3, w3⟩ := h3
  obtain ⟨A4, m4, c4, e4, w4⟩ := h4
  obtain ⟨A5, m5, c5, e5, w5⟩ := h5
  obtain ⟨A6, m6, c6, e6, w6⟩ := h6
  obtain ⟨A7, m7, c7, e7, w7⟩ := h7
  obtain ⟨A8, m8, c8, e8, w8⟩ := h8
  obtain ⟨A9, m9, c9, e9, w9⟩ := h9
  refine op_build t0 t1 t2 t3 t4 t5 t6 t7 t8 t9 n0 n1 n2 n3 n4 n5 n6 n7 n8 n9 A0 A1 A2 A3 A4 A5 A6 A7 A8 A9 m0 m1 m2 m3 m4 m5 m6 m7 m8 m9 c0 c1 c2 c3 c4 c5 c6 c7 c8 c9 ho e0 e1 e2 e3 e4 e5 e6 e7 e8 e9 ⟨_, rfl, (fun e => by rw [hd] at e; cases e), hG, grownBy_refl _ _, _, rfl, ?_⟩
  exact .cons w0 (.cons w1 (.cons w2 (.cons w3 (.cons w4 (.cons w5 (.cons w6 (.cons w7 (.cons w8 (.cons w9 .nil)))))))))
theorem st_store (t u : Nat) (es : List (Int × List Int)) (hl : es.length = 10) (hd : o.dst = none) (hi : i = st) (h23 : g2 < g3) (hW : W.heap.size ≤ g2) (ho : o.op = .store 62 (.tmp t) (.tmp u)) (hG : Gd g2 g3 W w) (hx : a.eval (.tmp t) = .pointer (some ⟨g2, 0, none⟩)) (hy : Sp.ok (g3 + 1) g2 w (a.eval (.tmp u)) (.tab es)) :
    Oper.wp Try.prog o a w (Leaves W g2 g3 st i (.done es) o a w) Q := by
  obtain ⟨cs', e, h1⟩ := hy
  obtain ⟨cs, h2, h3⟩ := hG.res
  have h4 := h1.one
  have hg : w.grownBy (w.setRow g2 cs'.toArray) (some g2) := ⟨rfl, rfl, rfl, by simp, fun k hk hne => setRow_other _ _ _ _ (fun e => hne (by rw [e]))⟩
  have hh : (w.setRow g2 cs'.toArray).heap[g2]? = some (.cells cs'.toArray 62 (0, 0)) := setRow_heap w g2 cs _ 62 _ h2
  refine op_store g2 t u cs cs'.toArray hx e h2 h3 (by simp [h4.1, hl]) (by simpa using h4.2) ho ⟨_, rfl, fun _ => rfl, ⟨⟨_, hh, by simp [h4.1, hl]⟩, (hg.block g3 hG.lt3 (by simp; omega)).trans hG.no, below_setRow hG.bel hW _⟩, ?_, cs', hh, h1.kept hg (fun g e => by cases e; omega)⟩
  unfold ExtR
  rw [if_pos hi]
  exact hg
end
end
end Go.Proofs.Ytjgndagejogfnaa.F
