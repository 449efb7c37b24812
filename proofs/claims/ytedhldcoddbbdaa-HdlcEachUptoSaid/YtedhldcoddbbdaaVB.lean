import Derived.Test.YtedhldcoddbbdaaV5
import Derived.Test.YtedhldcoddbbdaaT1
import Derived.Test.YtedhldcoddbbdaaT4
import Derived.Test.YtedhldcoddbbdaaN5
set_option linter.unusedVariables false
set_option linter.unusedSimpArgs false
set_option linter.unnecessarySimpa false
namespace Go.Proofs.Ytedhldcoddbbdaa.F
open Go.RowKit Go.Proofs.Ytedhldcoddbbdaa.K
variable (g : Nat) (w : World)
/-- what Byte gives back -/
def ByteR (r : Rn) (c : BitVec 8) (g : Nat) (v : Value) (w : World) (e : Ending) (w' : World) : Prop := ∃ (n : Int) (u : Value) (ok : Bool) (v' : Value), e = .returned (.tuple #[.agg #[.int .i64 n, u], .bool ok]) ∧ RnS w w' g v v' (r.step c).1 ∧ ((ok = false ∧ (r.step c).2 = none ∧ n = 0 ∧ u = .slice none 0 0) ∨ ∃ l, ok = true ∧ (r.step c).2 = some (n, l) ∧ Row w' w.heap.size 5 1 u l.length (l.map b8) ∧ v'.ownBlock = none)
theorem byte_fin {w W1 wx : World} {g : Nat} {r r1 : Rn} {v v1 x y n u : Value} (h : RnAt w g r v) (hb1 : Below w.heap.size w W1) (hs : RnS W1 wx g v v1 r1) (hv : v1.ownBlock ≠ some w.heap.size) (hf : wx.heap[w.heap.size]? = some (.cells #[x, y] 24 (0, 0))) : RnS w ((wx.setCell ⟨w.heap.size, 0, none⟩ n).setCell ⟨w.heap.size, 1, none⟩ u) g v v1 r1 ∧ ((wx.setCell ⟨w.heap.size, 0, none⟩ n).setCell ⟨w.heap.size, 1, none⟩ u).heap[w.heap.size]? = some (.cells #[n, u] 24 (0, 0)) ∧ wx.grownBy ((wx.setCell ⟨w.heap.size, 0, none⟩ n).setCell ⟨w.heap.size, 1, none⟩ u) (some w.heap.size) := by
  have hset : wx.grownBy ((wx.setCell ⟨w.heap.size, 0, none⟩ n).setCell ⟨w.heap.size, 1, none⟩ u) (some w.heap.size) := ⟨rfl, rfl, rfl, by simp [World.setCell], fun k _ hk => (heap_setCell_other _ _ _ _ (fun e => hk (by simp [e]))).trans (heap_setCell_other _ _ _ _ (fun e => hk (by simp [e])))⟩
  have hlt := (Array.getElem?_eq_some_iff.1 h.blk).1
  exact ⟨(((RnS.refl h).below hb1).trans hs).elsewhere hset (Nat.le_refl _) (by omega) hv, frame_set hf, hset⟩
set_option maxHeartbeats 8000000 in
set_option maxRecDepth 100000 in
theorem byte35 (r : Rn) (v : Value) (c : BitVec 8) (hm : 64 ≤ r.mru ∧ r.mru ≤ 16384) (ha : 0 ≤ r.accm ∧ r.accm ≤ 4294967295) (hl : r.B.length ≤ 1099511627776) (h : RnAt w g r v) : Calls Try.prog 35 #[.pointer (some ⟨g, 0, none⟩), .int .u8 (v8 c)] w (ByteR r c g v w) := by
  have HW := Lib.hid h
  have hb : Below w.heap.size w (w.alloc (.cells #[.int .i64 0, .slice none 0 0] 24)) := (Below.refl _ w).alloc (Nat.le_refl _) _
  have HB := Lib.hid hb
  have HF := Lib.hid (heap_alloc_new w (.cells #[.int .i64 0, .slice none 0 0] 24))
  have H0 := Lib.hid (h.below hb)
  have hlt := (Array.getElem?_eq_some_iff.1 h.blk).1
  have HVL := Lib.hid (fun k hk => (Row.live h.row (k := k) hk).2)
  obtain ⟨A, cap, hvv, k1, k2⟩ := Row.slice h.row
  subst hvv
  unfold maxLen at k2
  clear h hb
  have hz0 : w.heap.size < (w.alloc (.cells #[.int .i64 0, .slice none 0 0] 24)).heap.size := by simp
  by_cases h126 : c = 126#8
  · have HS : Hid (r.step c = r.fin) := Lib.hid (by unfold Rn.step; rw [if_pos h126])
    have z : (v8 c == 126) = true := by rw [h126]; rfl
    have HC := Lib.hid (whole46 g (w.alloc (.cells #[.int .i64 0, .slice none 0 0] 24)) r _ hm hl H0.out)
    clear h126
    go_enter Try.func35, Try.ntmps35
    go_wp2_with fail
    generalize w.alloc (.cells #[.int .i64 0, .slice none 0 0] 24) = W0 at *
    refine HC.out.mono ?_
    rintro e wx ⟨n, u, ok, rfl, hs, hcs⟩
    have HF2 := Lib.hid ((hs.grow.block w.heap.size hz0 (by omega) (fun e => by have := HVL.out _ e.symm; omega)).trans HF.out)
    have x0 : wx.cell? ⟨w.heap.size, 0, none⟩ = some (.int .i64 0) := (cell_of_row _ _ _ _ _ _ HF2.out).trans rfl
    have x1 : wx.cell? ⟨w.heap.size, 1, none⟩ = some (.slice none 0 0) := (cell_of_row _ _ _ _ _ _ HF2.out).trans rfl
    have y0 : wx.frozen? ⟨w.heap.size, 0, none⟩ = false := frozen_of_row _ _ _ _ _ HF2.out
    have y1 : wx.frozen? ⟨w.heap.size, 1, none⟩ = false := frozen_of_row _ _ _ _ _ HF2.out
    have HFIN := Lib.hid (fun (n' u' : Value) => byte_fin (n := n') (u := u') HW.out HB.out hs (by simp [Value.ownBlock]) HF2.out)
    clear hs HC
    obtain ⟨Au, lu, cu, hu⟩ : ∃ Au lu cu, u = .slice Au lu cu := by
      rcases hcs with ⟨-, -, -, rfl⟩ | ⟨l, -, -, hr⟩
      · exact ⟨none, 0, 0, rfl⟩
      · obtain ⟨A', c', e', -, -⟩ := Row.slice hr
        exact ⟨_, _, _, e'⟩
    subst hu
    have HCS := Lib.hid hcs
    clear hcs
    go_wp2_with fail
    have hfin := HFIN.out (.int .i64 n) (.slice Au lu cu)
    refine bodyPost_ret (v := .tuple #[.agg #[.int .i64 n, .slice Au lu cu], .bool ok]) (ret_ct (fn := Try.f35) (p := 4) (u := 5) rfl _ _ w.heap.size 24 #[.int .i64 n, .slice Au lu cu] (0, 0) _ rfl hfin.2.1 Try.underlying24 rfl (by kernel_rfl)) rfl ?_
    refine ⟨n, _, ok, _, rfl, by rw [HS.out]; exact hfin.1, ?_⟩
    rw [HS.out]
    rcases HCS.out with q | ⟨l, q1, q2, q3⟩
    · exact .inl q
    · exact .inr ⟨l, q1, q2, (q3.weak (by omega)).kept hfin.2.2 (fun k hk e => by have := (Row.live q3 hk).1; simp at e; omega), rfl⟩
  · have z : (v8 c == 126) = false := v8_ne (b := 126#8) h126
    have HS : Hid (r.step c = (r.put c, none)) := Lib.hid (by unfold Rn.step; rw [if_neg h126])
    clear h126
    obtain ⟨-, c1, -, -, c4, -, -, -, -, -, -⟩ := H0.out.f
    have f4 := H0.out.free 4
    go_enter Try.func35, Try.ntmps35
    go_upto_region 3 with fail
    generalize w.alloc (.cells #[.int .i64 0, .slice none 0 0] 24) = W0 at *
    have hv := v8_range c
    go_cut [24] (fun s wx => s = .bool (!dropF r.accm c.toNat) ∧ W0 = wx)
    case first =>
      have hto : (v8 c).toNat = c.toNat := by unfold v8; omega
      have hc32 : v8 c < 32 ↔ c.toNat < 32 := by unfold v8; omega
      have hwu : IntKind.u64.wrap (v8 c) = v8 c := by simp [IntKind.wrap, IntKind.bits, IntKind.signed]; omega
      by_cases h32 : v8 c < 32
      · have a1 := and1 (r.accm / 2 ^ c.toNat) (Int.ediv_nonneg ha.1 (by exact Int.le_of_lt (Int.pow_pos (by omega)))) (Int.le_trans (Int.ediv_le_self _ ha.1) (by omega))
        have hzb : (r.accm / 2 ^ c.toNat % 2 == 0) = !dropF r.accm c.toNat := by
          unfold dropF bitB
          rw [decide_eq_true (hc32.1 h32), Bool.true_and]
          rcases Int.emod_two_eq (r.accm / 2 ^ c.toNat) with e | e <;> rw [e] <;> rfl
        have z32 : ¬ (32 : Int) ≤ v8 c := by omega
        clear hc32
        generalize dropF r.accm c.toNat = dd at *
        cases dd
        · go_wp2_with fail
          go_meet
          exact ⟨rfl, rfl⟩
        · go_wp2_with fail
          go_meet
          exact ⟨rfl, rfl⟩
      · have hd : dropF r.accm c.toNat = false := by
          unfold dropF
          rw [decide_eq_false (fun e => h32 (hc32.2 e)), Bool.false_and]
        have z32 : (32 : Int) ≤ v8 c := by omega
        have HD := Lib.hid hd
        clear hc32 hd
        go_wp2_with fail
        go_meet
        exact ⟨by rw [HD.out]; rfl, rfl⟩
    case rest =>
    obtain ⟨rfl, rfl⟩ := hcut
    cases hd : dropF r.accm c.toNat
    · have HP : Hid (r.put c = { r with B := r.B ++ [c] }) := Lib.hid (by unfold Rn.put; rw [hd]; rfl)
      clear hd c1
      have hb5 : Below W0.heap.size W0 (W0.alloc (.cells #[.int .u8 (v8 c)] 5)) := (Below.refl _ W0).alloc (Nat.le_refl _) _
      have H5 := Lib.hid (((RnS.refl H0.out).below hb5))
      have HR5 : Hid (Row (W0.alloc (.cells #[.int .u8 (v8 c)] 5)) 0 5 1 (.slice A r.B.length cap) r.B.length (r.B.map b8)) := Lib.hid H5.out.q.row
      have HF5 := Lib.hid ((hb5.block w.heap.size hz0).trans HF.out)
      clear hb5
      have s1 : r.B.length + 1 ≤ maxLen := by unfold maxLen; omega
      have s2 : (r.B.length + 1) * 1 ≤ 140737488355328 := by omega
      go_wp2_with (at_builtin; refine wpList_row elB rfl _ _ rfl 0 _ _ _ rfl HR5.out _ 1 _ rfl (src_one W0 (.int .u8 (v8 c)) 5 rfl) s1 s2 (Nat.zero_le _) ?_)
      intro v5 w5 hr5
      obtain ⟨A5, c5, hv5, -, -⟩ := Row.slice hr5.row
      subst hv5
      have hgb := hr5.grow.block g (Array.getElem?_eq_some_iff.1 H5.out.q.blk).1 (fun e => H5.out.q.ne e.symm)
      have hfb := (hr5.grow.block w.heap.size (Array.getElem?_eq_some_iff.1 HF5.out).1 (fun e => by have := HVL.out _ e.symm; omega)).trans HF5.out
      have HOW := Lib.hid hr5.own
      have H6 := Lib.hid (H5.out.setv (r2 := { r with B := r.B ++ [c] }) ⟨hr5.grow.os, hr5.grow.tape, hr5.grow.output, hr5.grow.size, fun k hk h1 h2 => hr5.grow.block k hk h2⟩ hgb hr5.own (by have := hr5.row; simpa [b8] using this) rfl)
      have e4 : w5.cell? ⟨g, 4, none⟩ = some (.slice A r.B.length cap) := (cell_of_row _ _ _ _ _ _ (hgb.trans H5.out.q.blk)).trans rfl
      have g4 : w5.frozen? ⟨g, 4, none⟩ = false := frozen_of_row _ _ _ _ _ (hgb.trans H5.out.q.blk)
      have hf6 : (w5.setCell ⟨g, 4, none⟩ (.slice A5 (r.B.length + 1) c5)).heap[w.heap.size]? = some (.cells #[.int .i64 0, .slice none 0 0] 24 (0, 0)) := (heap_setCell_other _ _ _ _ (show w.heap.size ≠ g by omega)).trans hfb
      have HF6 := Lib.hid hf6
      have x0 := (cell_of_row _ _ 0 _ _ _ hf6).trans rfl
      have x1 := (cell_of_row _ _ 1 _ _ _ hf6).trans rfl
      have y0 := frozen_of_row _ _ 0 _ _ hf6
      have y1 := frozen_of_row _ _ 1 _ _ hf6
      clear hr5 hgb hfb hf6 H5 HR5 c4 f4
      go_wp2_with fail
      have hfin := byte_fin (n := .int .i64 0) (u := .slice none 0 0) HW.out HB.out H6.out (fun e => by
        rcases HOW.out _ e with q | q
        · have := HVL.out _ q; omega
        · have : (W0.alloc (.cells #[.int .u8 (v8 c)] 5)).heap.size = W0.heap.size + 1 := by simp
          omega) HF6.out
      refine bodyPost_ret (v := .tuple #[.agg #[.int .i64 0, .slice none 0 0], .bool false]) (ret_ct (fn := Try.f35) (p := 4) (u := 5) rfl _ _ w.heap.size 24 #[.int .i64 0, .slice none 0 0] (0, 0) _ rfl hfin.2.1 Try.underlying24 rfl (by kernel_rfl)) rfl ?_
      exact ⟨0, _, false, _, rfl, by rw [HS.out, HP.out]; exact hfin.1, .inl ⟨rfl, by rw [HS.out], rfl, rfl⟩⟩
    · have HP : Hid (r.put c = r) := Lib.hid (by unfold Rn.put; rw [hd]; rfl)
      have x0 := (cell_of_row _ _ 0 _ _ _ HF.out).trans rfl
      have x1 := (cell_of_row _ _ 1 _ _ _ HF.out).trans rfl
      have y0 := frozen_of_row _ _ 0 _ _ HF.out
      have y1 := frozen_of_row _ _ 1 _ _ HF.out
      clear hd c1 c4 f4
      go_wp2_with fail
      have hfin := byte_fin (n := .int .i64 0) (u := .slice none 0 0) HW.out HB.out (RnS.refl H0.out) (fun e => by have := HVL.out _ e; omega) HF.out
      refine bodyPost_ret (v := .tuple #[.agg #[.int .i64 0, .slice none 0 0], .bool false]) (ret_ct (fn := Try.f35) (p := 4) (u := 5) rfl _ _ w.heap.size 24 #[.int .i64 0, .slice none 0 0] (0, 0) _ rfl hfin.2.1 Try.underlying24 rfl (by kernel_rfl)) rfl ?_
      exact ⟨0, _, false, _, rfl, by rw [HS.out, HP.out]; exact hfin.1, .inl ⟨rfl, by rw [HS.out], rfl, rfl⟩⟩
end Go.Proofs.Ytedhldcoddbbdaa.F

namespace Go.Proofs.Ytedhldcoddbbdaa.F
open Go.RowKit Go.Proofs.Ytedhldcoddbbdaa.K
theorem _root_.Go.Proofs.Ytedhldcoddbbdaa.K.BytesAt.grown2 {w w' : World} {v : Value} {l : List (BitVec 8)} {g : Nat} {r : Option Nat} (h : BytesAt w v l) (hg : Grown2 w w' g r) (hn : ∀ k, v.ownBlock = some k → k < w.heap.size → k ≠ g ∧ r ≠ some k) : BytesAt w' v l :=
  h.mono fun b o u hc hb => by
    have hlt := World.block_lt_of_cell? w _ hc
    have q := hn b hb.symm hlt
    exact (World.cell?_of_block (hg.block b hlt q.1 (fun e => q.2 e.symm))).trans hc
/-- what the reference's Feed hands back -/
structure FedR (w w' : World) (g : Nat) (v v' u : Value) (r' : Rn) (fs : List (Int × List (BitVec 8))) (xs : List Fv) : Prop where
  told : xs.map Fv.fr = fs
  row : Row w' w.heap.size 24 2 u xs.length (frs xs)
  info : ∀ x ∈ xs, Row w' w.heap.size 5 1 x.u x.l.length (x.l.map b8)
  rn : RnS w w' g v v' r'
  off : ∀ k, v'.ownBlock = some k → u.ownBlock ≠ some k ∧ ∀ x ∈ xs, x.u.ownBlock ≠ some k
  apart : ∀ k, u.ownBlock = some k → ∀ x ∈ xs, x.u.ownBlock ≠ some k
theorem FedR.byte {w wr wx : World} {g : Nat} {v v1 v2 u : Value} {r1 r2 : Rn} {fs : List (Int × List (BitVec 8))} {xs : List Fv} (h : FedR w wr g v v1 u r1 fs xs) (hg : g < w.heap.size) (hs : RnS wr wx g v1 v2 r2) : FedR w wx g v v2 u r2 fs xs := by
  refine ⟨h.told, h.row.grown2 hs.grow (fun e => by have := (Row.live h.row e).1; omega) (fun k hk e => (h.off k e).1 hk), fun x hx => (h.info x hx).grown2 hs.grow (fun e => by have := (Row.live (h.info x hx) e).1; omega) (fun k hk e => (h.off k e).2 x hx hk), h.rn.trans hs, fun k hk => ?_, h.apart⟩
  rcases hs.own k hk with q | q
  · exact h.off k q
  · exact ⟨fun e => by have := (Row.live h.row e).2; omega, fun x hx e => by have := (Row.live (h.info x hx) e).2; omega⟩
theorem FedR.below {w wr wx : World} {g : Nat} {v v1 u : Value} {r1 : Rn} {fs : List (Int × List (BitVec 8))} {xs : List Fv} (h : FedR w wr g v v1 u r1 fs xs) (hb : Below wr.heap.size wr wx) : FedR w wx g v v1 u r1 fs xs :=
  ⟨h.told, h.row.below hb, fun x hx => (h.info x hx).below hb, h.rn.below hb, h.off, h.apart⟩
theorem FedR.push {w wr wa w4 : World} {g : Nat} {v v1 u u4 : Value} {r1 : Rn} {fs : List (Int × List (BitVec 8))} {xs : List Fv} {x : Fv} (h : FedR w wr g v v1 u r1 fs xs) (hg : g < w.heap.size) (hb : Below wr.heap.size wr wa) (hv : v1.ownBlock = none) (hx : Row wr w.heap.size 5 1 x.u x.l.length (x.l.map b8)) (hxu : ∀ k, u.ownBlock = some k → x.u.ownBlock ≠ some k) (h4 : RowR wa w4 w.heap.size 24 2 u u4 (xs.length + 1) (frs xs ++ frs [x])) : FedR w w4 g v v1 u4 r1 (fs ++ [x.fr]) (xs ++ [x]) := by
  have hb2 := h.below hb
  have hxa := hx.below hb
  have hrow := hb2.row
  have moved : ∀ y : Fv, Row wa w.heap.size 5 1 y.u y.l.length (y.l.map b8) → (∀ k, u.ownBlock = some k → y.u.ownBlock ≠ some k) → Row w4 w.heap.size 5 1 y.u y.l.length (y.l.map b8) := fun y hy hn => hy.kept h4.grow (fun k hk e => hn k e hk)
  have hgl := (Array.getElem?_eq_some_iff.1 hb2.rn.q.blk).1
  refine ⟨by simp [h.told], by rw [frs_append, List.length_append]; exact h4.row, fun y hy => ?_, ⟨⟨?_, ?_, hb2.rn.q.ne⟩, ⟨h4.grow.os.trans hb2.rn.grow.os, h4.grow.tape.trans hb2.rn.grow.tape, h4.grow.output.trans hb2.rn.grow.output, Nat.le_trans hb2.rn.grow.size h4.grow.size, fun k hk k1 k2 => ?_⟩, hb2.rn.own⟩, fun k hk => (by rw [hv] at hk; cases hk), fun k hk y hy e => ?_⟩
  · rcases List.mem_append.1 hy with hy | hy
    · exact moved y (hb2.info y hy) (fun k hk => hb2.apart k hk y hy)
    · obtain rfl : y = x := by simpa using hy
      exact moved _ hxa hxu
  · exact (h4.grow.block g hgl (fun e => by have := (Row.live hrow e.symm).1; omega)).trans hb2.rn.q.blk
  · exact hb2.rn.q.row.kept h4.grow (fun k hk e => by rw [hv] at hk; cases hk)
  · exact (h4.grow.block k (Nat.lt_of_lt_of_le hk hb2.rn.grow.size) (fun e => by have := (Row.live hrow e.symm).1; omega)).trans (hb2.rn.grow.block k hk k1 k2)
  · rcases h4.own k hk with q | q
    · rcases List.mem_append.1 hy with hy | hy
      · exact hb2.apart k q y hy e
      · obtain rfl : y = x := by simpa using hy
        exact hxu k q e
    · rcases List.mem_append.1 hy with hy | hy
      · have := (Row.live (hb2.info y hy) e).2; omega
      · obtain rfl : y = x := by simpa using hy
        have := (Row.live hxa e).2; omega
theorem Rn.feed_cnt (r : Rn) (p : List (BitVec 8)) : (r.feed p).2.length ≤ p.length := by
  induction p generalizing r with
  | nil => simp [Rn.feed]
  | cons c l ih =>
    have h1 := ih (r.step c).1
    have h2 : (r.step c).2.toList.length ≤ 1 := by cases (r.step c).2 <;> simp
    simp only [Rn.feed, List.length_append, List.length_cons]
    omega
theorem Rn.feed_acc (r : Rn) (l : List (BitVec 8)) : (r.feed l).1.mru = r.mru ∧ (r.feed l).1.accm = r.accm := by
  induction l generalizing r with
  | nil => exact ⟨rfl, rfl⟩
  | cons c l ih =>
    have h1 := r.step_same c
    have h2 := ih (r.step c).1
    simp only [Rn.feed]
    exact ⟨h2.1.trans h1.1, h2.2.trans h1.2⟩
def RFeedR (r : Rn) (bs : List (BitVec 8)) (g : Nat) (v : Value) (w : World) (e : Ending) (w' : World) : Prop := ∃ v' u xs, e = .returned u ∧ FedR w w' g v v' u (r.feed bs).1 (r.feed bs).2 xs
variable (g : Nat) (w : World)
set_option maxHeartbeats 8000000 in
set_option maxRecDepth 100000 in
theorem rfeed31 (r : Rn) (v : Value) (hm : 64 ≤ r.mru ∧ r.mru ≤ 16384) (ha : 0 ≤ r.accm ∧ r.accm ≤ 4294967295) (h : RnAt w g r v) (bs : List (BitVec 8)) (vb : Value) (hb : BytesAt w vb bs) (hvb : bs ≠ [] → ∀ k, vb.ownBlock = some k → k < w.heap.size → k ≠ g ∧ v.ownBlock ≠ some k) (hl : r.B.length + bs.length ≤ 1099511627776) :
    Calls Try.prog 31 #[.pointer (some ⟨g, 0, none⟩), vb] w (RFeedR r bs g v w) := by
  have HW := Lib.hid h
  have HBY := Lib.hid hb
  have HVB := Lib.hid hvb
  have hlt := (Array.getElem?_eq_some_iff.1 h.blk).1
  have HVL := Lib.hid (fun k hk => (Row.live h.row (k := k) hk).2)
  obtain ⟨Ab, cb, rfl, k1, k2, -, -⟩ := hb.at_
  unfold maxLen at k2
  have H0 : Hid (FedR w w g v v (.slice none 0 0) (r.feed (bs.take 0)).1 (r.feed (bs.take 0)).2 []) := Lib.hid ⟨rfl, Row.nil _ _ _ _, fun x hx => (by cases hx), by rw [List.take_zero]; exact RnS.refl h, fun k hk => ⟨by simp [Value.ownBlock], fun x hx => by cases hx⟩, fun k hk => by simp [Value.ownBlock] at hk⟩
  clear h hb hvb
  go_enter Try.func31, Try.ntmps31
  go_wp2_with fail
  go_loopw [5, 6] (fun ov i wr => ∃ (k : Nat) (xs : List Fv) (v1 : Value), k ≤ bs.length ∧ i = .int .i64 k ∧ Hid (FedR w wr g v v1 ov (r.feed (bs.take k)).1 (r.feed (bs.take k)).2 xs)) (fun _ i _ => bs.length - (intOf i).toNat)
  case atStart => exact ⟨0, [], v, by omega, rfl, H0⟩
  case round =>
    clear H0
    obtain ⟨k, xs, v1, hk, rfl, HFD⟩ := hrel
    obtain ⟨Ao, co, hov, -, -⟩ := Row.slice HFD.out.row
    subst hov
    by_cases hkl : k < bs.length
    · have HM : Hid (64 ≤ (r.feed (bs.take k)).1.mru ∧ (r.feed (bs.take k)).1.mru ≤ 16384) := Lib.hid (by rw [(Rn.feed_acc r _).1]; exact hm)
      have HA : Hid (0 ≤ (r.feed (bs.take k)).1.accm ∧ (r.feed (bs.take k)).1.accm ≤ 4294967295) := Lib.hid (by rw [(Rn.feed_acc r _).2]; exact ha)
      have HLN : Hid ((r.feed (bs.take k)).1.B.length ≤ 1099511627776) := Lib.hid (by
        have := Rn.feed_len r (bs.take k)
        rw [List.length_take] at this
        omega)
      have hxl : xs.length ≤ k := by
        have h1 := congrArg List.length HFD.out.told
        have h2 := Rn.feed_cnt r (bs.take k)
        rw [List.length_map] at h1
        rw [List.length_take] at h2
        omega
      have HT := Lib.hid (Rn.feed_take r bs k hkl)
      have hby : BytesAt wr (.slice Ab bs.length cb) bs := HBY.out.grown2 HFD.out.rn.grow (HVB.out (fun e => by rw [e] at hkl; simp at hkl))
      obtain ⟨b1, o1, rfl, d0⟩ := BytesAt.get hby hkl
      obtain ⟨c, hc⟩ : ∃ c, c = bs[k] := ⟨_, rfl⟩
      rw [← hc] at d0 HT
      have hws := HFD.out.rn.grow.size
      generalize r.feed (bs.take k) = R at *
      obtain ⟨r1, fs⟩ := R
      dsimp only at HM HA HLN HT HFD
      have HC := Lib.hid (byte35 g wr r1 v1 c HM.out HA.out HLN.out HFD.out.rn.q)
      have i0 : (0 : Int) ≤ (k : Int) := by omega
      have i1 : (k : Int) < (bs.length : Int) := by omega
      clear hc hby HM HA HLN
      go_wp2_with fail
      refine HC.out.mono ?_
      rintro e wx ⟨n, u, ok, v2, rfl, hs, hcs⟩
      have HS := Lib.hid hs
      clear HC d0 hs
      rcases hcs with ⟨rfl, h2, rfl, rfl⟩ | ⟨l, rfl, h2, hr, hv2⟩
      · have hb3 : Below wx.heap.size wx (wx.alloc (.cells #[.int .i64 0, .slice none 0 0] 24)) := (Below.refl _ _).alloc (Nat.le_refl _) _
        have HN := Lib.hid ((HFD.out.byte hlt HS.out).below hb3)
        have H2 := Lib.hid h2
        clear hb3 h2
        go_wp2_with fail
        go_roundw
        case rel => exact ⟨k + 1, xs, v2, by omega, by go_num, Lib.hid (by rw [HT.out, H2.out]; simpa using HN.out)⟩
        case measure => simp [intOf]; omega
      · obtain ⟨Au, cu, hu, -, -⟩ := Row.slice hr
        subst hu
        have HFB := Lib.hid (HFD.out.byte hlt HS.out)
        have hb3 : Below wx.heap.size wx (wx.alloc (.cells #[.int .i64 n, .slice Au l.length cu] 24)) := (Below.refl _ _).alloc (Nat.le_refl _) _
        have HN3 := Lib.hid (heap_alloc_new wx (.cells #[.int .i64 n, .slice Au l.length cu] 24))
        have HB3 := Lib.hid hb3
        have H2 := Lib.hid h2
        have HR := Lib.hid hr
        clear h2 hr
        go_upto_region 7 with fail
        have c0 : (wx.alloc (.cells #[.int .i64 n, .slice Au l.length cu] 24)).cell? ⟨wx.heap.size, 0, none⟩ = some (.int .i64 n) := (cell_of_row _ _ _ _ _ _ HN3.out).trans rfl
        have c1 : (wx.alloc (.cells #[.int .i64 n, .slice Au l.length cu] 24)).cell? ⟨wx.heap.size, 1, none⟩ = some (.slice Au l.length cu) := (cell_of_row _ _ _ _ _ _ HN3.out).trans rfl
        generalize hW3 : wx.alloc (.cells #[.int .i64 n, .slice Au l.length cu] 24) = W3 at *
        have hb4 : Below W3.heap.size W3 (W3.alloc (.cells #[.int .i64 n, .slice Au l.length cu] 24)) := (Below.refl _ _).alloc (Nat.le_refl _) _
        have HB4 := Lib.hid (below_then HB3.out hb4)
        have HRO := Lib.hid ((HFB.out.row.below HB3.out).below hb4)
        have s1 : xs.length + 1 ≤ maxLen := by unfold maxLen; omega
        have s2 : (xs.length + 1) * 32 ≤ 140737488355328 := by omega
        have s3 : w.heap.size ≤ (W3.alloc (.cells #[.int .i64 n, .slice Au l.length cu] 24)).heap.size := Nat.le_trans hws (Nat.le_trans HS.out.grow.size HB4.out.size)
        clear hb3 hb4 hW3
        go_wp2_with (at_builtin; refine wpList_row elF rfl _ _ rfl w.heap.size _ _ _ rfl HRO.out _ 1 _ rfl (src_fv W3 n Au l.length cu l) s1 s2 s3 ?_)
        intro v4 w4 hr4
        have HP := Lib.hid (HFB.out.push (x := ⟨n, .slice Au l.length cu, l⟩) hlt HB4.out hv2 (HR.out.weak hws) (fun k hk e => by have := (Row.live HFD.out.row hk).2; have := (Row.live HR.out e).1; omega) hr4)
        clear hr4 HRO c0 c1
        go_wp2_with fail
        go_roundw
        case rel => exact ⟨k + 1, xs ++ [⟨n, .slice Au l.length cu, l⟩], v2, by omega, by go_num, Lib.hid (by rw [HT.out, H2.out]; exact HP.out)⟩
        case measure => simp [intOf]; omega
    · obtain rfl : k = bs.length := by omega
      rw [List.take_length] at HFD
      have i1 : ¬ (bs.length : Int) < (bs.length : Int) := by omega
      go_wp2_with fail
      go_ret
      exact ⟨_, _, _, rfl, HFD.out⟩
end Go.Proofs.Ytedhldcoddbbdaa.F

/- Both receivers, side by side. -/
namespace Go.Proofs.Ytedhldcoddbbdaa.F
open Go.RowKit Go.Proofs.Ytedhldcoddbbdaa.K
theorem LentAt.row {W : World} {base : Nat} {v : Value} {l : List (BitVec 8)} (h : LentAt W base v l) : Row W base 5 1 v l.length (l.map b8) := by
  obtain ⟨g, cap, cur, rfl, hb, hh, hn, hm, hcs, htk⟩ := h
  refine ⟨by simp, .inr ⟨g, cap, cur, rfl, hb, hh, by omega, hm, by omega, ?_⟩⟩
  have := congrArg (List.take l.length) htk
  rw [List.take_take, List.take_append_of_le_length (by simp), List.take_of_length_le (l := l.map b8) (by simp)] at this
  simpa [show min l.length (l.length + 1) = l.length by omega] using this
theorem LentAt.grown2 {W W' : World} {base : Nat} {v : Value} {l : List (BitVec 8)} {g : Nat} {r : Option Nat} (h : LentAt W base v l) (hg : Grown2 W W' g r) (hn : ∀ k, v.ownBlock = some k → k ≠ g ∧ r ≠ some k) : LentAt W' base v l := by
  obtain ⟨b, cap, cur, rfl, hb, hh, hr⟩ := h
  have q := hn b rfl
  exact ⟨b, cap, cur, rfl, hb, (hg.block b (Array.getElem?_eq_some_iff.1 hh).1 q.1 (fun e => q.2 e.symm)).trans hh, hr⟩
structure Two (w wr : World) (G1 G2 : Nat) (d : Ln) (r : Rn) (u u2 : Value) : Prop where
  below : Below w.heap.size w wr
  a : LnAt wr G1 d u
  b : RnAt wr G2 r u2
  g1 : w.heap.size ≤ G1
  g2 : w.heap.size ≤ G2
  ne : G1 ≠ G2
  ua : ∀ k, u.ownBlock = some k → w.heap.size ≤ k ∧ k ≠ G2 ∧ u2.ownBlock ≠ some k
  ub : ∀ k, u2.ownBlock = some k → w.heap.size ≤ k ∧ k ≠ G1
theorem Two.lt {w wr : World} {G1 G2 : Nat} {d : Ln} {r : Rn} {u u2 : Value} (h : Two w wr G1 G2 d r u u2) : G1 < wr.heap.size ∧ G2 < wr.heap.size := ⟨(Array.getElem?_eq_some_iff.1 h.a.blk).1, (Array.getElem?_eq_some_iff.1 h.b.blk).1⟩
theorem Two.ln {w wr wx : World} {G1 G2 : Nat} {d d' : Ln} {r : Rn} {u u' u2 : Value} (h : Two w wr G1 G2 d r u u2) (hs : LnS wr wx G1 u u' d') : Two w wx G1 G2 d' r u' u2 := by
  have hlt := h.lt
  have g1 := h.g1
  have g2 := h.g2
  refine ⟨⟨hs.grow.os.trans h.below.os, hs.grow.tape.trans h.below.tape, hs.grow.output.trans h.below.output, Nat.le_trans h.below.size hs.grow.size, fun k hk => ?_⟩, hs.q, ⟨?_, ?_, h.b.ne⟩, h.g1, h.g2, h.ne, fun k hk => ?_, h.ub⟩
  · exact (hs.grow.block k (Nat.lt_of_lt_of_le hk h.below.size) (by omega) (fun e => by have := (h.ua k e.symm).1; omega)).trans (h.below.block k hk)
  · exact (hs.grow.block G2 hlt.2 (fun e => h.ne e.symm) (fun e => (h.ua G2 e.symm).2.1 rfl)).trans h.b.blk
  · exact h.b.row.grown2 hs.grow (fun e => (h.ub G1 e).2 rfl) (fun k hk e => (h.ua k e).2.2 hk)
  · rcases hs.own k hk with q | q
    · exact h.ua k q
    · exact ⟨Nat.le_trans h.below.size q, by omega, fun e => by have := (Row.live h.b.row e).2; omega⟩
theorem Two.rn {w wr wx : World} {G1 G2 : Nat} {d : Ln} {r r' : Rn} {u u2 u2' : Value} (h : Two w wr G1 G2 d r u u2) (hs : RnS wr wx G2 u2 u2' r') : Two w wx G1 G2 d r' u u2' := by
  have hlt := h.lt
  have g1 := h.g1
  have g2 := h.g2
  refine ⟨⟨hs.grow.os.trans h.below.os, hs.grow.tape.trans h.below.tape, hs.grow.output.trans h.below.output, Nat.le_trans h.below.size hs.grow.size, fun k hk => ?_⟩, ⟨?_, ?_, h.a.ne⟩, hs.q, h.g1, h.g2, h.ne, fun k hk => ?_, fun k hk => ?_⟩
  · exact (hs.grow.block k (Nat.lt_of_lt_of_le hk h.below.size) (by omega) (fun e => by have := (h.ub k e.symm).1; omega)).trans (h.below.block k hk)
  · exact (hs.grow.block G1 hlt.1 h.ne (fun e => (h.ub G1 e.symm).2 rfl)).trans h.a.blk
  · exact h.a.row.grown2 hs.grow (fun e => (h.ua G2 e).2.1 rfl) (fun k hk e => (h.ua k hk).2.2 e)
  · have q := h.ua k hk
    refine ⟨q.1, q.2.1, fun e => ?_⟩
    rcases hs.own k e with q2 | q2
    · exact q.2.2 q2
    · have := (Row.live h.a.row hk).2; omega
  · rcases hs.own k hk with q | q
    · exact h.ub k q
    · exact ⟨Nat.le_trans h.below.size q, by omega⟩
theorem Two.bel {w wr wx : World} {G1 G2 : Nat} {d : Ln} {r : Rn} {u u2 : Value} (h : Two w wr G1 G2 d r u u2) (hb : Below wr.heap.size wr wx) : Two w wx G1 G2 d r u u2 :=
  ⟨below_then h.below hb, h.a.below hb, h.b.below hb, h.g1, h.g2, h.ne, h.ua, h.ub⟩
theorem Two.grown {w wr wx : World} {G1 G2 : Nat} {d : Ln} {r : Rn} {u u2 : Value} {row : Option Nat} (h : Two w wr G1 G2 d r u u2) (hg : wr.grownBy wx row) (hr : ∀ k, row = some k → w.heap.size ≤ k ∧ k ≠ G1 ∧ k ≠ G2 ∧ u.ownBlock ≠ some k ∧ u2.ownBlock ≠ some k) : Two w wx G1 G2 d r u u2 :=
  ⟨h.below.grown hg h.below.size (fun k e => (hr k e).1),
    ⟨(hg.block G1 h.lt.1 (fun e => (hr G1 e.symm).2.1 rfl)).trans h.a.blk, h.a.row.kept hg (fun k hk e => (hr k e).2.2.2.1 hk), h.a.ne⟩,
    ⟨(hg.block G2 h.lt.2 (fun e => (hr G2 e.symm).2.2.1 rfl)).trans h.b.blk, h.b.row.kept hg (fun k hk e => (hr k e).2.2.2.2 hk), h.b.ne⟩, h.g1, h.g2, h.ne, h.ua, h.ub⟩
theorem Ln.Ok.res {d : Ln} (h : d.Ok) : d.reset.Ok := by
  obtain ⟨h0, h1, h2⟩ := h
  exact ⟨h0, h1, by show (([] : List (BitVec 8)).length : Int) ≤ d.mru + 7; simp; omega⟩
theorem parseP_len (l : List (BitVec 8)) (p q : Bool) : (parseP l p q).2.2.length ≤ l.length := by
  have hs : ∀ r : List (BitVec 8), strip l = some r → r.length ≤ l.length := by
    intro r hr
    rcases l with _ | ⟨a, _ | ⟨b, r'⟩⟩
    · simp [strip] at hr
    · simp [strip] at hr
    · simp only [strip] at hr
      split at hr
      · simp only [Option.some.injEq] at hr; subst hr; simp; omega
      · simp at hr
  unfold parseP headP
  cases h : strip l with
  | some r =>
    have := hs r h
    dsimp only
    split
    · split
      · simp; omega
      · simp
    · simp
  | none =>
    dsimp only
    cases q
    · simp
    · simp only [if_true]
      split
      · split
        · simp
        · simp
      · simp
theorem fin_len {d : Ln} (h : d.Ok) (f : Int × List (BitVec 8)) (hf : d.fin.2 = some f) : f.2.length ≤ 20000 := by
  obtain ⟨h0, h1, h2⟩ := h
  have hp := parseP_len (d.l.take (d.l.length - 2)) d.pfc d.acfc
  have ht : (d.l.take (d.l.length - 2)).length ≤ d.l.length := by rw [List.length_take]; omega
  unfold Ln.fin at hf
  repeat' split at hf
  all_goals first
    | (simp at hf; done)
    | (simp only [Option.some.injEq] at hf; rw [← hf]; omega)
theorem feed_frames {d : Ln} (h : d.Ok) (l : List (BitVec 8)) : ∀ f ∈ (feedL d l).2, f.2.length ≤ 20000 := by
  induction l generalizing d with
  | nil => intro f hf; simp [feedL] at hf
  | cons c r ih =>
    intro f hf
    simp only [feedL, List.mem_append, Option.mem_toList] at hf
    rcases hf with hf | hf
    · unfold stepL at hf
      split at hf
      · exact fin_len h f hf
      · simp at hf
    · exact ih (h.step c) f hf
end Go.Proofs.Ytedhldcoddbbdaa.F
