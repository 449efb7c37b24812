import Derived.Test.YtedhldcoddbbdaaQ1
set_option linter.unusedVariables false
set_option linter.unusedSimpArgs false
set_option linter.unnecessarySimpa false
namespace Go.Proofs.Ytedhldcoddbbdaa.F
open Go.RowKit Go.Proofs.Ytedhldcoddbbdaa.K
variable (g : Nat) (w : World)
/-- the facts a walk reads of the record -/
structure LnF (w : World) (g : Nat) (d : Ln) (v : Value) : Prop where
  c0 : w.cell? ⟨g, 0, none⟩ = some (.int .i64 d.mru)
  c257 : w.cell? ⟨g, 257, none⟩ = some (.bool d.pfc)
  c258 : w.cell? ⟨g, 258, none⟩ = some (.bool d.acfc)
  c259 : w.cell? ⟨g, 259, none⟩ = some v
  c260 : w.cell? ⟨g, 260, none⟩ = some (.bool d.any)
  c261 : w.cell? ⟨g, 261, none⟩ = some (.bool d.esc)
  c262 : w.cell? ⟨g, 262, none⟩ = some (.int .u8 (v8 d.last))
  c263 : w.cell? ⟨g, 263, none⟩ = some (.int .i64 d.c0)
  c264 : w.cell? ⟨g, 264, none⟩ = some (.int .i64 d.c1)
  c265 : w.cell? ⟨g, 265, none⟩ = some (.int .i64 d.c2)
  c266 : w.cell? ⟨g, 266, none⟩ = some (.int .i64 d.c3)
  c267 : w.cell? ⟨g, 267, none⟩ = some (.int .i64 d.c4)
  c268 : w.cell? ⟨g, 268, none⟩ = some (.int .i64 d.c5)
theorem LnAt.f {w : World} {g : Nat} {d : Ln} {v : Value} (h : LnAt w g d v) : LnF w g d v :=
  ⟨h.cmru, h.tl 0 (by omega), h.tl 1 (by omega), h.tl 2 (by omega), h.tl 3 (by omega), h.tl 4 (by omega), h.tl 5 (by omega), h.tl 6 (by omega), h.tl 7 (by omega), h.tl 8 (by omega), h.tl 9 (by omega), h.tl 10 (by omega), h.tl 11 (by omega)⟩
def Ln.reset (d : Ln) : Ln := { d with l := [], any := false, esc := false, last := 0#8 }
theorem reset_s {w : World} {g : Nat} {d : Ln} {v : Value} (h : LnAt w g d v) : LnS w ((((w.setCell ⟨g, 259, none⟩ (.slice none 0 0)).setCell ⟨g, 260, none⟩ (.bool false)).setCell ⟨g, 261, none⟩ (.bool false)).setCell ⟨g, 262, none⟩ (.int .u8 0)) g v (.slice none 0 0) d.reset := by
  have h1 := (LnS.refl h).setv (w2 := w) (v2 := .slice none 0 0) (d2 := { d with l := [] }) (Grown2.refl _ _ _) rfl (fun k hk => by simp [Value.ownBlock] at hk) (Row.nil _ _ _ _) rfl rfl rfl
  have h2 := h1.set 3 (by omega) (.bool false) { d with l := [], any := false } rfl rfl rfl rfl
  have h3 := h2.set 4 (by omega) (.bool false) { d with l := [], any := false, esc := false } rfl rfl rfl rfl
  exact h3.set 5 (by omega) (.int .u8 0) d.reset rfl rfl rfl rfl
theorem reset30 (d : Ln) (v : Value) (h : LnAt w g d v) : Calls Try.prog 30 #[.pointer (some ⟨g, 0, none⟩)] w fun e w' => e = .returned (.tuple #[]) ∧ LnS w w' g v (.slice none 0 0) d.reset ∧ w.grownBy w' (some g) := by
  have H := Lib.hid (reset_s h)
  obtain ⟨c0, c257, c258, c259, c260, c261, c262, -, -, -, -, -, -⟩ := h.f
  have f1 := h.free 259
  have f2 := h.free 260
  have f3 := h.free 261
  have f4 := h.free 262
  obtain ⟨A, cap, rfl, -, -⟩ := Row.slice h.row
  clear h c0 c257 c258
  go_enter Try.func30, Try.ntmps30
  go_wp2_with fail
  go_end0
  exact ⟨rfl, H.out, rfl, rfl, rfl, by simp [World.setCell], fun k hk hn => by
    have hne : k ≠ g := fun e => hn (by rw [e])
    rw [heap_setCell_other _ _ _ _ (show k ≠ g from hne), heap_setCell_other _ _ _ _ (show k ≠ g from hne), heap_setCell_other _ _ _ _ (show k ≠ g from hne), heap_setCell_other _ _ _ _ (show k ≠ g from hne)]⟩
theorem reset_nil : Calls Try.prog 30 #[.pointer none] w fun e w' => e = .returned (.tuple #[]) ∧ w = w' := by
  go_enter Try.func30, Try.ntmps30
  go_wp2_with fail
  go_end0
  exact ⟨rfl, rfl⟩
def cntV (d : Ln) : Value := .agg #[.int .i64 d.c0, .int .i64 d.c1, .int .i64 d.c2, .int .i64 d.c3, .int .i64 d.c4, .int .i64 d.c5]
theorem counts33 (d : Ln) (v : Value) (h : LnAt w g d v) : Calls Try.prog 33 #[.pointer (some ⟨g, 0, none⟩)] w fun e w' => e = .returned (cntV d) ∧ Below w.heap.size w w' := by
  have hlt := (Array.getElem?_eq_some_iff.1 h.blk).1
  obtain ⟨-, -, -, -, -, -, -, c263, c264, c265, c266, c267, c268⟩ := h.f
  clear h
  go_enter Try.func33, Try.ntmps33
  go_wp2_with fail
  exact bodyPost_ret (v := cntV d) (results_cell_row rfl _ _ w.heap.size 60 #[.int .i64 d.c0, .int .i64 d.c1, .int .i64 d.c2, .int .i64 d.c3, .int .i64 d.c4, .int .i64 d.c5] (0, 0) _ rfl (heap_alloc_new _ _) Try.underlying60 rfl (by kernel_rfl)) rfl ⟨rfl, (Below.refl _ w).alloc (Nat.le_refl _) _⟩
theorem counts_nil : Calls Try.prog 33 #[.pointer none] w fun e w' => e = .returned (.agg #[.int .i64 0, .int .i64 0, .int .i64 0, .int .i64 0, .int .i64 0, .int .i64 0]) ∧ Below w.heap.size w w' := by
  go_enter Try.func33, Try.ntmps33
  go_wp2_with fail
  exact bodyPost_ret (v := .agg #[.int .i64 0, .int .i64 0, .int .i64 0, .int .i64 0, .int .i64 0, .int .i64 0]) (results_cell_row rfl _ _ w.heap.size 60 #[.int .i64 0, .int .i64 0, .int .i64 0, .int .i64 0, .int .i64 0, .int .i64 0] (0, 0) _ rfl (heap_alloc_new _ _) Try.underlying60 rfl (by kernel_rfl)) rfl ⟨rfl, (Below.refl _ w).alloc (Nat.le_refl _) _⟩
def Ln.put (d : Ln) (c : BitVec 8) : Ln := if d.drop c.toNat then d else if !d.esc && decide (c = 125#8) then { d with any := true, last := c, esc := true } else { d with any := true, last := c, esc := false, l := if (d.l.length : Int) ≤ d.mru + 6 then d.l ++ [if d.esc then c ^^^ 32#8 else c] else d.l }
structure Ln.Ok (d : Ln) : Prop where
  m0 : 64 ≤ d.mru
  m1 : d.mru ≤ 16384
  len : (d.l.length : Int) ≤ d.mru + 7
set_option maxHeartbeats 4000000 in
set_option maxRecDepth 100000 in
theorem put44 (d : Ln) (v : Value) (c : BitVec 8) (hok : d.Ok) (h : LnAt w g d v) : Calls Try.prog 44 #[.pointer (some ⟨g, 0, none⟩), .int .u8 (v8 c)] w fun e w' => e = .returned (.tuple #[]) ∧ ∃ v', LnS w w' g v v' (d.put c) := by
  have H := Lib.hid h
  have hv := v8_range c
  have hvn : (v8 c).toNat = c.toNat := by unfold v8; omega
  have hcl := c.isLt
  have dm : w.cell? ⟨g, 1 + (v8 c).toNat, none⟩ = some (.bool (d.drop c.toNat)) := by rw [hvn]; exact h.cdrop c.toNat hcl
  have hv1 : v8 c < 256 := by omega
  have hv0 := hv.1
  have hOK := Lib.hid hok
  clear hv hcl hvn h hok
  cases hdr : d.drop c.toNat
  · rw [hdr] at dm
    have HP := Lib.hid (show d.put c = if !d.esc && decide (c = 125#8) then { d with any := true, last := c, esc := true } else { d with any := true, last := c, esc := false, l := if (d.l.length : Int) ≤ d.mru + 6 then d.l ++ [if d.esc then c ^^^ 32#8 else c] else d.l } by unfold Ln.put; rw [hdr]; rfl)
    clear hdr
    obtain ⟨c0, -, -, c259, c260, c261, c262, -, -, -, -, -, -⟩ := H.out.f
    have f2 := H.out.free 260
    have f4 := H.out.free 262
    have h1 := (LnS.refl H.out).set 3 (by omega) (.bool true) { d with any := true } rfl rfl rfl rfl
    have h2 := h1.set 5 (by omega) (.int .u8 (v8 c)) { d with any := true, last := c } rfl rfl rfl rfl
    have H2 := Lib.hid h2
    clear h1 h2
    go_enter Try.func44, Try.ntmps44
    go_upto_region 2 with fail
    generalize (w.setCell ⟨g, 260, none⟩ (.bool true)).setCell ⟨g, 262, none⟩ (.int .u8 (v8 c)) = w2 at *
    clear c0 c259 c260 c261 c262 f2 f4 dm H
    obtain ⟨c0, -, -, c259, c260, c261, c262, -, -, -, -, -, -⟩ := H2.out.q.f
    have f3 := H2.out.q.free 261
    simp only at c0 c259 c260 c261 c262
    have hx := xor8 c 32#8
    rw [show v8 32#8 = 32 from rfl] at hx
    generalize hes : d.esc = es at *
    by_cases h125 : es = false ∧ c = 125#8
    · obtain ⟨rfl, rfl⟩ := h125
      have h3 := H2.out.set 4 (by omega) (.bool true) { d with any := true, last := 125#8, esc := true } rfl rfl rfl rfl
      have H3 := Lib.hid h3
      clear h3
      have z : (v8 125#8 == 125) = true := rfl
      go_wp2_with fail
      refine bodyPost_ret (results_none rfl _ _ _) rfl ?_
      exact ⟨rfl, v, by rw [HP.out]; exact H3.out⟩
    · have HP2 : Hid (d.put c = { d with any := true, last := c, esc := false, l := if (d.l.length : Int) ≤ d.mru + 6 then d.l ++ [if es then c ^^^ 32#8 else c] else d.l }) := Lib.hid (by
        rw [HP.out]
        cases es
        · have : ¬ c = 125#8 := fun e => h125 ⟨rfl, e⟩
          simp [this]
        · rfl)
      clear HP
      go_cut [25] (fun s wx => s = .bool false ∧ w2 = wx)
      case first =>
        cases es
        · have hc : ¬ c = 125#8 := fun e => h125 ⟨rfl, e⟩
          have z : (v8 c == 125) = false := v8_ne (b := 125#8) hc
          go_wp2_with fail
          go_meet
          exact ⟨rfl, rfl⟩
        · go_wp2_with fail
          go_meet
          exact ⟨rfl, rfl⟩
      case rest =>
      obtain ⟨rfl, rfl⟩ := hcut
      clear h125
      go_upto_region 4 with fail
      go_upto_if 32 with fail
      go_cut [1] (fun u wx => w2 = wx ∧ u = .int .u8 (v8 (if es then c ^^^ 32#8 else c)))
      case first =>
        cases es
        · go_wp2_with fail
          go_meet
          exact ⟨rfl, rfl⟩
        · go_wp2_with fail
          go_meet
          exact ⟨rfl, rfl⟩
      case rest =>
      obtain ⟨rfl, rfl⟩ := hcut
      generalize (if es then c ^^^ 32#8 else c) = c' at *
      have h3 := H2.out.set 4 (by omega) (.bool false) { d with any := true, last := c, esc := false } rfl rfl rfl rfl
      have H3 := Lib.hid h3
      clear h3
      go_upto_region 7 with fail
      generalize w2.setCell ⟨g, 261, none⟩ (.bool false) = w3 at *
      clear c0 c259 c260 c261 c262 f3 H2
      obtain ⟨A, cap, hvv, k1, k2⟩ := Row.slice H3.out.q.row
      subst hvv
      unfold maxLen at k2
      obtain ⟨c0, -, -, c259, -, -, -, -, -, -, -, -, -⟩ := H3.out.q.f
      simp only at c0 c259 k1
      have hm0 := hOK.out.m0
      have hm1 := hOK.out.m1
      have hln := hOK.out.len
      have hw6 : wrap64 (d.mru + 6) = d.mru + 6 := by unfold wrap64; omega
      have hw7 := IntWalk.i64_in (d.mru + 6) (by omega)
      by_cases hle : (d.l.length : Int) ≤ d.mru + 6
      · have HP3 : Hid (d.put c = { d with any := true, last := c, esc := false, l := d.l ++ [c'] }) := Lib.hid (by rw [HP2.out, if_pos hle])
        clear HP2
        go_quiet (fail)
        have hbd : Below w3.heap.size w3 (w3.drewN nq) := Go.below_drewN (Below.refl _ _) _
        have H4 := Lib.hid (H3.out.below hbd)
        clear hbd c0 c259
        generalize w3.drewN nq = w4 at *
        obtain ⟨-, -, -, c259, -, -, -, -, -, -, -, -, -⟩ := H4.out.q.f
        have f2 := H4.out.q.free 259
        simp only at c259
        have hb5 : Below w4.heap.size w4 (w4.alloc (.cells #[.int .u8 (v8 c')] 5)) := (Below.refl _ w4).alloc (Nat.le_refl _) _
        have H5 := Lib.hid (H4.out.below hb5)
        have HR5 : Hid (Row (w4.alloc (.cells #[.int .u8 (v8 c')] 5)) 0 5 1 (.slice A d.l.length cap) d.l.length (d.l.map b8)) := Lib.hid H5.out.q.row
        clear hb5
        have s1 : d.l.length + 1 ≤ maxLen := by unfold maxLen; omega
        have s2 : (d.l.length + 1) * 1 ≤ 140737488355328 := by omega
        go_wp2_with (at_builtin; refine wpList_row elB rfl _ _ rfl 0 _ _ _ rfl HR5.out _ 1 _ rfl (src_one w4 (.int .u8 (v8 c')) 5 rfl) s1 s2 (Nat.zero_le _) ?_)
        intro v5 w5 hr5
        obtain ⟨A5, c5, hv5, -, -⟩ := Row.slice hr5.row
        subst hv5
        have hgb := hr5.grow.block g (Array.getElem?_eq_some_iff.1 H5.out.q.blk).1 (fun e => H5.out.q.ne e.symm)
        have H6 := Lib.hid (H5.out.setv (d2 := { d with any := true, last := c, esc := false, l := d.l ++ [c'] }) ⟨hr5.grow.os, hr5.grow.tape, hr5.grow.output, hr5.grow.size, fun k hk h1 h2 => hr5.grow.block k hk h2⟩ hgb hr5.own (by have := hr5.row; simpa [b8] using this) rfl rfl rfl)
        have e259 : w5.cell? ⟨g, 259, none⟩ = some (.slice A d.l.length cap) := (cell_of_row _ _ _ _ _ _ (hgb.trans H5.out.q.blk)).trans (LC_tail _ _ 2 (by omega))
        have g259 : w5.frozen? ⟨g, 259, none⟩ = false := frozen_of_row _ _ _ _ _ (hgb.trans H5.out.q.blk)
        clear hr5 hgb H5 HR5 c259 f2
        go_wp2_with fail
        go_end0
        exact ⟨rfl, _, by rw [HP3.out]; exact H6.out⟩
      · have HP3 : Hid (d.put c = { d with any := true, last := c, esc := false }) := Lib.hid (by rw [HP2.out, if_neg hle])
        clear HP2
        go_quiet (fail)
        have hbd : Below w3.heap.size w3 (w3.drewN nq) := Go.below_drewN (Below.refl _ _) _
        have H4 := Lib.hid (H3.out.below hbd)
        clear hbd
        go_wp2_with fail
        go_end0
        exact ⟨rfl, _, by rw [HP3.out]; exact H4.out⟩
  · rw [hdr] at dm
    have HP := Lib.hid (show d.put c = d by unfold Ln.put; rw [hdr]; rfl)
    clear hdr
    go_enter Try.func44, Try.ntmps44
    go_wp2_with fail
    refine bodyPost_ret (results_none rfl _ _ _) rfl ?_
    exact ⟨rfl, v, by rw [HP.out]; exact LnS.refl H.out⟩
end Go.Proofs.Ytedhldcoddbbdaa.F
