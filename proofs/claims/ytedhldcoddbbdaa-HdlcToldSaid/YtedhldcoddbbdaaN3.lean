import Derived.Test.YtedhldcoddbbdaaN1
import Derived.Test.YtedhldcoddbbdaaN2
import Derived.Test.YtedhldcoddbbdaaO1
import Derived.Test.YtedhldcoddbbdaaS4
set_option linter.unusedVariables false
set_option linter.unusedSimpArgs false
set_option linter.unnecessarySimpa false
namespace Go.Proofs.Ytedhldcoddbbdaa.F
open Go.RowKit Go.Proofs.Ytedhldcoddbbdaa.K
theorem xorbit (X : BitVec 8) (m : Nat) (hm : m < 8) : bits .xor .u8 (v8 X) (2 ^ m % 256) = v8 (X ^^^ bit8 m) := by
  have h : ∀ m : Fin 8, ((2 : Int) ^ m.1 % 256) = v8 (bit8 m.1) := by decide
  rw [h ⟨m, hm⟩, xor8]
theorem bare_len (n : Int) (info : List (BitVec 8)) : 4 ≤ (bareL n ⟨0, false, false⟩ info).length := by
  unfold bareL hd1 hd2
  simp
theorem bodyLen (n : Int) (s : Sn) (info : List (BitVec 8)) (h : bodyE n s info = 0) : info.length ≤ 16384 := by
  unfold bodyE at h
  split at h
  · split at h
    · simp at h
    · omega
  · simp at h
theorem field60_3 (a b c d e f : Value) (w : World) : (Instr.field 60 (.agg #[a, b, c, d, e, f]) 3).run Try.prog w = .ok d w := by kernel_rfl
set_option maxRecDepth 100000 in
set_option maxHeartbeats 8000000 in
theorem told8 (x : Int × List (BitVec 8)) (v : Value) (bit : Int) (w : World) (hx : R.FrameV w v x) (hbw : (Lit.int .i64 bit).wf = true) : Calls Try.prog 8 #[v, .int .i64 bit] w fun e w' => e = .returned (.bool true) ∧ Below w.heap.size w w' := by
  obtain ⟨n, info⟩ := x
  obtain ⟨u, rfl, hu⟩ := hx
  dsimp only at hu ⊢
  have HK := Lib.hid (fun W => known21 W)
  have hb1 : Below w.heap.size w (w.alloc (.cells #[.int .i64 n, u] 24)) := (Below.refl _ w).alloc (Nat.le_refl _) _
  have HB1 := Lib.hid hb1
  have hu1 := hu.below hb1
  obtain ⟨A, cap, rfl, k1, k2, -, -⟩ := hu.at_
  clear hu hb1
  by_cases he : bodyE n ⟨0, false, false⟩ info = 0
  · have HBD := Lib.hid (body14 n ⟨0, false, false⟩ info _ _ hu1 he)
    have HIL := Lib.hid (bodyLen _ _ _ he)
    unfold Sn.val at HBD
    dsimp only at HBD
    clear he
    go_enter Try.func8, Try.ntmps8
    go_wp2_with fail
    refine HBD.out.mono ?_
    rintro e w2 ⟨u2, rfl, hr2, hb2⟩
    obtain ⟨B, hB⟩ : ∃ B, B = sumL (bareL n ⟨0, false, false⟩ info) := ⟨_, rfl⟩
    rw [← hB] at hr2
    have hBl : 6 ≤ B.length ∧ B.length ≤ 16390 := by
      have h1 := bare_len n info
      have h2 := hd_len n ⟨0, false, false⟩ info
      have h3 := HIL.out
      rw [hB, sumL_len]
      omega
    have hBg : good16 B = true := by rw [hB]; exact good_sumL _
    have HG := Lib.hid hBg
    clear hB hBg HBD HIL
    obtain ⟨hl0, hl1⟩ := hBl
    obtain ⟨b2, c2, rfl, hq2⟩ : ∃ b2 c2, u2 = .slice (some ⟨b2, 0, none⟩) B.length c2 ∧ b2 < w2.heap.size := by
      obtain ⟨A', c', e', -, -⟩ := Row.slice hr2
      obtain ⟨b2, e2, -, hc⟩ := Row.cell (by rw [← e']; exact hr2) (j := 0) (u := b8 (B[0]'(by omega))) (by rw [List.getElem?_map, List.getElem?_eq_getElem (by omega)]; rfl)
      exact ⟨b2, c', by rw [e', e2], World.block_lt_of_cell? w2 _ hc⟩
    have HR2 := Lib.hid hr2
    have HB2 := Lib.hid (below_then HB1.out hb2)
    clear hr2 hb2
    have hkr := cnt_range bit (8 * (B.length : Int)) (by omega)
    have HC := Lib.hid (fun W => count27 bit (8 * (B.length : Int)) (by omega) (by omega) W)
    obtain ⟨k, hk⟩ : ∃ k : Nat, cnt bit (8 * (B.length : Int)) = (k : Int) := ⟨(cnt bit (8 * (B.length : Int))).toNat, by omega⟩
    rw [hk] at HC hkr
    clear hk
    have hkl : k < 8 * B.length := by omega
    have w1 : IntKind.i64.wrap (8 * (B.length : Int)) = 8 * (B.length : Int) := IntWalk.i64_in _ (by omega)
    have z4 : ¬ (B.length : Int) < 4 := by omega
    go_wp2_with fail
    refine (HC.out _).mono ?_
    rintro e w3 ⟨rfl, rfl⟩
    clear HC
    have hi8 : k / 8 < B.length := by omega
    obtain ⟨b2', e1, d0, f0⟩ := RowB.get (HR2.out.weak (Nat.zero_le _)) hi8
    cases e1
    obtain ⟨X, hX⟩ : ∃ X, X = B[k / 8] := ⟨_, rfl⟩
    rw [← hX] at d0
    have hm8 : k % 8 < 8 := Nat.mod_lt _ (by decide)
    have hxb := xorbit X (k % 8) hm8
    have t1 : (k : Int).tdiv 8 = ((k / 8 : Nat) : Int) := by rw [Int.tdiv_eq_ediv_of_nonneg (by omega)]; omega
    have t2 : (k : Int).tmod 8 = ((k % 8 : Nat) : Int) := by rw [Int.tmod_eq_emod_of_nonneg (by omega)]; omega
    have t5 : (k : Int) / 8 = ((k / 8 : Nat) : Int) := by omega
    have t6 : (k : Int) % 8 = ((k % 8 : Nat) : Int) := by omega
    have hfl : B.set (k / 8) (X ^^^ bit8 (k % 8)) = flip B k := by
      unfold flip
      rw [hX, List.getD_eq_getElem?_getD, List.getElem?_eq_getElem hi8]
      rfl
    have HX := Lib.hid hX
    have HF := Lib.hid hfl
    clear hX hfl
    generalize hi : k / 8 = i at *
    generalize hm : k % 8 = m at *
    have i0 : (0 : Int) ≤ (i : Int) := by omega
    have i1 : (i : Int) < (B.length : Int) := by omega
    have i2 : (0 : Int) ≤ (m : Int) := by omega
    have i3 : (m : Int) < 8 := by omega
    have hwm : IntKind.u64.wrap (m : Int) = (m : Int) := by simp [IntKind.wrap, IntKind.bits, IntKind.signed]; omega
    have hwi : IntKind.i64.wrap (i : Int) = (i : Int) := IntWalk.i64_in _ (by omega)
    go_upto_region 8 with fail
    have hset : w2.grownBy (w2.setCell ⟨b2, i, none⟩ (.int .u8 (v8 (X ^^^ bit8 m)))) (some b2) := ⟨rfl, rfl, rfl, by simp [World.setCell], fun k _ hk => heap_setCell_other _ _ _ _ (fun e => hk (by simp [e]))⟩
    have hlv := (Row.live HR2.out (k := b2) rfl).1
    have hbs : w.heap.size ≤ b2 := by
      have h1 := HB1.out.size
      omega
    have HB3 := Lib.hid (HB2.out.grown hset HB2.out.size (fun k e => by cases e; exact hbs))
    have HR3 : Hid (Row (w2.setCell ⟨b2, i, none⟩ (.int .u8 (v8 (X ^^^ bit8 m)))) 0 5 1 (.slice (some ⟨b2, 0, none⟩) B.length c2) (flip B k).length ((flip B k).map b8)) := Lib.hid (by
      have := row_set (HR2.out.weak (Nat.zero_le _)) i (b8 (X ^^^ bit8 m))
      rw [← List.map_set, HF.out] at this
      rw [flip_length]
      exact this)
    have HT := Lib.hid (told_plain B k HG.out (by omega) hl1 hkl)
    have hfl := flip_length B k
    clear HR2 HB2 hset d0 f0 HF HX hxb hlv hkr t1 t2 t5 t6 w1 hwm hwi i0 i1 i2 i3 z4
    generalize flip B k = C at *
    generalize w2.setCell ⟨b2, i, none⟩ (.int .u8 (v8 (X ^^^ bit8 m))) = w3 at *
    have HES := Lib.hid (escape16 0 C _ w3 (by decide +kernel) (RowB.bytes HR3.out) (by omega))
    go_wp2_with fail
    refine HES.out.mono ?_
    rintro e w4 ⟨u4, rfl, hr4, hb4⟩
    have HB4 := Lib.hid (below_then HB3.out hb4)
    have hel := escL_len 0 C
    rw [hfl] at hel
    have HFL := Lib.hid hfl
    clear hfl
    obtain ⟨A4, c4, rfl, -, -⟩ := Row.slice hr4
    have HR4 := Lib.hid hr4
    have HN := Lib.hid (new26 16384 0 true true w4 (by decide +kernel))
    clear hr4 hb4 HES HR3 HB3
    go_wp2_with fail
    refine HN.out.mono ?_
    rintro e w5 ⟨rfl, hl5, hb5⟩
    have HB5 := Lib.hid (below_then HB4.out hb5)
    have HR5 := Lib.hid (HR4.out.below hb5)
    have HL5 := Lib.hid hl5
    have hgl := (Array.getElem?_eq_some_iff.1 hl5.blk).1
    have hgw : w.heap.size ≤ w4.heap.size := HB4.out.size
    clear hl5 hb5 HN HR4 HB4
    generalize hG : w4.heap.size = G at *
    go_upto_region 13 with fail
    have hb6 : Below w5.heap.size w5 (w5.alloc (.cells #[.int .u8 126] 5)) := (Below.refl _ _).alloc (Nat.le_refl _) _
    have HB6 := Lib.hid hb6
    have HR6 : Hid (Row (w5.alloc (.cells #[.int .u8 126] 5)) w5.heap.size 5 1 (.slice (some ⟨w5.heap.size, 0, none⟩) 1 1) 1 [b8 126#8]) := Lib.hid ⟨rfl, .inr ⟨w5.heap.size, 1, #[.int .u8 126], rfl, Nat.le_refl _, heap_alloc_new _ _, by decide, by decide, by decide, rfl⟩⟩
    have hsrc6 := Lib.hid ((RowB.bytes (w := w5.alloc (.cells #[.int .u8 126] 5)) (l := escL 0 C) ((HR5.out.below hb6).weak (Nat.zero_le _))).src)
    have s1 : 1 + (escL 0 C).length ≤ maxLen := by unfold maxLen; omega
    have s2 : (1 + (escL 0 C).length) * 1 ≤ 140737488355328 := by omega
    have s3 : w5.heap.size ≤ (w5.alloc (.cells #[.int .u8 126] 5)).heap.size := hb6.size
    have HE9 := Lib.hid hel
    clear hb6 hel
    generalize w5.alloc (.cells #[.int .u8 126] 5) = W6 at *
    go_wp2_with (at_builtin; refine wpList_row elB rfl _ _ rfl w5.heap.size _ _ _ rfl HR6.out _ _ _ rfl hsrc6.out s1 s2 s3 ?_)
    intro v7 w7 hr7
    obtain ⟨A7, c7, rfl, -, -⟩ := Row.slice hr7.row
    have HB7 := Lib.hid (row_more HB6.out (Below.refl _ _) HR6.out hr7)
    have hb8 : Below w7.heap.size w7 (w7.alloc (.cells #[.int .u8 126] 5)) := (Below.refl _ _).alloc (Nat.le_refl _) _
    have HB8 := Lib.hid hb8
    have HR7 := Lib.hid hr7.row
    have HR8 := Lib.hid (hr7.row.below hb8)
    have s4 : 1 + (escL 0 C).length + 1 ≤ maxLen := by have := HE9.out; unfold maxLen; omega
    have s5 : (1 + (escL 0 C).length + 1) * 1 ≤ 140737488355328 := by have := HE9.out; omega
    have s6 : w5.heap.size ≤ (w7.alloc (.cells #[.int .u8 126] 5)).heap.size := Nat.le_trans HB7.out.size hb8.size
    clear hr7 hb8 s1 s2 s3 hsrc6 HR6
    go_wp2_with (at_builtin; refine wpList_row elB rfl _ _ rfl w5.heap.size _ _ _ rfl HR8.out _ 1 _ rfl (src_one w7 (.int .u8 126) 5 rfl) s4 s5 s6 ?_)
    intro v9 w9 hr9
    have HB9 := Lib.hid (row_more HB7.out HB8.out HR7.out hr9)
    have HR9 : Hid (RowB w9 v9 ([126#8] ++ escL 0 C ++ [126#8])) := Lib.hid (by
      have := hr9.row.weak (Nat.zero_le _)
      unfold RowB
      have e : ([126#8] ++ escL 0 C ++ [126#8]).length = 1 + (escL 0 C).length + 1 := by simp; omega
      rw [e]
      simpa [b8, v8] using this)
    have e9 : ([126#8] ++ escL 0 C ++ [126#8]).length ≤ 1099511627776 := by have := HE9.out; simp; omega
    have HT2 := Lib.hid HT.out
    generalize [126#8] ++ escL 0 C ++ [126#8] = L at HR9 e9 HT2
    have HL9 := Lib.hid (HL5.out.below HB9.out)
    have hok : (Ln.start 16384 (dropF 0) true true).Ok := kO 16384 0 true true (by decide +kernel)
    have HF := Lib.hid (feed28 G w9 _ _ hok HL9.out _ _ (RowB.bytes HR9.out) e9)
    have HB9w := Lib.hid (below_then HB5.out HB9.out)
    rw [HT2.out] at HF
    clear HT HT2 hr9 s4 s5 s6 HR8 HR7 HB8 hok HL5
    obtain ⟨A9, c9, hv9, -, -⟩ := Row.slice HR9.out
    subst hv9
    go_upto_region 15 with fail
    go_wp2_with fail
    refine HF.out.mono ?_
    rintro e w10 ⟨u10, v10, xs, rfl, hfed⟩
    have hx0 : xs = [] := by have := hfed.told; simpa using this
    subst hx0
    obtain ⟨A10, c10, rfl, -, -⟩ := Row.slice hfed.row
    have HB10 : Hid (Below w.heap.size w w10) := Lib.hid (HB9w.out.trans ⟨hfed.ln.grow.os, hfed.ln.grow.tape, hfed.ln.grow.output, hfed.ln.grow.size, fun k hk => hfed.ln.grow.block k (Nat.lt_of_lt_of_le hk HB9w.out.size) (by omega) (by simp [Value.ownBlock])⟩)
    have HC := Lib.hid (counts33 G w10 _ _ hfed.ln.q)
    clear hfed HF
    unfold cntV at HC
    dsimp only at HC
    simp only [List.length_nil] at *
    go_wp2_with fail
    have hfd := field60_3
    refine HC.out.mono ?_
    rintro e w11 ⟨rfl, hb11⟩
    have HB11 := Lib.hid (below_then HB10.out hb11)
    clear hb11 HC
    go_wp2_with fail
    refine (HK.out _).mono ?_
    rintro e w12 ⟨rfl, hb12⟩
    have HB12 := Lib.hid (below_then HB11.out hb12)
    go_wp2_with fail
    go_ret
    exact ⟨rfl, HB12.out⟩
  · have HBD := Lib.hid (body_bad n ⟨0, false, false⟩ info _ _ hu1 he)
    unfold Sn.val at HBD
    dsimp only at HBD
    have hz : (bodyE n ⟨0, false, false⟩ info != 0) = true := by simpa using he
    clear he
    generalize bodyE n ⟨0, false, false⟩ info = E at *
    go_enter Try.func8, Try.ntmps8
    go_wp2_with fail
    refine HBD.out.mono ?_
    rintro e w2 ⟨rfl, hb2⟩
    have HB2 := Lib.hid (below_then HB1.out hb2)
    clear hb2
    go_wp2_with fail
    refine (HK.out _).mono ?_
    rintro e w3 ⟨rfl, hb3⟩
    have HB3 := Lib.hid (below_then HB2.out hb3)
    go_wp2_with fail
    go_ret
    exact ⟨rfl, HB3.out⟩
end Go.Proofs.Ytedhldcoddbbdaa.F
