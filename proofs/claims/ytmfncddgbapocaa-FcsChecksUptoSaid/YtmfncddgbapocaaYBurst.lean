import Derived.Test.YtmfncddgbapocaaYLin
import Derived.Test.YtmfncddgbapocaaM4
set_option linter.unusedVariables false
set_option linter.unusedSimpArgs false
namespace Go.Proofs.Ytmfncddgbapocaa.F
open Go.RowKit Go.Proofs.Ytmfncddgbapocaa.K
attribute [local go_sem high] xor8 and1_32 shrN32
theorem short_bit (b : BitVec 32) (i : Nat) : (v32 (b >>> i &&& 1#32) == 0) = !b.getLsbD i := by
  rw [and1_low]
  simp only [BitVec.getLsbD_ushiftRight, Nat.add_zero]
  cases b.getLsbD i <;> decide
theorem own_form {w : World} {base : Nat} {e : TypeId} {size : Nat} {v : Value} {n : Nat} {xs : List Value} (h : w.ownsRow base e size v n xs) (hn : 0 < n) : ∃ g cap, v = .slice (some ⟨g, 0, none⟩) n cap ∧ n ≤ cap ∧ cap ≤ maxLen := by
  rcases h.2 with ⟨-, h0⟩ | ⟨g, cap, cur, rfl, -, -, h1, h2, -⟩
  · omega
  · exact ⟨g, cap, rfl, h1, h2⟩
theorem xorbit (X : BitVec 8) (m : Nat) (hm : m < 8) : bits .xor .u8 (v8 X) (2 ^ m % 256) = v8 (X ^^^ bit8 m) := by
  have h : ∀ i : Fin 8, ((2 : Int) ^ i.val % 256) = v8 (bit8 i.val) := by decide
  rw [h ⟨m, hm⟩, xor8]
theorem turned_map {W a : Nat} {b : BitVec 32} {l : List (BitVec 8)} {n : Nat} {X : BitVec 8} (hbit : b.getLsbD n = true) (hn : n < W) (hk : a + n < 8 * l.length) (hj : (a + n) / 8 < (turned W b a l n).length) (hX : (turned W b a l n)[(a + n) / 8] = X) :
    (turned W b a l (n + 1)).map b8 = ((turned W b a l n).map b8).set ((a + n) / 8) (.int .u8 (bits .xor .u8 (v8 X) (2 ^ ((a + n) % 8) % 256))) := by
  rw [xorbit X _ (by omega)]
  simp only [turned, hbit, hn, hk, decide_true, Bool.and_self, if_true]
  unfold flip
  rw [List.map_set, List.getD_eq_getElem?_getD, List.getElem?_eq_getElem hj, hX]
  rfl
theorem turned_stay {W a : Nat} {b : BitVec 32} {l : List (BitVec 8)} {n : Nat} (h : b.getLsbD n = false ∨ W ≤ n ∨ 8 * l.length ≤ a + n) : turned W b a l (n + 1) = turned W b a l n := by
  simp only [turned]
  rw [if_neg]
  simp only [Bool.and_eq_true, decide_eq_true_eq]
  rcases h with h | h | h
  · rw [h]; simp
  · omega
  · omega
theorem any_stay {W N : Nat} {b : BitVec 32} {n : Nat} (h : b.getLsbD n = false ∨ W ≤ n ∨ N ≤ n) : anyTurned W b N (n + 1) = anyTurned W b N n := by
  simp only [anyTurned]
  have : (b.getLsbD n && decide (n < W) && decide (n < N)) = false := by
    rw [Bool.eq_false_iff]
    simp only [ne_eq, Bool.and_eq_true, decide_eq_true_eq]
    rcases h with h | h | h
    · rw [h]; simp
    · omega
    · omega
  rw [this, Bool.or_false]
theorem any_true {W N : Nat} {b : BitVec 32} {n : Nat} (h : b.getLsbD n = true) (h2 : n < W) (h3 : n < N) : anyTurned W b N (n + 1) = true := by
  simp [anyTurned, h, h2, h3]
theorem v16_inj {x y : BitVec 16} (h : v16 x = v16 y) : x = y := BitVec.eq_of_toNat_eq (by unfold v16 at h; omega)
theorem v32_inj {x y : BitVec 32} (h : v32 x = v32 y) : x = y := BitVec.eq_of_toNat_eq (by unfold v32 at h; omega)
theorem burst16 (b : BitVec 32) (a : Nat) (l : List (BitVec 8)) (ha : a < 8 * l.length) (i : Nat) : (v16 (s16 (turned 16 b a l i)) != v16 (s16 l)) = anyTurned 16 b (8 * l.length - a) i := by
  rw [← burst P16 0xffff#16 (by decide) (by decide) b a l ha i]
  rw [Bool.eq_iff_iff, bne_iff_ne, decide_eq_true_eq]
  apply not_congr
  constructor
  · intro h
    have := v16_inj h
    unfold s16 at this
    simpa using this
  · intro h; unfold s16; rw [h]
theorem burst32 (b : BitVec 32) (a : Nat) (l : List (BitVec 8)) (ha : a < 8 * l.length) (i : Nat) : (v32 (s32 (turned 32 b a l i)) != v32 (s32 l)) = anyTurned 32 b (8 * l.length - a) i := by
  rw [← burst P32 0xffffffff#32 (by decide) (by decide) b a l ha i]
  rw [Bool.eq_iff_iff, bne_iff_ne, decide_eq_true_eq]
  apply not_congr
  constructor
  · intro h
    have := v32_inj h
    unfold s32 at this
    simpa using this
  · intro h; unfold s32; rw [h]
set_option maxHeartbeats 4000000 in
theorem burst_walk (l : List (BitVec 8)) (v : Value) (a : Nat) (at_ : Int) (b : BitVec 32) (w : World) (h : BytesAt w v l) (hl : l.length ≤ 140737488351232) (h0 : 0 < l.length) (ha : a < 8 * l.length) (hb0 : b ≠ 0#32)
    (hat : (at_.tmod (8 * (l.length : Int)) = a) ∨ (at_ < 0 ∧ at_.tmod (8 * (l.length : Int)) = -(a : Int) ∧ 0 < a)) :
    Calls Try.prog 3 #[v, .int .i64 at_, .int .u32 (v32 b)] w fun e w' => e = .returned (.bool true) ∧ Below w.heap.size w w' := by
  have H := h
  obtain ⟨A, ca, rfl, ka1, ka2, ka3, ka4⟩ := h
  unfold maxLen at ka2
  have e1 : ((l.length : Int) == 0) = false := beq_eq_false_iff_ne.2 (by omega)
  have e2 : (v32 b == 0) = false := by
    have : v32 b ≠ 0 := fun e => hb0 (v32_zero e)
    simpa using this
  clear ka3 ka4 hb0
  rcases hat with hr | ⟨hs, hr, hp⟩
  · have hd0 : decide ((a : Int) < 0) = false := by simp
    go_enter Try.func3, Try.ntmps3
    go_wp2_with (at_builtin; refine wpList_app elB rfl _ _ rfl w.heap.size _ 0 [] rfl (World.ownsRow_nil _ _ _ _) _ _ _ rfl H.src (by simp [maxLen]; omega) (by omega) (Nat.le_refl _) ?_)
    intro v1 w1 ho1 hg1 hn1
    have b1 : Below w.heap.size w w1 := (Below.refl _ w).grown hg1 (Nat.le_refl _) (by simp [Value.ownBlock])
    try simp only [Nat.zero_add, List.nil_append] at ho1
    obtain ⟨g1, c1, rfl, k1, k2⟩ := own_form ho1 h0
    clear hg1 hn1
    go_wp2_with (at_builtin; refine wpList_app elB rfl _ _ rfl w1.heap.size _ 0 [] rfl (World.ownsRow_nil _ _ _ _) _ _ _ rfl (H.below b1).src (by simp [maxLen]; omega) (by omega) (Nat.le_refl _) ?_)
    intro v2 w2 ho2 hg2 hn2
    have b2 : Below w.heap.size w w2 := below_then b1 ((Below.refl _ w1).grown hg2 (Nat.le_refl _) (by simp [Value.ownBlock]))
    try simp only [Nat.zero_add, List.nil_append] at ho2
    obtain ⟨g2, c2, rfl, k3, k4⟩ := own_form ho2 h0
    have ho1' := ho1.kept hg2 (.inr (by simp [Value.ownBlock]))
    have hgl := (ho1.lt g1 rfl).2
    have hgl2 := (ho2.lt g2 rfl).1
    have hgl1 := (ho1.lt g1 rfl).1
    have hw1 := b1.size
    have hG2 : w.heap.size ≤ g2 := Nat.le_trans hw1 hgl2
    clear hg2 hn2 ho1
    have H1 := Lib.hid ho1'
    have H2 := Lib.hid ho2
    have HB := Lib.hid b2
    have hgne : g1 ≠ g2 := by omega
    unfold maxLen at k2 k4
    clear ho1' ho2 b1 b2
    go_wp2
    go_loopw [9, 10, 11, 12] (fun sh lo i _ wr => ∃ n : Nat, n ≤ 32 ∧ i = .int .i64 n ∧ sh = .bool (anyTurned 16 b (8 * l.length - a) n) ∧ lo = .bool (anyTurned 32 b (8 * l.length - a) n) ∧ Hid (wr.ownsRow w.heap.size 5 1 (.slice (some ⟨g1, 0, none⟩) l.length c1) l.length ((turned 16 b a l n).map b8)) ∧ Hid (wr.ownsRow w1.heap.size 5 1 (.slice (some ⟨g2, 0, none⟩) l.length c2) l.length ((turned 32 b a l n).map b8)) ∧ Below w.heap.size w wr) (fun _ _ i _ _ => 32 - (intOf i).toNat)
    case atStart => exact ⟨0, by omega, rfl, rfl, rfl, H1, H2, HB.out⟩
    case round =>
      clear H1 H2 HB
      obtain ⟨n, hn, rfl, rfl, rfl, H1, H2, hB⟩ := hrel
      by_cases hn32 : n < 32
      · have e3 := short_bit b n
        cases hbit : b.getLsbD n
        · rw [hbit] at e3
          have s1 := Lib.hid (turned_stay (W := 16) (a := a) (l := l) (.inl hbit))
          have s2 := Lib.hid (turned_stay (W := 32) (a := a) (l := l) (.inl hbit))
          have s3 := Lib.hid (any_stay (W := 16) (N := 8 * l.length - a) (.inl hbit))
          have s4 := Lib.hid (any_stay (W := 32) (N := 8 * l.length - a) (.inl hbit))
          clear hbit
          go_wp2_with fail
          go_roundw
          case rel => exact ⟨n + 1, by omega, by go_num, by rw [s3.out], by rw [s4.out], by rw [s1.out]; exact H1, by rw [s2.out]; exact H2, hB⟩
          case measure => simp [intOf]; omega
        · rw [hbit] at e3
          by_cases hk : a + n < 8 * l.length
          · have hj : (a + n) / 8 < l.length := by omega
            have hj1 : (a + n) / 8 < (turned 16 b a l n).length := by rw [turned_length]; exact hj
            have hj2 : (a + n) / 8 < (turned 32 b a l n).length := by rw [turned_length]; exact hj
            have x1 := H1.out.cellAt ((a + n) / 8) (by omega)
            have x2 := H2.out.cellAt ((a + n) / 8) (by omega)
            have f1 := H1.out.frozenAt ((a + n) / 8)
            have f2 := H2.out.frozenAt ((a + n) / 8)
            rw [List.getElem?_map, List.getElem?_eq_getElem hj1] at x1
            rw [List.getElem?_map, List.getElem?_eq_getElem hj2] at x2
            generalize hX1 : (turned 16 b a l n)[(a + n) / 8] = X1 at x1
            generalize hX2 : (turned 32 b a l n)[(a + n) / 8] = X2 at x2
            have S2 := Lib.hid (turned_map hbit hn32 hk hj2 hX2)
            have A2 := Lib.hid (any_true (W := 32) (N := 8 * l.length - a) hbit hn32 (by omega))
            simp only [Option.map_some, b8] at x1 x2
            by_cases h16 : n < 16
            · have S1 := Lib.hid (turned_map hbit h16 hk hj1 hX1)
              have A1 := Lib.hid (any_true (W := 16) (N := 8 * l.length - a) hbit h16 (by omega))
              clear hX1 hX2 hbit
              go_wp2_with fail
              go_roundw
              case rel =>
                have t1 := H1.out.stored ((a + n) / 8) (Value.int IntKind.u8 (bits BinOp.xor IntKind.u8 (v8 X1) (2 ^ ((a + n) % 8) % 256)))
                have t2 := (H2.out.kept t1.2 (.inr (by simp [Value.ownBlock]; omega))).stored ((a + n) / 8) (Value.int IntKind.u8 (bits BinOp.xor IntKind.u8 (v8 X2) (2 ^ ((a + n) % 8) % 256)))
                refine ⟨n + 1, by omega, by go_num, by rw [A1.out], by rw [A2.out], ?_, ?_, (hB.setCell hgl1 _).setCell hG2 _⟩
                · rw [S1.out]; exact Lib.hid (t1.1.kept t2.2 (.inr (by simp [Value.ownBlock]; omega)))
                · rw [S2.out]; exact Lib.hid t2.1
              case measure => simp [intOf]; omega
            · have S1 := Lib.hid (turned_stay (W := 16) (b := b) (a := a) (l := l) (n := n) (.inr (.inl (by omega))))
              have A1 := Lib.hid (any_stay (W := 16) (b := b) (n := n) (N := 8 * l.length - a) (.inr (.inl (by omega))))
              clear hX1 hX2 hbit
              go_wp2_with fail
              go_roundw
              case rel =>
                have t2 := H2.out.stored ((a + n) / 8) (Value.int IntKind.u8 (bits BinOp.xor IntKind.u8 (v8 X2) (2 ^ ((a + n) % 8) % 256)))
                refine ⟨n + 1, by omega, by go_num, by rw [A1.out], by rw [A2.out], ?_, ?_, hB.setCell hG2 _⟩
                · rw [S1.out]; exact Lib.hid (H1.out.kept t2.2 (.inr (by simp [Value.ownBlock]; omega)))
                · rw [S2.out]; exact Lib.hid t2.1
              case measure => simp [intOf]; omega
          · have s1 := Lib.hid (turned_stay (W := 16) (b := b) (a := a) (l := l) (n := n) (.inr (.inr (by omega))))
            have s2 := Lib.hid (turned_stay (W := 32) (b := b) (a := a) (l := l) (n := n) (.inr (.inr (by omega))))
            have s3 := Lib.hid (any_stay (W := 16) (b := b) (n := n) (N := 8 * l.length - a) (.inr (.inr (by omega))))
            have s4 := Lib.hid (any_stay (W := 32) (b := b) (n := n) (N := 8 * l.length - a) (.inr (.inr (by omega))))
            clear hbit
            go_wp2_with fail
            go_roundw
            case rel => exact ⟨n + 1, by omega, by go_num, by rw [s3.out], by rw [s4.out], by rw [s1.out]; exact H1, by rw [s2.out]; exact H2, hB⟩
            case measure => simp [intOf]; omega
      · obtain rfl : n = 32 := by omega
        have B16 := burst16 b a l ha 32
        have B32 := burst32 b a l ha 32
        have HC : BytesAt wr (.slice (some ⟨g1, 0, none⟩) l.length c1) (turned 16 b a l 32) := bytes_of_own (by rw [turned_length]; exact H1.out)
        have HD : BytesAt wr (.slice (some ⟨g2, 0, none⟩) l.length c2) (turned 32 b a l 32) := bytes_of_own (by rw [turned_length]; exact H2.out)
        have Hl := H.below hB
        clear H1 H2 H
        generalize turned 16 b a l 32 = C at *
        generalize turned 32 b a l 32 = D at *
        generalize anyTurned 16 b (8 * l.length - a) 32 = s at *
        generalize anyTurned 32 b (8 * l.length - a) 32 = t at *
        have K16 := Lib.hid B16
        have K32 := Lib.hid B32
        clear B16 B32
        go_wp2_with fail
        refine (sum16 C _ _ HC).mono ?_
        rintro e w3 ⟨rfl, bb⟩
        replace HD := HD.below bb
        replace Hl := Hl.below bb
        replace hB := below_then hB bb
        clear bb
        go_wp2_with fail
        refine (sum16 l _ _ Hl).mono ?_
        rintro e w4 ⟨rfl, bb⟩
        replace HD := HD.below bb
        replace Hl := Hl.below bb
        replace hB := below_then hB bb
        clear bb
        have Q16 := K16.out
        generalize v16 (s16 C) = z1 at *
        generalize v16 (s16 l) = z2 at *
        have Q16' : (z1 == z2) = !s := by rw [← Q16]; simp [bne]
        clear K16
        cases s
        all_goals
          go_wp2_with fail
          refine (sum32 D _ _ HD).mono ?_
          rintro e w5 ⟨rfl, bb⟩
          replace Hl := Hl.below bb
          replace hB := below_then hB bb
          clear bb
          go_wp2_with fail
          refine (sum32 l _ _ Hl).mono ?_
          rintro e w6 ⟨rfl, bb⟩
          replace hB := below_then hB bb
          clear bb
          have Q32 := K32.out
          generalize v32 (s32 D) = z3 at *
          generalize v32 (s32 l) = z4 at *
          have Q32' : (z3 == z4) = !t := by rw [← Q32]; simp [bne]
          clear K32
          cases t
          all_goals
            go_wp2_with fail
            refine (awake _).mono ?_
            rintro e w7 ⟨rfl, bb⟩
            replace hB := below_then hB bb
            clear bb
            go_wp2_with fail
            go_ret
            exact ⟨rfl, hB⟩
  · have hd0 : decide (-(a : Int) < 0) = true := by simp; omega
    go_enter Try.func3, Try.ntmps3
    go_wp2_with (at_builtin; refine wpList_app elB rfl _ _ rfl w.heap.size _ 0 [] rfl (World.ownsRow_nil _ _ _ _) _ _ _ rfl H.src (by simp [maxLen]; omega) (by omega) (Nat.le_refl _) ?_)
    intro v1 w1 ho1 hg1 hn1
    have b1 : Below w.heap.size w w1 := (Below.refl _ w).grown hg1 (Nat.le_refl _) (by simp [Value.ownBlock])
    try simp only [Nat.zero_add, List.nil_append] at ho1
    obtain ⟨g1, c1, rfl, k1, k2⟩ := own_form ho1 h0
    clear hg1 hn1
    go_wp2_with (at_builtin; refine wpList_app elB rfl _ _ rfl w1.heap.size _ 0 [] rfl (World.ownsRow_nil _ _ _ _) _ _ _ rfl (H.below b1).src (by simp [maxLen]; omega) (by omega) (Nat.le_refl _) ?_)
    intro v2 w2 ho2 hg2 hn2
    have b2 : Below w.heap.size w w2 := below_then b1 ((Below.refl _ w1).grown hg2 (Nat.le_refl _) (by simp [Value.ownBlock]))
    try simp only [Nat.zero_add, List.nil_append] at ho2
    obtain ⟨g2, c2, rfl, k3, k4⟩ := own_form ho2 h0
    have ho1' := ho1.kept hg2 (.inr (by simp [Value.ownBlock]))
    have hgl := (ho1.lt g1 rfl).2
    have hgl2 := (ho2.lt g2 rfl).1
    have hgl1 := (ho1.lt g1 rfl).1
    have hw1 := b1.size
    have hG2 : w.heap.size ≤ g2 := Nat.le_trans hw1 hgl2
    clear hg2 hn2 ho1
    have H1 := Lib.hid ho1'
    have H2 := Lib.hid ho2
    have HB := Lib.hid b2
    have hgne : g1 ≠ g2 := by omega
    unfold maxLen at k2 k4
    clear ho1' ho2 b1 b2
    go_wp2
    go_loopw [9, 10, 11, 12] (fun sh lo i _ wr => ∃ n : Nat, n ≤ 32 ∧ i = .int .i64 n ∧ sh = .bool (anyTurned 16 b (8 * l.length - a) n) ∧ lo = .bool (anyTurned 32 b (8 * l.length - a) n) ∧ Hid (wr.ownsRow w.heap.size 5 1 (.slice (some ⟨g1, 0, none⟩) l.length c1) l.length ((turned 16 b a l n).map b8)) ∧ Hid (wr.ownsRow w1.heap.size 5 1 (.slice (some ⟨g2, 0, none⟩) l.length c2) l.length ((turned 32 b a l n).map b8)) ∧ Below w.heap.size w wr) (fun _ _ i _ _ => 32 - (intOf i).toNat)
    case atStart => exact ⟨0, by omega, rfl, rfl, rfl, H1, H2, HB.out⟩
    case round =>
      clear H1 H2 HB
      obtain ⟨n, hn, rfl, rfl, rfl, H1, H2, hB⟩ := hrel
      by_cases hn32 : n < 32
      · have e3 := short_bit b n
        cases hbit : b.getLsbD n
        · rw [hbit] at e3
          have s1 := Lib.hid (turned_stay (W := 16) (a := a) (l := l) (.inl hbit))
          have s2 := Lib.hid (turned_stay (W := 32) (a := a) (l := l) (.inl hbit))
          have s3 := Lib.hid (any_stay (W := 16) (N := 8 * l.length - a) (.inl hbit))
          have s4 := Lib.hid (any_stay (W := 32) (N := 8 * l.length - a) (.inl hbit))
          clear hbit
          go_wp2_with fail
          go_roundw
          case rel => exact ⟨n + 1, by omega, by go_num, by rw [s3.out], by rw [s4.out], by rw [s1.out]; exact H1, by rw [s2.out]; exact H2, hB⟩
          case measure => simp [intOf]; omega
        · rw [hbit] at e3
          by_cases hk : a + n < 8 * l.length
          · have hj : (a + n) / 8 < l.length := by omega
            have hj1 : (a + n) / 8 < (turned 16 b a l n).length := by rw [turned_length]; exact hj
            have hj2 : (a + n) / 8 < (turned 32 b a l n).length := by rw [turned_length]; exact hj
            have x1 := H1.out.cellAt ((a + n) / 8) (by omega)
            have x2 := H2.out.cellAt ((a + n) / 8) (by omega)
            have f1 := H1.out.frozenAt ((a + n) / 8)
            have f2 := H2.out.frozenAt ((a + n) / 8)
            rw [List.getElem?_map, List.getElem?_eq_getElem hj1] at x1
            rw [List.getElem?_map, List.getElem?_eq_getElem hj2] at x2
            generalize hX1 : (turned 16 b a l n)[(a + n) / 8] = X1 at x1
            generalize hX2 : (turned 32 b a l n)[(a + n) / 8] = X2 at x2
            have S2 := Lib.hid (turned_map hbit hn32 hk hj2 hX2)
            have A2 := Lib.hid (any_true (W := 32) (N := 8 * l.length - a) hbit hn32 (by omega))
            simp only [Option.map_some, b8] at x1 x2
            by_cases h16 : n < 16
            · have S1 := Lib.hid (turned_map hbit h16 hk hj1 hX1)
              have A1 := Lib.hid (any_true (W := 16) (N := 8 * l.length - a) hbit h16 (by omega))
              clear hX1 hX2 hbit
              go_wp2_with fail
              go_roundw
              case rel =>
                have t1 := H1.out.stored ((a + n) / 8) (Value.int IntKind.u8 (bits BinOp.xor IntKind.u8 (v8 X1) (2 ^ ((a + n) % 8) % 256)))
                have t2 := (H2.out.kept t1.2 (.inr (by simp [Value.ownBlock]; omega))).stored ((a + n) / 8) (Value.int IntKind.u8 (bits BinOp.xor IntKind.u8 (v8 X2) (2 ^ ((a + n) % 8) % 256)))
                refine ⟨n + 1, by omega, by go_num, by rw [A1.out], by rw [A2.out], ?_, ?_, (hB.setCell hgl1 _).setCell hG2 _⟩
                · rw [S1.out]; exact Lib.hid (t1.1.kept t2.2 (.inr (by simp [Value.ownBlock]; omega)))
                · rw [S2.out]; exact Lib.hid t2.1
              case measure => simp [intOf]; omega
            · have S1 := Lib.hid (turned_stay (W := 16) (b := b) (a := a) (l := l) (n := n) (.inr (.inl (by omega))))
              have A1 := Lib.hid (any_stay (W := 16) (b := b) (n := n) (N := 8 * l.length - a) (.inr (.inl (by omega))))
              clear hX1 hX2 hbit
              go_wp2_with fail
              go_roundw
              case rel =>
                have t2 := H2.out.stored ((a + n) / 8) (Value.int IntKind.u8 (bits BinOp.xor IntKind.u8 (v8 X2) (2 ^ ((a + n) % 8) % 256)))
                refine ⟨n + 1, by omega, by go_num, by rw [A1.out], by rw [A2.out], ?_, ?_, hB.setCell hG2 _⟩
                · rw [S1.out]; exact Lib.hid (H1.out.kept t2.2 (.inr (by simp [Value.ownBlock]; omega)))
                · rw [S2.out]; exact Lib.hid t2.1
              case measure => simp [intOf]; omega
          · have s1 := Lib.hid (turned_stay (W := 16) (b := b) (a := a) (l := l) (n := n) (.inr (.inr (by omega))))
            have s2 := Lib.hid (turned_stay (W := 32) (b := b) (a := a) (l := l) (n := n) (.inr (.inr (by omega))))
            have s3 := Lib.hid (any_stay (W := 16) (b := b) (n := n) (N := 8 * l.length - a) (.inr (.inr (by omega))))
            have s4 := Lib.hid (any_stay (W := 32) (b := b) (n := n) (N := 8 * l.length - a) (.inr (.inr (by omega))))
            clear hbit
            go_wp2_with fail
            go_roundw
            case rel => exact ⟨n + 1, by omega, by go_num, by rw [s3.out], by rw [s4.out], by rw [s1.out]; exact H1, by rw [s2.out]; exact H2, hB⟩
            case measure => simp [intOf]; omega
      · obtain rfl : n = 32 := by omega
        have B16 := burst16 b a l ha 32
        have B32 := burst32 b a l ha 32
        have HC : BytesAt wr (.slice (some ⟨g1, 0, none⟩) l.length c1) (turned 16 b a l 32) := bytes_of_own (by rw [turned_length]; exact H1.out)
        have HD : BytesAt wr (.slice (some ⟨g2, 0, none⟩) l.length c2) (turned 32 b a l 32) := bytes_of_own (by rw [turned_length]; exact H2.out)
        have Hl := H.below hB
        clear H1 H2 H
        generalize turned 16 b a l 32 = C at *
        generalize turned 32 b a l 32 = D at *
        generalize anyTurned 16 b (8 * l.length - a) 32 = s at *
        generalize anyTurned 32 b (8 * l.length - a) 32 = t at *
        have K16 := Lib.hid B16
        have K32 := Lib.hid B32
        clear B16 B32
        go_wp2_with fail
        refine (sum16 C _ _ HC).mono ?_
        rintro e w3 ⟨rfl, bb⟩
        replace HD := HD.below bb
        replace Hl := Hl.below bb
        replace hB := below_then hB bb
        clear bb
        go_wp2_with fail
        refine (sum16 l _ _ Hl).mono ?_
        rintro e w4 ⟨rfl, bb⟩
        replace HD := HD.below bb
        replace Hl := Hl.below bb
        replace hB := below_then hB bb
        clear bb
        have Q16 := K16.out
        generalize v16 (s16 C) = z1 at *
        generalize v16 (s16 l) = z2 at *
        have Q16' : (z1 == z2) = !s := by rw [← Q16]; simp [bne]
        clear K16
        cases s
        all_goals
          go_wp2_with fail
          refine (sum32 D _ _ HD).mono ?_
          rintro e w5 ⟨rfl, bb⟩
          replace Hl := Hl.below bb
          replace hB := below_then hB bb
          clear bb
          go_wp2_with fail
          refine (sum32 l _ _ Hl).mono ?_
          rintro e w6 ⟨rfl, bb⟩
          replace hB := below_then hB bb
          clear bb
          have Q32 := K32.out
          generalize v32 (s32 D) = z3 at *
          generalize v32 (s32 l) = z4 at *
          have Q32' : (z3 == z4) = !t := by rw [← Q32]; simp [bne]
          clear K32
          cases t
          all_goals
            go_wp2_with fail
            refine (awake _).mono ?_
            rintro e w7 ⟨rfl, bb⟩
            replace hB := below_then hB bb
            clear bb
            go_wp2_with fail
            go_ret
            exact ⟨rfl, hB⟩
set_option maxHeartbeats 4000000 in
theorem burst_out (l : List (BitVec 8)) (v : Value) (at_ : Int) (b : BitVec 32) (w : World) (h : BytesAt w v l) (h0 : l.length = 0 ∨ b = 0#32) :
    Calls Try.prog 3 #[v, .int .i64 at_, .int .u32 (v32 b)] w fun e w' => e = .returned (.bool true) ∧ Below w.heap.size w w' := by
  obtain ⟨A, ca, rfl, ka1, ka2, ka3, ka4⟩ := h
  by_cases hl : l.length = 0
  · rw [hl]
    clear h0 ka1 ka2 ka3 ka4 hl
    go_enter Try.func3, Try.ntmps3
    go_wp2_with fail
    refine (awake _).mono ?_
    rintro e w7 ⟨rfl, bb⟩
    go_wp2_with fail
    go_ret
    exact ⟨rfl, bb⟩
  · have e1 : ((l.length : Int) == 0) = false := beq_eq_false_iff_ne.2 (by omega)
    have e2 : (v32 b == 0) = true := by
      rcases h0 with h | rfl
      · exact absurd h hl
      · decide
    clear h0 ka1 ka2 ka3 ka4 hl
    go_enter Try.func3, Try.ntmps3
    go_wp2_with fail
    refine (awake _).mono ?_
    rintro e w7 ⟨rfl, bb⟩
    go_wp2_with fail
    go_ret
    exact ⟨rfl, bb⟩
theorem law_bursts (l : List (BitVec 8)) (v : Value) (a p : Int) (w : World) (h : BytesAt w v l) (hl : l.length ≤ 140737488351232) (ha : (Lit.int .i64 a).wf = true) (hp : (Lit.int .u32 p).wf = true) :
    Calls Try.prog 3 #[v, .int .i64 a, .int .u32 p] w fun e w' => e = .returned (.bool true) ∧ Below w.heap.size w w' := by
  obtain ⟨b, rfl⟩ := as32 hp
  by_cases h0 : l.length = 0 ∨ b = 0#32
  · exact burst_out l v a b w h h0
  · have h1 : 0 < l.length := by omega
    have h2 : b ≠ 0#32 := fun e => h0 (.inr e)
    have e1 : (a.tmod (8 * (l.length : Int))).natAbs < 8 * l.length := by
      have := Int.natAbs_tmod a (8 * (l.length : Int))
      rw [this]
      have h3 : (8 * (l.length : Int)).natAbs = 8 * l.length := by omega
      rw [h3]
      exact Nat.mod_lt _ (by omega)
    by_cases hs : 0 ≤ a
    · have := Int.tmod_nonneg (8 * (l.length : Int)) hs
      exact burst_walk l v (a.tmod (8 * (l.length : Int))).natAbs a b w h hl h1 e1 h2 (.inl (by omega))
    · by_cases hz : a.tmod (8 * (l.length : Int)) = 0
      · exact burst_walk l v (a.tmod (8 * (l.length : Int))).natAbs a b w h hl h1 e1 h2 (.inl (by omega))
      · have hn : a.tmod (8 * (l.length : Int)) ≤ 0 := by
          have h3 := Int.neg_tmod (-a) (8 * (l.length : Int))
          rw [Int.neg_neg] at h3
          have h4 := Int.tmod_nonneg (8 * (l.length : Int)) (show 0 ≤ -a by omega)
          omega
        exact burst_walk l v (a.tmod (8 * (l.length : Int))).natAbs a b w h hl h1 e1 h2 (.inr ⟨by omega, by omega, by omega⟩)
end Go.Proofs.Ytmfncddgbapocaa.F
