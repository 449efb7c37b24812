import Derived.Test.YtmfncddgbapocaaYFar
import Derived.Test.YtmfncddgbapocaaK2
import Derived.Outline
set_option linter.unusedVariables false
set_option linter.unusedSimpArgs false
namespace Go.Proofs.Ytmfncddgbapocaa.F
open Go.RowKit Go.Proofs.Ytmfncddgbapocaa.K
attribute [local go_sem high] cv32_16 xor32 xor16
theorem not_back {n : Nat} (R : BitVec n) : ~~~R ^^^ BitVec.allOnes n = R := by
  apply BitVec.eq_of_getLsbD_eq; intro i hi; simp [hi]
theorem not_over {n : Nat} (x y : BitVec n) : ~~~(x ^^^ y) = x ^^^ ~~~y := by
  apply BitVec.eq_of_getLsbD_eq; intro i hi; simp [hi]
theorem text16 (a b : List (BitVec 8)) : stN P16 (8 * b.length) (s16 a) ^^^ s16 b = s16 (a ++ b) := by
  have h := crc_reg P16 b (~~~ crc P16 0xffff#16 a) 0xffff#16
  rw [show (0xffff#16) = BitVec.allOnes 16 from rfl, not_back] at h
  unfold s16
  rw [crc_append, show (0xffff#16) = BitVec.allOnes 16 from rfl, h, not_over]
theorem text32 (a b : List (BitVec 8)) : stN P32 (8 * b.length) (s32 a) ^^^ s32 b = s32 (a ++ b) := by
  have h := crc_reg P32 b (~~~ crc P32 0xffffffff#32 a) 0xffffffff#32
  rw [show (0xffffffff#32) = BitVec.allOnes 32 from rfl, not_back] at h
  unfold s32
  rw [crc_append, show (0xffffffff#32) = BitVec.allOnes 32 from rfl, h, not_over]
theorem joinT16 (a b : List (BitVec 8)) (w : World) (hn : b.length ≤ 9223372036854775807) :
  Calls Try.prog 24 #[.int .u16 (v16 (s16 a)), .int .u16 (v16 (s16 b)), .int .i64 b.length] w fun e w' => e = .returned (.tuple #[.int .u16 (v16 (s16 (a ++ b))), .int .i64 0]) ∧ Below w.heap.size w w' := by
  have := join16 (s16 a) (s16 b) b.length w hn
  rwa [text16] at this
theorem joinT32 (a b : List (BitVec 8)) (w : World) (hn : b.length ≤ 9223372036854775807) :
  Calls Try.prog 25 #[.int .u32 (v32 (s32 a)), .int .u32 (v32 (s32 b)), .int .i64 b.length] w fun e w' => e = .returned (.tuple #[.int .u32 (v32 (s32 (a ++ b))), .int .i64 0]) ∧ Below w.heap.size w w' := by
  have := join32 (s32 a) (s32 b) b.length w hn
  rwa [text32] at this
theorem joinZ (p q : BitVec 32) (w : World) : Calls Try.prog 25 #[.int .u32 (v32 p), .int .u32 (v32 q), .int .i64 0] w fun e w' => e = .returned (.tuple #[.int .u32 (v32 (p ^^^ q)), .int .i64 0]) ∧ Below w.heap.size w w' := join32 p q 0 w (by decide)
set_option maxHeartbeats 4000000 in
set_option maxRecDepth 100000 in
theorem law_joins (a : List (BitVec 8)) (va : Value) (b : List (BitVec 8)) (vb : Value) (c : List (BitVec 8)) (vc : Value) (n p q : Int) (w : World) (ha : BytesAt w va a) (hb : BytesAt w vb b) (hc : BytesAt w vc c)
    (hn : (Lit.int .i64 n).wf = true) (hp : (Lit.int .u32 p).wf = true) (hq : (Lit.int .u32 q).wf = true) (hs : a.length + b.length + c.length ≤ 1048576) :
    Calls Try.prog 6 #[va, vb, vc, .int .i64 n, .int .u32 p, .int .u32 q] w fun e w' => e = .returned (.bool true) ∧ Below w.heap.size w w' := by
  obtain ⟨p, rfl⟩ := as32 hp
  obtain ⟨q, rfl⟩ := as32 hq
  have hn' : -9223372036854775808 ≤ n ∧ n ≤ 9223372036854775807 := by simpa [Lit.wf, IntKind.min, IntKind.max, IntKind.signed, IntKind.bits] using hn
  clear hn hp hq
  have Ha := Lib.hid ha
  have Hb := Lib.hid hb
  have Hc := Lib.hid hc
  obtain ⟨A1, c1, rfl, -⟩ := ha
  obtain ⟨A2, c2, rfl, -⟩ := hb
  obtain ⟨A3, c3, rfl, -⟩ := hc
  have hx0 : (0 : Int) ≤ (b.length : Int) + (c.length : Int) := by omega
  have hx1 : (b.length : Int) + (c.length : Int) < 9223372036854775808 := by omega
  have hx2 : IntKind.i64.wrap ((b.length : Int) + (c.length : Int)) = (b.length : Int) + (c.length : Int) := by simp [IntKind.wrap, IntKind.bits, IntKind.signed]; omega
  have hx3 : wrap64 ((b.length : Int) + (c.length : Int)) = (b.length : Int) + (c.length : Int) := by simp only [wrap64]; omega
  have Hs := Lib.hid hs
  clear hs
  have Hx := Lib.hid (show (((b ++ c).length : Nat) : Int) = (b.length : Int) + (c.length : Int) by simp)
  go_enter Try.func6, Try.ntmps6
  have h0 := World.ownsRow_nil w w.heap.size 5 1
  go_wp2_with (at_builtin; refine wpList_app elB rfl _ _ rfl w.heap.size _ 0 [] rfl h0 _ _ _ rfl Ha.out.src (by have := Hs.out; simp [maxLen]; omega) (by have := Hs.out; omega) (Nat.le_refl _) ?_)
  intro v1 w1 ho1 hg1 hn1
  have b1 : Below w.heap.size w w1 := (Below.refl _ w).grown hg1 (Nat.le_refl _) (by simp [Value.ownBlock])
  clear hn1 hg1 h0
  go_wp2_with (at_builtin; refine wpList_app elB rfl _ _ rfl w.heap.size _ _ _ rfl ho1 _ _ _ rfl (Hb.out.below b1).src (by have := Hs.out; simp [maxLen]; omega) (by have := Hs.out; omega) b1.size ?_)
  intro v2 w2 ho2 hg2 hn2
  have B := b1.grown hg2 b1.size (fun k hk => (ho1.lt k hk).1)
  clear hn2 hg2 ho1 b1
  have hall : w2.ownsRow w.heap.size 5 1 v2 (a ++ b).length ((a ++ b).map b8) := by simpa using ho2
  have O2 := Lib.hid hall
  clear hall ho2
  go_wp2_with fail
  refine (sum16 a _ _ (Ha.out.below B)).mono ?_
  rintro e w3 ⟨rfl, bb⟩
  replace O2 := Lib.hid (own_below O2.out bb)
  replace B := below_then B bb
  clear bb
  go_wp2_with fail
  refine (sum16 b _ _ (Hb.out.below B)).mono ?_
  rintro e w3 ⟨rfl, bb⟩
  replace O2 := Lib.hid (own_below O2.out bb)
  replace B := below_then B bb
  clear bb
  go_wp2_with fail
  refine (joinT16 a b _ (by have := Hs.out; omega)).mono ?_
  rintro e w3 ⟨rfl, bb⟩
  replace O2 := Lib.hid (own_below O2.out bb)
  replace B := below_then B bb
  clear bb
  go_wp2_with fail
  refine (sum32 a _ _ (Ha.out.below B)).mono ?_
  rintro e w3 ⟨rfl, bb⟩
  replace O2 := Lib.hid (own_below O2.out bb)
  replace B := below_then B bb
  clear bb
  go_wp2_with fail
  refine (sum32 b _ _ (Hb.out.below B)).mono ?_
  rintro e w3 ⟨rfl, bb⟩
  replace O2 := Lib.hid (own_below O2.out bb)
  replace B := below_then B bb
  clear bb
  go_wp2_with fail
  refine (joinT32 a b _ (by have := Hs.out; omega)).mono ?_
  rintro e w3 ⟨rfl, bb⟩
  replace O2 := Lib.hid (own_below O2.out bb)
  replace B := below_then B bb
  clear bb
  go_wp2_with fail
  refine (refSum16 (a ++ b) _ _ (bytes_of_own O2.out)).mono ?_
  rintro e w3 ⟨rfl, rfl⟩
  go_wp2_with fail
  refine (refSum32 (a ++ b) _ _ (bytes_of_own O2.out)).mono ?_
  rintro e w3 ⟨rfl, rfl⟩
  go_wp2_with (at_builtin; refine wpList_app elB rfl _ _ rfl w.heap.size _ _ _ rfl O2.out _ _ _ rfl (Hc.out.below B).src (by have := Hs.out; simp [maxLen]; omega) (by have := Hs.out; simp; omega) B.size ?_)
  intro v4 w4 ho4 hg4 hn4
  replace B := B.grown hg4 B.size (fun k hk => (O2.out.lt k hk).1)
  clear hn4 hg4 O2
  have hall : w4.ownsRow w.heap.size 5 1 v4 (a ++ b ++ c).length ((a ++ b ++ c).map b8) := by
    have e1 : (a ++ b ++ c).length = a.length + b.length + c.length := by simp [Nat.add_assoc]
    have e2 : (a ++ b ++ c).map b8 = a.map b8 ++ (b.map b8 ++ c.map b8) := by simp
    rw [e1, e2]
    exact ho4
  have O2 := Lib.hid hall
  clear hall ho4
  go_wp2_with fail
  refine (sum16 c _ _ (Hc.out.below B)).mono ?_
  rintro e w3 ⟨rfl, bb⟩
  replace O2 := Lib.hid (own_below O2.out bb)
  replace B := below_then B bb
  clear bb
  go_wp2_with fail
  refine (joinT16 (a ++ b) c _ (by have := Hs.out; omega)).mono ?_
  rintro e w3 ⟨rfl, bb⟩
  replace O2 := Lib.hid (own_below O2.out bb)
  replace B := below_then B bb
  clear bb
  go_wp2_with fail
  refine (sum16 b _ _ (Hb.out.below B)).mono ?_
  rintro e w3 ⟨rfl, bb⟩
  replace O2 := Lib.hid (own_below O2.out bb)
  replace B := below_then B bb
  clear bb
  go_wp2_with fail
  refine (sum16 c _ _ (Hc.out.below B)).mono ?_
  rintro e w3 ⟨rfl, bb⟩
  replace O2 := Lib.hid (own_below O2.out bb)
  replace B := below_then B bb
  clear bb
  go_wp2_with fail
  refine (joinT16 b c _ (by have := Hs.out; omega)).mono ?_
  rintro e w3 ⟨rfl, bb⟩
  replace O2 := Lib.hid (own_below O2.out bb)
  replace B := below_then B bb
  clear bb
  go_wp2_with fail
  refine (sum16 a _ _ (Ha.out.below B)).mono ?_
  rintro e w3 ⟨rfl, bb⟩
  replace O2 := Lib.hid (own_below O2.out bb)
  replace B := below_then B bb
  clear bb
  have J : Hid (∀ w : World, (b ++ c).length ≤ 9223372036854775807 → Calls Try.prog 24 #[.int .u16 (v16 (s16 a)), .int .u16 (v16 (s16 (b ++ c))), .int .i64 ((b.length : Int) + (c.length : Int))] w fun e w' => e = .returned (.tuple #[.int .u16 (v16 (s16 (a ++ b ++ c))), .int .i64 0]) ∧ Below w.heap.size w w') := by
    intro w hn
    have := joinT16 a (b ++ c) w hn
    rwa [Hx.out, ← List.append_assoc] at this
  go_wp2_with fail
  refine (J.out _ (by have := Hs.out; simp; omega)).mono ?_
  rintro e w3 ⟨rfl, bb⟩
  replace O2 := Lib.hid (own_below O2.out bb)
  replace B := below_then B bb
  clear bb
  go_wp2_with fail
  refine (refSum16 (a ++ b ++ c) _ _ (bytes_of_own O2.out)).mono ?_
  rintro e w3 ⟨rfl, rfl⟩
  clear J O2
  by_cases hn0 : n < 0
  · go_wp2_with fail
    refine (join16_neg (p.setWidth 16) (q.setWidth 16) n _ hn0).mono ?_
    rintro e w5 ⟨rfl, rfl⟩
    go_wp2_with fail
    refine (join32_neg p q n _ hn0).mono ?_
    rintro e w5 ⟨rfl, rfl⟩
    go_wp2_with fail
    refine (awake _).mono ?_
    rintro e w6 ⟨rfl, bb⟩
    replace B := below_then B bb
    go_wp2
    go_ret
    exact ⟨rfl, B⟩
  · obtain ⟨k, rfl⟩ := Int.eq_ofNat_of_zero_le (show 0 ≤ n by omega)
    have hk : k ≤ 9223372036854775807 := by omega
    have hk0 : decide ((k : Int) < 0) = false := by simp
    clear hx0 hx1 hx2 hx3
    have Hk := Lib.hid hk
    clear hn0 hn' hk
    simp only [Int.ofNat_eq_natCast]
    go_wp2_with fail
    refine (join16 (p.setWidth 16) (q.setWidth 16) k _ Hk.out).mono ?_
    rintro e w5 ⟨rfl, bb⟩
    generalize stN P16 (8 * k) (p.setWidth 16) ^^^ q.setWidth 16 = z1
    replace B := below_then B bb
    clear bb
    go_wp2_with fail
    refine (join32 p q k _ Hk.out).mono ?_
    rintro e w6 ⟨rfl, bb⟩
    generalize stN P32 (8 * k) p ^^^ q = z2
    replace B := below_then B bb
    clear bb
    go_wp2_with fail
    refine (joinZ p q _).mono ?_
    rintro e w7 ⟨rfl, bb⟩
    replace B := below_then B bb
    clear bb
    go_wp2_with fail
    refine (awake _).mono ?_
    rintro e w8 ⟨rfl, bb⟩
    replace B := below_then B bb
    go_wp2
    go_ret
    exact ⟨rfl, B⟩
end Go.Proofs.Ytmfncddgbapocaa.F
