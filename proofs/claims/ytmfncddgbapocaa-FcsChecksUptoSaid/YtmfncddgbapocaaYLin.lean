import Derived.Test.YtmfncddgbapocaaYFar
import Derived.Test.YtmfncddgbapocaaK2
import Derived.Outline
import Derived.Deep.RegionHeld3
import Derived.Deep.RegionWith
import Derived.WalkSpells
set_option linter.unusedVariables false
set_option linter.unusedSimpArgs false
namespace Go.Proofs.Ytmfncddgbapocaa.F
open Go.RowKit Go.Proofs.Ytmfncddgbapocaa.K
theorem w8' (a : Nat) (h : a < 256) : IntKind.u8.wrap (a : Int) = a := by simp [IntKind.wrap, IntKind.bits, IntKind.signed]; omega
theorem xor8 (a b : BitVec 8) : bits .xor .u8 (v8 a) (v8 b) = v8 (a ^^^ b) := by
  simp only [bits, v8, IntKind.bits, BitVec.ofInt_natCast, BitVec.ofNat_toNat, BitVec.setWidth_eq]
  exact w8' _ (a ^^^ b).isLt
attribute [local go_sem high] xor8 xor16 xor32
def zx (a b : List (BitVec 8)) (k : Nat) : List (BitVec 8) := List.zipWith (· ^^^ ·) (a.take k) (b.take k)
theorem zx_succ (a b : List (BitVec 8)) (k : Nat) (ha : k < a.length) (hb : k < b.length) : zx a b (k + 1) = zx a b k ++ [a[k] ^^^ b[k]] := by
  unfold zx
  rw [List.take_succ_eq_append_getElem ha, List.take_succ_eq_append_getElem hb, List.zipWith_append (by simp; omega)]
  rfl
theorem on16_ch {w W : World} (hb : Below w.heap.size w W) (r : BitVec 16) (l : List (BitVec 8)) (v : Value) (h : BytesAt w v l) :
  Calls Try.prog 15 #[.int .u16 (v16 r), v] W fun e w' => e = .returned (.int .u16 (v16 (crc P16 r l))) ∧ Below w.heap.size w w' :=
  (on16_at r l v W (h.below hb)).mono fun e w' ⟨he, h2⟩ => ⟨he, below_then hb h2⟩
theorem on32_ch {w W : World} (hb : Below w.heap.size w W) (r : BitVec 32) (l : List (BitVec 8)) (v : Value) (h : BytesAt w v l) :
  Calls Try.prog 16 #[.int .u32 (v32 r), v] W fun e w' => e = .returned (.int .u32 (v32 (crc P32 r l))) ∧ Below w.heap.size w w' :=
  (on32_at r l v W (h.below hb)).mono fun e w' ⟨he, h2⟩ => ⟨he, below_then hb h2⟩
theorem awake_ch {w W : World} (hb : Below w.heap.size w W) : Calls Try.prog 12 #[] W fun e w' => e = .returned (.bool true) ∧ Below w.heap.size w w' :=
  (awake W).mono fun e w' ⟨he, h2⟩ => ⟨he, below_then hb h2⟩
set_option maxHeartbeats 40000000 in
theorem lin1 (a b : List (BitVec 8)) (va vb : Value) (r s : BitVec 16) (p q : BitVec 32) (w : World) (h : BytesAt w va a) (h' : BytesAt w vb b) (hl : a.length ≤ 140737488351232) (hl' : b.length ≤ 140737488351232) (hlt : a.length ≤ b.length) :
    Calls Try.prog 4 #[va, vb, .int .u16 (v16 r), .int .u16 (v16 s), .int .u32 (v32 p), .int .u32 (v32 q)] w fun e w' => e = .returned (.bool true) ∧ Below w.heap.size w w' := by
  have H := h
  have H' := h'
  obtain ⟨A, ca, rfl, ka1, ka2, ka3, ka4⟩ := h
  obtain ⟨B', cb, rfl, kb1, kb2, kb3, kb4⟩ := h'
  unfold maxLen at ka2 kb2
  have hd : decide (b.length < a.length) = false := by simp; omega
  go_enter Try.func4, Try.ntmps4
  go_wp2
  go_loopw [14, 15] (fun o i wr => ∃ k : Nat, k ≤ a.length ∧ i = .int .i64 k ∧ wr.ownsRow w.heap.size 5 1 o k ((zx a b k).map b8) ∧ Below w.heap.size w wr) (fun _ i _ => a.length - (intOf i).toNat)
  case atStart => exact ⟨0, by omega, rfl, World.ownsRow_nil _ _ _ _, Below.refl _ _⟩
  case round =>
    obtain ⟨k, hk, rfl, ho, hB⟩ := hrel
    by_cases hkl : k < a.length
    · obtain ⟨ad, rfl⟩ : ∃ ad, A = some ad := by
        cases A with
        | none => rw [ka3 rfl] at hkl; cases hkl
        | some ad => exact ⟨ad, rfl⟩
      obtain ⟨bd, rfl⟩ : ∃ ad, B' = some ad := by
        cases B' with
        | none => rw [kb3 rfl] at hlt; simp at hlt; rw [hlt] at hkl; cases hkl
        | some ad => exact ⟨ad, rfl⟩
      obtain ⟨ab, ao, rfl, hca⟩ := ka4 ad rfl k hkl
      obtain ⟨bb, bo, rfl, hcb⟩ := kb4 bd rfl k (by omega)
      have hca' : wr.cell? ⟨ab, ao + k, none⟩ = some (.int .u8 (v8 a[k])) := (hB.cell (World.block_lt_of_cell? w _ hca)).trans hca
      have hcb' : wr.cell? ⟨bb, bo + k, none⟩ = some (.int .u8 (v8 (b[k]'(by omega)))) := (hB.cell (World.block_lt_of_cell? w _ hcb)).trans hcb
      have hi0 : (0 : Int) ≤ (k : Int) := Int.natCast_nonneg _
      have hia : (k : Int) < (a.length : Int) := by omega
      have hib : (k : Int) < (b.length : Int) := by omega
      have hbs := hB.size
      have hab := World.block_lt_of_cell? w _ hca
      have hbb := World.block_lt_of_cell? w _ hcb
      clear ka4 kb4 H H' ka3 kb3
      go_wp2_with fail
      go_region_held3 (fun w' => w'.cell? ⟨ab, ao + k, none⟩ = some (.int .u8 (v8 a[k])) ∧ w'.cell? ⟨bb, bo + k, none⟩ = some (.int .u8 (v8 (b[k]'(by omega))))) (first | go_keep | (have b3 := ((hB.alloc hbs _).drew).grown hg2 (by simp; omega) (fun k hk => (ho.lt k hk).1); exact ⟨(b3.cell hab).trans hca, (b3.cell hbb).trans hcb⟩)) ((refine step_app elB rfl _ _ rfl w.heap.size _ _ _ rfl (own_drew (ho.alloc _)) _ _ _ rfl (src_drew (src_one _ _ _ rfl)) (by simp [maxLen]; omega) (by omega) (by simp; omega) ?_; intro v2 w2 ho2 hg2 hn2))
      all_goals
        have b3 := ((hB.alloc hbs _).drew).grown hg2 (by simp; omega) (fun k hk => (ho.lt k hk).1)
        clear hg2 hn2 hca' hcb' hca hcb
        go_wp2
        go_roundw
        case rel =>
          refine ⟨k + 1, by omega, by go_num, ?_, b3⟩
          rw [zx_succ a b k hkl (by omega), List.map_append]
          exact ho2
        case measure => simp [intOf]; omega
    · obtain rfl : k = a.length := by omega
      have hZ : BytesAt wr u14 (zx a b a.length) := bytes_of_own (e := 5) (base := w.heap.size) (by rw [show (zx a b a.length).length = a.length by simp [zx]; omega]; exact ho)
      have hA : BytesAt wr (.slice A a.length ca) (a.take a.length) := ((H.below hB).cut a.length (Nat.le_refl _))
      have hBb : BytesAt wr (.slice B' a.length cb) (b.take a.length) := ((H'.below hB).cut a.length hlt)
      have e16 : crc P16 (r ^^^ s) (zx a b a.length) = crc P16 r (a.take a.length) ^^^ crc P16 s (b.take a.length) := crc_xor P16 _ _ r s (by simp; omega)
      have e32 : crc P32 (p ^^^ q) (zx a b a.length) = crc P32 p (a.take a.length) ^^^ crc P32 q (b.take a.length) := crc_xor P32 _ _ p q (by simp; omega)
      have ha0 : (0 : Int) ≤ (a.length : Int) := Int.natCast_nonneg _
      have hac : (a.length : Int) ≤ (ca : Int) := by omega
      have hbc : (a.length : Int) ≤ (cb : Int) := by omega
      have hb0 : Below wr.heap.size wr wr.drew := (Below.refl _ _).drew
      generalize zx a b a.length = Z at *
      generalize a.take a.length = a' at *
      generalize b.take a.length = b' at *
      clear ka3 ka4 kb3 kb4 H H' ho
      go_wp2
      go_region_held3 (fun w' => Below wr.heap.size wr w') (first | exact hb0 | assumption) ((first | (go_at_call_of 15 (Value.int .u16 (v16 (r ^^^ s))); refine (on16_ch (by assumption) (r ^^^ s) Z _ hZ).mono ?_; rintro e w1 ⟨rfl, hb1⟩) | (go_at_call_of 15 (Value.int .u16 (v16 r)); refine (on16_ch (by assumption) r a' _ hA).mono ?_; rintro e w2 ⟨rfl, hb2⟩) | (go_at_call_of 15 (Value.int .u16 (v16 s)); refine (on16_ch (by assumption) s b' _ hBb).mono ?_; rintro e w3 ⟨rfl, hb3⟩) | (go_at_call_of 16 (Value.int .u32 (v32 (p ^^^ q))); refine (on32_ch (by assumption) (p ^^^ q) Z _ hZ).mono ?_; rintro e w4 ⟨rfl, hb4⟩) | (go_at_call_of 16 (Value.int .u32 (v32 p)); refine (on32_ch (by assumption) p a' _ hA).mono ?_; rintro e w5 ⟨rfl, hb5⟩) | (go_at_call_of 16 (Value.int .u32 (v32 q)); refine (on32_ch (by assumption) q b' _ hBb).mono ?_; rintro e w6 ⟨rfl, hb6⟩) | (go_at_call 12; refine (awake_ch (by assumption)).mono ?_; rintro e w7 ⟨rfl, hb7⟩)))
      all_goals
        go_wp2_with fail
        go_ret
        exact ⟨rfl, below_then hB hb7⟩
set_option maxHeartbeats 40000000 in
theorem lin2 (a b : List (BitVec 8)) (va vb : Value) (r s : BitVec 16) (p q : BitVec 32) (w : World) (h : BytesAt w va a) (h' : BytesAt w vb b) (hl : a.length ≤ 140737488351232) (hl' : b.length ≤ 140737488351232) (hlt : b.length < a.length) :
    Calls Try.prog 4 #[va, vb, .int .u16 (v16 r), .int .u16 (v16 s), .int .u32 (v32 p), .int .u32 (v32 q)] w fun e w' => e = .returned (.bool true) ∧ Below w.heap.size w w' := by
  have H := h
  have H' := h'
  obtain ⟨A, ca, rfl, ka1, ka2, ka3, ka4⟩ := h
  obtain ⟨B', cb, rfl, kb1, kb2, kb3, kb4⟩ := h'
  unfold maxLen at ka2 kb2
  have hd : decide (b.length < a.length) = true := by simp; omega
  go_enter Try.func4, Try.ntmps4
  go_wp2
  go_loopw [14, 15] (fun o i wr => ∃ k : Nat, k ≤ b.length ∧ i = .int .i64 k ∧ wr.ownsRow w.heap.size 5 1 o k ((zx a b k).map b8) ∧ Below w.heap.size w wr) (fun _ i _ => b.length - (intOf i).toNat)
  case atStart => exact ⟨0, by omega, rfl, World.ownsRow_nil _ _ _ _, Below.refl _ _⟩
  case round =>
    obtain ⟨k, hk, rfl, ho, hB⟩ := hrel
    by_cases hkl : k < b.length
    · obtain ⟨ad, rfl⟩ : ∃ ad, A = some ad := by
        cases A with
        | none => rw [ka3 rfl] at hlt; simp at hlt
        | some ad => exact ⟨ad, rfl⟩
      obtain ⟨bd, rfl⟩ : ∃ ad, B' = some ad := by
        cases B' with
        | none => rw [kb3 rfl] at hkl; simp at hkl
        | some ad => exact ⟨ad, rfl⟩
      obtain ⟨ab, ao, rfl, hca⟩ := ka4 ad rfl k (by omega)
      obtain ⟨bb, bo, rfl, hcb⟩ := kb4 bd rfl k (by omega)
      have hca' : wr.cell? ⟨ab, ao + k, none⟩ = some (.int .u8 (v8 (a[k]'(by omega)))) := (hB.cell (World.block_lt_of_cell? w _ hca)).trans hca
      have hcb' : wr.cell? ⟨bb, bo + k, none⟩ = some (.int .u8 (v8 (b[k]'(by omega)))) := (hB.cell (World.block_lt_of_cell? w _ hcb)).trans hcb
      have hi0 : (0 : Int) ≤ (k : Int) := Int.natCast_nonneg _
      have hia : (k : Int) < (a.length : Int) := by omega
      have hib : (k : Int) < (b.length : Int) := by omega
      have hbs := hB.size
      have hab := World.block_lt_of_cell? w _ hca
      have hbb := World.block_lt_of_cell? w _ hcb
      clear ka4 kb4 H H' ka3 kb3
      go_wp2_with fail
      go_region_held3 (fun w' => w'.cell? ⟨ab, ao + k, none⟩ = some (.int .u8 (v8 (a[k]'(by omega)))) ∧ w'.cell? ⟨bb, bo + k, none⟩ = some (.int .u8 (v8 (b[k]'(by omega))))) (first | go_keep | (have b3 := ((hB.alloc hbs _).drew).grown hg2 (by simp; omega) (fun k hk => (ho.lt k hk).1); exact ⟨(b3.cell hab).trans hca, (b3.cell hbb).trans hcb⟩)) ((refine step_app elB rfl _ _ rfl w.heap.size _ _ _ rfl (own_drew (ho.alloc _)) _ _ _ rfl (src_drew (src_one _ _ _ rfl)) (by simp [maxLen]; omega) (by omega) (by simp; omega) ?_; intro v2 w2 ho2 hg2 hn2))
      all_goals
        have b3 := ((hB.alloc hbs _).drew).grown hg2 (by simp; omega) (fun k hk => (ho.lt k hk).1)
        clear hg2 hn2 hca' hcb' hca hcb
        go_wp2
        go_roundw
        case rel =>
          refine ⟨k + 1, by omega, by go_num, ?_, b3⟩
          rw [zx_succ a b k (by omega) hkl, List.map_append]
          exact ho2
        case measure => simp [intOf]; omega
    · obtain rfl : k = b.length := by omega
      have hZ : BytesAt wr u14 (zx a b b.length) := bytes_of_own (e := 5) (base := w.heap.size) (by rw [show (zx a b b.length).length = b.length by simp [zx]; omega]; exact ho)
      have hA : BytesAt wr (.slice A b.length ca) (a.take b.length) := ((H.below hB).cut b.length (by omega))
      have hBb : BytesAt wr (.slice B' b.length cb) (b.take b.length) := ((H'.below hB).cut b.length (Nat.le_refl _))
      have e16 : crc P16 (r ^^^ s) (zx a b b.length) = crc P16 r (a.take b.length) ^^^ crc P16 s (b.take b.length) := crc_xor P16 _ _ r s (by simp; omega)
      have e32 : crc P32 (p ^^^ q) (zx a b b.length) = crc P32 p (a.take b.length) ^^^ crc P32 q (b.take b.length) := crc_xor P32 _ _ p q (by simp; omega)
      have ha0 : (0 : Int) ≤ (b.length : Int) := Int.natCast_nonneg _
      have hac : (b.length : Int) ≤ (ca : Int) := by omega
      have hbc : (b.length : Int) ≤ (cb : Int) := by omega
      have hb0 : Below wr.heap.size wr wr.drew := (Below.refl _ _).drew
      generalize zx a b b.length = Z at *
      generalize a.take b.length = a' at *
      generalize b.take b.length = b' at *
      clear ka3 ka4 kb3 kb4 H H' ho
      go_wp2
      go_region_held3 (fun w' => Below wr.heap.size wr w') (first | exact hb0 | assumption) ((first | (go_at_call_of 15 (Value.int .u16 (v16 (r ^^^ s))); refine (on16_ch (by assumption) (r ^^^ s) Z _ hZ).mono ?_; rintro e w1 ⟨rfl, hb1⟩) | (go_at_call_of 15 (Value.int .u16 (v16 r)); refine (on16_ch (by assumption) r a' _ hA).mono ?_; rintro e w2 ⟨rfl, hb2⟩) | (go_at_call_of 15 (Value.int .u16 (v16 s)); refine (on16_ch (by assumption) s b' _ hBb).mono ?_; rintro e w3 ⟨rfl, hb3⟩) | (go_at_call_of 16 (Value.int .u32 (v32 (p ^^^ q))); refine (on32_ch (by assumption) (p ^^^ q) Z _ hZ).mono ?_; rintro e w4 ⟨rfl, hb4⟩) | (go_at_call_of 16 (Value.int .u32 (v32 p)); refine (on32_ch (by assumption) p a' _ hA).mono ?_; rintro e w5 ⟨rfl, hb5⟩) | (go_at_call_of 16 (Value.int .u32 (v32 q)); refine (on32_ch (by assumption) q b' _ hBb).mono ?_; rintro e w6 ⟨rfl, hb6⟩) | (go_at_call 12; refine (awake_ch (by assumption)).mono ?_; rintro e w7 ⟨rfl, hb7⟩)))
      all_goals
        go_wp2_with fail
        go_ret
        exact ⟨rfl, below_then hB hb7⟩
theorem law_linear (a : List (BitVec 8)) (va : Value) (b : List (BitVec 8)) (vb : Value) (r s p q : Int) (w : World) (h : BytesAt w va a) (hl : a.length ≤ 140737488351232) (h' : BytesAt w vb b) (hl' : b.length ≤ 140737488351232) (hr : (Lit.int .u16 r).wf = true) (hs : (Lit.int .u16 s).wf = true) (hp : (Lit.int .u32 p).wf = true) (hq : (Lit.int .u32 q).wf = true) :
    Calls Try.prog 4 #[va, vb, .int .u16 r, .int .u16 s, .int .u32 p, .int .u32 q] w fun e w' => e = .returned (.bool true) ∧ Below w.heap.size w w' := by
  obtain ⟨r, rfl⟩ := as16 hr
  obtain ⟨s, rfl⟩ := as16 hs
  obtain ⟨p, rfl⟩ := as32 hp
  obtain ⟨q, rfl⟩ := as32 hq
  by_cases hlt : a.length ≤ b.length
  · exact lin1 a b va vb r s p q w h h' hl hl' hlt
  · exact lin2 a b va vb r s p q w h h' hl hl' (by omega)
end Go.Proofs.Ytmfncddgbapocaa.F
