import Derived.Test.YtmfncddgbapocaaM5
import Derived.Test.YtmfncddgbapocaaYBurst
import Derived.Test.YtmfncddgbapocaaYCuts
set_option linter.unusedVariables false
set_option linter.unusedSimpArgs false
namespace Go.Proofs.Ytmfncddgbapocaa.F
open Go.RowKit Go.Proofs.Ytmfncddgbapocaa.K
theorem LentAt.own {W : World} {base : Nat} {v : Value} {l : List (BitVec 8)} (h : LentAt W base v l) : W.ownsRow base 5 1 v l.length (l.map b8) := by
  obtain ⟨g, cap, cur, rfl, hb, hh, hn, hm, hcs, htk⟩ := h
  refine ⟨by simp, .inr ⟨g, cap, cur, rfl, hb, hh, by omega, hm, by simpa using hcs, ?_⟩⟩
  have := congrArg (List.take l.length) htk
  rw [List.take_take, List.take_append_of_le_length (by simp), List.take_of_length_le (l := l.map b8) (by simp)] at this
  simpa [show min l.length (l.length + 1) = l.length by omega] using this
theorem LentAt.kept {W W' : World} {base g : Nat} {v : Value} {l : List (BitVec 8)} (h : LentAt W base v l) (hg : W.grownBy W' (some g)) (hlt : g < base) : LentAt W' base v l := by
  obtain ⟨k, cap, cur, rfl, hb', hh, hr⟩ := h
  have hb2 : base ≤ k := hb'
  have hb2 : base ≤ k := hb'
  have hb2 : base ≤ k := hb'
  have hb2 : base ≤ k := hb'
  have hb2 : base ≤ k := hb'
  have hb2 : base ≤ k := hb'
  exact ⟨k, cap, cur, rfl, hb', by rw [hg.block k (Array.getElem?_eq_some_iff.1 hh).1 (by simp; omega)]; exact hh, hr⟩
theorem LentAt.ne {W : World} {base g : Nat} {v : Value} {l : List (BitVec 8)} (h : LentAt W base v l) (hlt : g < base) : v.ownBlock ≠ some g := by
  obtain ⟨k, cap, cur, rfl, hb', -⟩ := h
  have hb2 : base ≤ k := hb'
  intro e
  have e2 : k = g := by simpa [Value.ownBlock] using e
  omega
theorem ChkAt.grownBy {w w' : World} {g : Nat} {bits n : Int} {r : BitVec 16} {q : BitVec 32} {x : Option Nat} (h : ChkAt w g bits r q n) (hg : w.grownBy w' x) (hne : some g ≠ x) : ChkAt w' g bits r q n :=
  ⟨(hg.block g (Array.getElem?_eq_some_iff.1 h.blk).1 hne).trans h.blk⟩
/-- the first k texts, one behind the other -/
def pre (L : List (List (BitVec 8))) (k : Nat) : List (BitVec 8) := (L.take k).flatten
theorem pre_succ (L : List (List (BitVec 8))) (k : Nat) (hk : k < L.length) : pre L (k + 1) = pre L k ++ L[k] := by
  unfold pre
  rw [List.take_succ_eq_append_getElem hk, List.flatten_append]
  simp
theorem pre_len (L : List (List (BitVec 8))) (k : Nat) : (pre L k).length ≤ (L.map List.length).sum := by
  unfold pre
  rw [List.length_flatten]
  have h : L.map List.length = (L.take k).map List.length ++ (L.drop k).map List.length := by rw [← List.map_append, List.take_append_drop]
  rw [h, List.sum_append]
  omega
/-- What the loop holds. -/
structure Ck (B : Nat) (w : World) (g : Nat) (bits : Int) (v : Value) (l : List (BitVec 8)) : Prop where
  chk : ChkAt w g bits (crc P16 0xffff#16 l) (crc P32 0xffffffff#32 l) ((l.length : Nat) : Int)
  all : w.ownsRow B 5 1 v l.length (l.map b8)
  lt : g < B
  le : B ≤ w.heap.size
theorem Ck.below {B : Nat} {w w' : World} {g : Nat} {bits : Int} {v : Value} {l : List (BitVec 8)} (h : Ck B w g bits v l) (hb : Below w.heap.size w w') : Ck B w' g bits v l :=
  ⟨h.chk.below hb, own_below h.all hb, h.lt, Nat.le_trans h.le hb.size⟩
theorem own_apart {w w' : World} {B : Nat} {v u : Value} {l : List (BitVec 8)} {base : Nat} (h : w.ownsRow B 5 1 v l.length (l.map b8)) (hg : w.grownBy w' u.ownBlock) (hu : ∀ k, u.ownBlock = some k → base ≤ k) (hv : ∀ k, v.ownBlock = some k → k < base) : w'.ownsRow B 5 1 v l.length (l.map b8) := by
  refine h.kept hg ?_
  cases hb : v.ownBlock with
  | none => simp
  | some k =>
    right
    intro e
    have h1 := hv k hb
    have h2 := hu k e.symm
    omega
theorem LentAt.lo {W : World} {base : Nat} {v : Value} {l : List (BitVec 8)} (h : LentAt W base v l) : ∀ k, v.ownBlock = some k → base ≤ k := by
  obtain ⟨k, cap, cur, rfl, hb', -⟩ := h
  intro j e
  cases e
  exact hb'
theorem Ck.own_add {B g : Nat} {w w' : World} {bits : Int} {v : Value} {l : List (BitVec 8)} (h : Ck B w g bits v l) (hg : w.grownBy w' (some g)) : w'.ownsRow B 5 1 v l.length (l.map b8) := by
  refine h.all.kept hg ?_
  cases hb : v.ownBlock with
  | none => simp
  | some k =>
    right
    intro e
    have h1 := (h.all.lt k hb).1
    have h2 := h.lt
    cases e
    omega
def gdd (wide : Bool) (l : List (BitVec 8)) : Bool := if wide then decide (4 ≤ l.length) && good32 l else decide (2 ≤ l.length) && good16 l
theorem sum_ck16 {B g : Nat} {w : World} {v : Value} {l : List (BitVec 8)} (h : Ck B w g 16 v l) : Calls Try.prog 35 #[.pointer (some ⟨g, 0, none⟩)] w fun e w' => e = .returned (.int .u32 (v32 ((s16 l).setWidth 32))) ∧ w' = w := sum_at g 16 _ _ _ w h.chk
theorem sum_ck32 {B g : Nat} {w : World} {v : Value} {l : List (BitVec 8)} (h : Ck B w g 32 v l) : Calls Try.prog 35 #[.pointer (some ⟨g, 0, none⟩)] w fun e w' => e = .returned (.int .u32 (v32 (s32 l))) ∧ w' = w := sum_at g 32 _ _ _ w h.chk
theorem good_ck16 {B g : Nat} {w : World} {v : Value} {l : List (BitVec 8)} (h : Ck B w g 16 v l) : Calls Try.prog 36 #[.pointer (some ⟨g, 0, none⟩)] w fun e w' => e = .returned (.bool (gdd false l)) ∧ ∃ n, w' = w.drewN n := by
  refine (good_at g false _ _ _ w h.chk).mono ?_
  rintro e w' ⟨rfl, hn⟩
  refine ⟨?_, hn⟩
  have : decide ((2 : Int) ≤ ((l.length : Nat) : Int)) = decide (2 ≤ l.length) := by congr 1; simp; omega
  simp only [gdd, good16, this, Bool.false_eq_true, if_false]
theorem good_ck32 {B g : Nat} {w : World} {v : Value} {l : List (BitVec 8)} (h : Ck B w g 32 v l) : Calls Try.prog 36 #[.pointer (some ⟨g, 0, none⟩)] w fun e w' => e = .returned (.bool (gdd true l)) ∧ ∃ n, w' = w.drewN n := by
  refine (good_at g true _ _ _ w h.chk).mono ?_
  rintro e w' ⟨rfl, hn⟩
  refine ⟨?_, hn⟩
  have : decide ((4 : Int) ≤ ((l.length : Nat) : Int)) = decide (4 ≤ l.length) := by congr 1; simp; omega
  simp only [gdd, good32, this, if_true]
theorem refGd (wide : Bool) (l : List (BitVec 8)) (v : Value) (w : World) (h : BytesAt w v l) : Calls Try.prog 37 #[v, .bool wide] w fun e w' => e = .returned (.bool (gdd wide l)) ∧ w' = w := refGood l v wide w h
theorem Ck.bytes {B g : Nat} {w : World} {bits : Int} {v : Value} {l : List (BitVec 8)} (h : Ck B w g bits v l) : BytesAt w v l := bytes_of_own h.all
attribute [local go_sem high] cv32_16 v16_beq v32_beq
set_option maxRecDepth 100000 in
set_option maxHeartbeats 4000000 in
theorem law_checks (L : List (List (BitVec 8))) (v : Value) (wide : Bool) (w : World) (h : RowsAt w v L) (hs : (L.map List.length).sum ≤ 1048576) : Calls Try.prog 10 #[v, .bool wide] w fun e w' => e = .returned (.bool true) ∧ Below w.heap.size w w' := by
  have H := Lib.hid h
  obtain ⟨A, cap, rfl, k1, k2, k3, k4⟩ := h
  unfold maxLen at k2
  have K3 := Lib.hid k3
  clear k3 k4
  have S := Lib.hid hs
  clear hs
  cases wide
  · go_enter Try.func10, Try.ntmps10
    go_wp2_with fail
    refine (new_at 16 _ (.inl rfl)).mono ?_
    rintro e w1 ⟨rfl, hc, hB⟩
    have hgl := (Array.getElem?_eq_some_iff.1 hc.blk).1
    have C0 := Lib.hid (show Ck w1.heap.size w1 w.heap.size 16 (.slice none 0 0) (pre L 0) from ⟨hc, World.ownsRow_nil w1 _ 5 1, hgl, Nat.le_refl _⟩)
    clear hc
    go_wp2_with fail
    go_loopw [7, 9, 10, 11, 19] (fun al _ _ _ i wr => ∃ k : Nat, k ≤ L.length ∧ i = .int .i64 k ∧ Hid (Ck w1.heap.size wr w.heap.size 16 al (pre L k)) ∧ Below w.heap.size w wr) (fun _ _ _ _ i _ => L.length - (intOf i).toNat)
    case atStart => exact ⟨0, by omega, rfl, C0, hB⟩
    case round =>
      clear C0 hB
      obtain ⟨k, hk, rfl, HC, hB⟩ := hrel
      by_cases hkl : k < L.length
      · obtain ⟨A', cap', e, -, -, -, hc⟩ := H.out.at_
        cases e
        obtain ⟨ad, rfl⟩ : ∃ ad, A = some ad := by
          cases A with
          | none => rw [K3.out rfl] at hkl; cases hkl
          | some ad => exact ⟨ad, rfl⟩
        obtain ⟨b, o, x, rfl, c0, hx⟩ := hc ad rfl k hkl
        have c0 := (hB.cell (World.block_lt_of_cell? w _ c0)).trans c0
        have hi0 : (0 : Int) ≤ (k : Int) := by omega
        have hia : (k : Int) < (L.length : Int) := by omega
        have hP := pre_succ L k hkl
        have hl1 := pre_len L (k + 1)
        rw [hP] at hl1
        have hl2 := S.out
        have hl3 : (pre L k).length + L[k].length ≤ 1048576 := by simp at hl1; omega
        have X := Lib.hid hx
        have HP := Lib.hid hP
        generalize hp1 : pre L (k + 1) = p1 at *
        generalize L[k] = lk at *
        generalize hpk : pre L k = pk at *
        clear hc hl1 hl2 hx hP
        go_wp2_with fail
        refine (lent lk _ _ (X.out.below hB) (by omega)).mono ?_
        rintro e w2 ⟨u, rfl, hu, b2⟩
        have C2 := Lib.hid (HC.out.below b2)
        have B2 := below_then hB b2
        have hle := HC.out.le
        have hlt : w.heap.size < wr.heap.size := by omega
        have U2 := Lib.hid hu
        clear hu b2
        go_wp2_with fail
        refine (add_at _ 16 pk.length _ _ lk _ _ C2.out.chk U2.out.bytes (by omega) (U2.out.ne hlt)).mono ?_
        rintro e w3 ⟨rfl, hc3, hg3⟩
        have U3 := Lib.hid (U2.out.kept hg3 hlt)
        have B3 := B2.grown hg3 B2.size (fun k hk => by cases hk; exact Nat.le_refl _)
        have A3 := Lib.hid (C2.out.own_add hg3)
        have hs3 := hg3.size
        rw [← crc_append, ← crc_append] at hc3
        have K3' := Lib.hid hc3
        clear hc3 hg3
        go_wp2_with fail
        refine (kept lk _ _ _ _ U3.out (X.out.below B3)).mono ?_
        rintro e w4 ⟨rfl, rfl⟩
        go_wp2_with fail
        refine (spoilR U3.out.own).mono ?_
        rintro e w4 ⟨rfl, hg4⟩
        have B4 := B3.grown hg4 B3.size (fun k hk => by have := U3.out.lo k hk; omega)
        have A4 := Lib.hid (own_apart A3.out hg4 U3.out.lo (fun j hj => (HC.out.all.lt j hj).2))
        have K4 := Lib.hid (K3'.out.grownBy hg4 (fun e => by have := U3.out.lo _ e.symm; omega))
        have hs4 : w1.heap.size ≤ w4.heap.size := Nat.le_trans C2.out.le (Nat.le_trans hs3 hg4.size)
        clear hg4 U2 U3 A3 K3'
        go_wp2_with (at_builtin; refine wpList_app elB rfl _ _ rfl w1.heap.size _ _ _ rfl A4.out _ _ _ rfl (X.out.below B4).src (by simp [maxLen]; omega) (by omega) hs4 ?_)
        intro v5 w5 ho5 hg5 hn5
        have C5 := Lib.hid (show Ck w1.heap.size w5 w.heap.size 16 v5 (pk ++ lk) from ⟨by
          rw [List.length_append]
          exact K4.out.grownBy hg5 (fun e => by have := (A4.out.lt _ e.symm).1; omega), by simpa using ho5, hgl, Nat.le_trans hs4 hg5.size⟩)
        have B5 := B4.grown hg5 B4.size (fun k hk => by have := (A4.out.lt k hk).1; omega)
        rw [← HP.out] at C5
        have hlen : p1.length ≤ 1048576 := by rw [HP.out]; simp; omega
        clear ho5 hg5 hn5 A4 K4 C2 HC HP hl3
        obtain ⟨A5, c5, rfl, -⟩ := C5.out.bytes.at_
        go_wp2_with fail
        refine (refSum16 _ _ _ C5.out.bytes).mono ?_
        rintro e w6 ⟨rfl, rfl⟩
        go_wp2_with fail
        refine (sum_ck16 C5.out).mono ?_
        rintro e w7 ⟨rfl, rfl⟩
        go_wp2_with fail
        refine (good_ck16 C5.out).mono ?_
        rintro e w8 ⟨rfl, nd, rfl⟩
        have bd : Below w7.heap.size w7 (w7.drewN nd) := ⟨rfl, rfl, rfl, Nat.le_refl _, fun _ _ => rfl⟩
        have C6 := Lib.hid (C5.out.below bd)
        have B6 := below_then B5 bd
        clear C5 B5
        generalize w7.drewN nd = w9 at *
        have GG := Lib.hid (refGd false p1 _ _ C6.out.bytes)
        generalize gdd false p1 = gg at *
        go_wp2_with fail
        refine GG.out.mono ?_
        rintro e w10 ⟨rfl, rfl⟩
        clear GG
        cases gg
        · go_wp2_with fail
          refine (len_at _ _ _ _ _ _ C6.out.chk).mono ?_
          rintro e w11 ⟨rfl, rfl⟩
          go_wp2
          go_roundw
          case rel => exact ⟨k + 1, by omega, by go_num, hp1 ▸ C6, B6⟩
          case measure => simp [intOf]; omega
        · go_wp2_with fail
          refine (len_at _ _ _ _ _ _ C6.out.chk).mono ?_
          rintro e w11 ⟨rfl, rfl⟩
          go_wp2
          go_roundw
          case rel => exact ⟨k + 1, by omega, by go_num, hp1 ▸ C6, B6⟩
          case measure => simp [intOf]; omega
      · obtain rfl : k = L.length := by omega
        have HR := Lib.hid (reset_at w.heap.size 16 _ _ _ _ HC.out.chk)
        have hws := HC.out.le
        clear HC
        go_wp2_with fail
        refine HR.out.mono ?_
        rintro e w2 ⟨rfl, hc2, hg2⟩
        have B2 := hB.grown hg2 hB.size (fun k hk => by cases hk; exact Nat.le_refl _)
        have C2 := Lib.hid (show Ck w1.heap.size w2 w.heap.size 16 (.slice none 0 0) [] from ⟨hc2, World.ownsRow_nil w2 _ 5 1, hgl, Nat.le_trans hws hg2.size⟩)
        clear hc2 hg2 hws
        go_wp2_with fail
        refine (len_at _ _ _ _ _ _ C2.out.chk).mono ?_
        rintro e w3 ⟨rfl, rfl⟩
        go_wp2_with fail
        refine (good_ck16 C2.out).mono ?_
        rintro e w4 ⟨rfl, nd, rfl⟩
        have bd : Below w3.heap.size w3 (w3.drewN nd) := ⟨rfl, rfl, rfl, Nat.le_refl _, fun _ _ => rfl⟩
        have C6 := Lib.hid (C2.out.below bd)
        have B6 := below_then B2 bd
        have hz : gdd false [] = false := by decide
        have hz2 : v32 ((s16 []).setWidth 32) = 0 := by decide +kernel
        rw [hz]
        clear C2 B2
        generalize w3.drewN nd = w5 at *
        go_wp2_with fail
        refine (sum_ck16 C6.out).mono ?_
        rintro e w6 ⟨rfl, rfl⟩
        rw [hz2]
        go_wp2_with fail
        refine (awake _).mono ?_
        rintro e w7 ⟨rfl, bb⟩
        go_wp2
        go_ret
        exact ⟨rfl, below_then B6 bb⟩
  · go_enter Try.func10, Try.ntmps10
    go_wp2_with fail
    refine (new_at 32 _ (.inr rfl)).mono ?_
    rintro e w1 ⟨rfl, hc, hB⟩
    have hgl := (Array.getElem?_eq_some_iff.1 hc.blk).1
    have C0 := Lib.hid (show Ck w1.heap.size w1 w.heap.size 32 (.slice none 0 0) (pre L 0) from ⟨hc, World.ownsRow_nil w1 _ 5 1, hgl, Nat.le_refl _⟩)
    clear hc
    go_wp2_with fail
    go_loopw [7, 9, 10, 11, 19] (fun al _ _ _ i wr => ∃ k : Nat, k ≤ L.length ∧ i = .int .i64 k ∧ Hid (Ck w1.heap.size wr w.heap.size 32 al (pre L k)) ∧ Below w.heap.size w wr) (fun _ _ _ _ i _ => L.length - (intOf i).toNat)
    case atStart => exact ⟨0, by omega, rfl, C0, hB⟩
    case round =>
      clear C0 hB
      obtain ⟨k, hk, rfl, HC, hB⟩ := hrel
      by_cases hkl : k < L.length
      · obtain ⟨A', cap', e, -, -, -, hc⟩ := H.out.at_
        cases e
        obtain ⟨ad, rfl⟩ : ∃ ad, A = some ad := by
          cases A with
          | none => rw [K3.out rfl] at hkl; cases hkl
          | some ad => exact ⟨ad, rfl⟩
        obtain ⟨b, o, x, rfl, c0, hx⟩ := hc ad rfl k hkl
        have c0 := (hB.cell (World.block_lt_of_cell? w _ c0)).trans c0
        have hi0 : (0 : Int) ≤ (k : Int) := by omega
        have hia : (k : Int) < (L.length : Int) := by omega
        have hP := pre_succ L k hkl
        have hl1 := pre_len L (k + 1)
        rw [hP] at hl1
        have hl2 := S.out
        have hl3 : (pre L k).length + L[k].length ≤ 1048576 := by simp at hl1; omega
        have X := Lib.hid hx
        have HP := Lib.hid hP
        generalize hp1 : pre L (k + 1) = p1 at *
        generalize L[k] = lk at *
        generalize hpk : pre L k = pk at *
        clear hc hl1 hl2 hx hP
        go_wp2_with fail
        refine (lent lk _ _ (X.out.below hB) (by omega)).mono ?_
        rintro e w2 ⟨u, rfl, hu, b2⟩
        have C2 := Lib.hid (HC.out.below b2)
        have B2 := below_then hB b2
        have hle := HC.out.le
        have hlt : w.heap.size < wr.heap.size := by omega
        have U2 := Lib.hid hu
        clear hu b2
        go_wp2_with fail
        refine (add_at _ 32 pk.length _ _ lk _ _ C2.out.chk U2.out.bytes (by omega) (U2.out.ne hlt)).mono ?_
        rintro e w3 ⟨rfl, hc3, hg3⟩
        have U3 := Lib.hid (U2.out.kept hg3 hlt)
        have B3 := B2.grown hg3 B2.size (fun k hk => by cases hk; exact Nat.le_refl _)
        have A3 := Lib.hid (C2.out.own_add hg3)
        have hs3 := hg3.size
        rw [← crc_append, ← crc_append] at hc3
        have K3' := Lib.hid hc3
        clear hc3 hg3
        go_wp2_with fail
        refine (kept lk _ _ _ _ U3.out (X.out.below B3)).mono ?_
        rintro e w4 ⟨rfl, rfl⟩
        go_wp2_with fail
        refine (spoilR U3.out.own).mono ?_
        rintro e w4 ⟨rfl, hg4⟩
        have B4 := B3.grown hg4 B3.size (fun k hk => by have := U3.out.lo k hk; omega)
        have A4 := Lib.hid (own_apart A3.out hg4 U3.out.lo (fun j hj => (HC.out.all.lt j hj).2))
        have K4 := Lib.hid (K3'.out.grownBy hg4 (fun e => by have := U3.out.lo _ e.symm; omega))
        have hs4 : w1.heap.size ≤ w4.heap.size := Nat.le_trans C2.out.le (Nat.le_trans hs3 hg4.size)
        clear hg4 U2 U3 A3 K3'
        go_wp2_with (at_builtin; refine wpList_app elB rfl _ _ rfl w1.heap.size _ _ _ rfl A4.out _ _ _ rfl (X.out.below B4).src (by simp [maxLen]; omega) (by omega) hs4 ?_)
        intro v5 w5 ho5 hg5 hn5
        have C5 := Lib.hid (show Ck w1.heap.size w5 w.heap.size 32 v5 (pk ++ lk) from ⟨by
          rw [List.length_append]
          exact K4.out.grownBy hg5 (fun e => by have := (A4.out.lt _ e.symm).1; omega), by simpa using ho5, hgl, Nat.le_trans hs4 hg5.size⟩)
        have B5 := B4.grown hg5 B4.size (fun k hk => by have := (A4.out.lt k hk).1; omega)
        rw [← HP.out] at C5
        have hlen : p1.length ≤ 1048576 := by rw [HP.out]; simp; omega
        clear ho5 hg5 hn5 A4 K4 C2 HC HP hl3
        obtain ⟨A5, c5, rfl, -⟩ := C5.out.bytes.at_
        go_wp2_with fail
        refine (refSum16 _ _ _ C5.out.bytes).mono ?_
        rintro e w6 ⟨rfl, rfl⟩
        go_wp2_with fail
        refine (refSum32 _ _ _ C5.out.bytes).mono ?_
        rintro e w6 ⟨rfl, rfl⟩
        go_wp2_with fail
        refine (sum_ck32 C5.out).mono ?_
        rintro e w7 ⟨rfl, rfl⟩
        go_wp2_with fail
        refine (good_ck32 C5.out).mono ?_
        rintro e w8 ⟨rfl, nd, rfl⟩
        have bd : Below w7.heap.size w7 (w7.drewN nd) := ⟨rfl, rfl, rfl, Nat.le_refl _, fun _ _ => rfl⟩
        have C6 := Lib.hid (C5.out.below bd)
        have B6 := below_then B5 bd
        clear C5 B5
        generalize w7.drewN nd = w9 at *
        have GG := Lib.hid (refGd true p1 _ _ C6.out.bytes)
        generalize gdd true p1 = gg at *
        go_wp2_with fail
        refine GG.out.mono ?_
        rintro e w10 ⟨rfl, rfl⟩
        clear GG
        cases gg
        · go_wp2_with fail
          refine (len_at _ _ _ _ _ _ C6.out.chk).mono ?_
          rintro e w11 ⟨rfl, rfl⟩
          go_wp2
          go_roundw
          case rel => exact ⟨k + 1, by omega, by go_num, hp1 ▸ C6, B6⟩
          case measure => simp [intOf]; omega
        · go_wp2_with fail
          refine (len_at _ _ _ _ _ _ C6.out.chk).mono ?_
          rintro e w11 ⟨rfl, rfl⟩
          go_wp2
          go_roundw
          case rel => exact ⟨k + 1, by omega, by go_num, hp1 ▸ C6, B6⟩
          case measure => simp [intOf]; omega
      · obtain rfl : k = L.length := by omega
        have HR := Lib.hid (reset_at w.heap.size 32 _ _ _ _ HC.out.chk)
        have hws := HC.out.le
        clear HC
        go_wp2_with fail
        refine HR.out.mono ?_
        rintro e w2 ⟨rfl, hc2, hg2⟩
        have B2 := hB.grown hg2 hB.size (fun k hk => by cases hk; exact Nat.le_refl _)
        have C2 := Lib.hid (show Ck w1.heap.size w2 w.heap.size 32 (.slice none 0 0) [] from ⟨hc2, World.ownsRow_nil w2 _ 5 1, hgl, Nat.le_trans hws hg2.size⟩)
        clear hc2 hg2 hws
        go_wp2_with fail
        refine (len_at _ _ _ _ _ _ C2.out.chk).mono ?_
        rintro e w3 ⟨rfl, rfl⟩
        go_wp2_with fail
        refine (good_ck32 C2.out).mono ?_
        rintro e w4 ⟨rfl, nd, rfl⟩
        have bd : Below w3.heap.size w3 (w3.drewN nd) := ⟨rfl, rfl, rfl, Nat.le_refl _, fun _ _ => rfl⟩
        have C6 := Lib.hid (C2.out.below bd)
        have B6 := below_then B2 bd
        have hz : gdd true [] = false := by decide
        have hz2 : v32 (s32 []) = 0 := by decide +kernel
        rw [hz]
        clear C2 B2
        generalize w3.drewN nd = w5 at *
        go_wp2_with fail
        refine (sum_ck32 C6.out).mono ?_
        rintro e w6 ⟨rfl, rfl⟩
        rw [hz2]
        go_wp2_with fail
        refine (awake _).mono ?_
        rintro e w7 ⟨rfl, bb⟩
        go_wp2
        go_ret
        exact ⟨rfl, below_then B6 bb⟩
end Go.Proofs.Ytmfncddgbapocaa.F
