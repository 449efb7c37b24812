import Derived.Test.YtmfncddgbapocaaYGood
import Derived.Test.YtmfncddgbapocaaYFar
import Derived.Outline
set_option linter.unusedVariables false
set_option linter.unusedSimpArgs false
namespace Go.Proofs.Ytmfncddgbapocaa.F
open Go.RowKit Go.Proofs.Ytmfncddgbapocaa.K
attribute [local go_sem high] cv32_16
theorem refPut2 (l : List (BitVec 8)) (v : Value) (w : World) (h : BytesAt w v l) (hl : l.length ≤ 140737488351232) :
  Calls Try.prog 30 #[v, .int .u32 (v32 ((s16 l).setWidth 32)), .int .i64 2] w fun e w' => ∃ u, e = .returned u ∧ w'.ownsRow w.heap.size 5 1 u (p16 l).length ((p16 l).map b8) ∧ Below w.heap.size w w' := by
  rw [p16_len]; exact refPut l v _ 2 w h hl (by decide)
theorem refPut4 (l : List (BitVec 8)) (v : Value) (w : World) (h : BytesAt w v l) (hl : l.length ≤ 140737488351232) :
  Calls Try.prog 30 #[v, .int .u32 (v32 (s32 l)), .int .i64 4] w fun e w' => ∃ u, e = .returned u ∧ w'.ownsRow w.heap.size 5 1 u (p32 l).length ((p32 l).map b8) ∧ Below w.heap.size w w' := by
  rw [p32_len]; exact refPut l v _ 4 w h hl (by decide)
theorem own_apart {w w' : World} {B B' : Nat} {e e' : TypeId} {s s' n n' : Nat} {v v' : Value} {xs xs' : List Value} (h : w.ownsRow B e s v n xs) (h' : w'.ownsRow B' e' s' v' n' xs') (hB : w.heap.size ≤ B') : v'.ownBlock = none ∨ v'.ownBlock ≠ v.ownBlock := by
  cases hx : v.ownBlock with
  | none => cases v'.ownBlock <;> simp
  | some k =>
    have k1 := (h.lt k hx).2
    cases hz : v'.ownBlock with
    | none => simp
    | some j =>
      have k2 := (h'.lt j hz).1
      right; simp; omega
set_option maxHeartbeats 2000000 in
theorem sums (l : List (BitVec 8)) (v : Value) (r : BitVec 16) (q : BitVec 32) (w : World) (h : BytesAt w v l) (hl : l.length ≤ 140737488351232) : Calls Try.prog 8 #[v, .int .u16 (v16 r), .int .u32 (v32 q)] w fun e w' => e = .returned (.bool true) ∧ Below w.heap.size w w' := by
  go_enter Try.func8, Try.ntmps8
  go_wp2_with fail
  refine (lent l v w h hl).mono ?_
  rintro e w1 ⟨u, rfl, L, B⟩
  have L1 := L
  have hw1 : w.heap.size ≤ w1.heap.size := B.size
  go_wp2_with fail
  refine (put16' l u w1 L.bytes hl).mono ?_
  rintro e w2 ⟨x, rfl, ox, b⟩
  replace L := L.below b
  replace B := below_then B b
  have C := b
  clear b
  go_wp2_with fail
  refine (put32' l u w2 L.bytes hl).mono ?_
  rintro e w3 ⟨y, rfl, oy, b⟩
  have hap := own_apart ox oy (Nat.le_refl _)
  have hxb : w1.heap.size ≤ w2.heap.size := C.size
  replace L := L.below b
  replace B := below_then B b
  replace C := below_then C b
  replace ox := own_below ox b
  clear b
  go_wp2_with fail
  refine (refSum16 l v _ (h.below B)).mono ?_
  rintro e w3' ⟨rfl, hw⟩
  subst hw
  go_wp2_with fail
  refine (refPut2 l v _ (h.below B) hl).mono ?_
  rintro e w4 ⟨x', rfl, ox', b⟩
  replace L := L.below b
  replace B := below_then B b
  replace C := below_then C b
  replace ox := own_below ox b
  replace oy := own_below oy b
  clear b
  go_wp2_with fail
  refine (same _ _ x x' _ (bytes_of_own ox) (bytes_of_own ox')).mono ?_
  rintro e w4' ⟨rfl, hw⟩
  subst hw
  go_wp2_with fail
  refine (refSum32 l v _ (h.below B)).mono ?_
  rintro e w3' ⟨rfl, hw⟩
  subst hw
  go_wp2_with fail
  refine (refPut4 l v _ (h.below B) hl).mono ?_
  rintro e w5 ⟨y', rfl, oy', b⟩
  replace L := L.below b
  replace B := below_then B b
  replace C := below_then C b
  replace ox := own_below ox b
  replace oy := own_below oy b
  clear b
  go_wp2_with fail
  refine (same _ _ y y' _ (bytes_of_own oy) (bytes_of_own oy')).mono ?_
  rintro e w4' ⟨rfl, hw⟩
  subst hw
  clear ox' oy'
  go_wp2_with fail
  refine (spoilR ox).mono ?_
  rintro e w6 ⟨rfl, g⟩
  replace oy := oy.kept g hap
  replace B := below_spoil B ox hw1 B.size g
  replace C := below_spoil C ox (Nat.le_refl _) C.size g
  clear g ox
  go_wp2_with fail
  refine (spoilR oy).mono ?_
  rintro e w7 ⟨rfl, g⟩
  replace B := below_spoil B oy (by omega) B.size g
  replace C := below_spoil C oy hxb C.size g
  clear g oy L
  have LC := (L1.below C).bytes
  go_wp2_with fail
  refine (on16_at r l u _ LC).mono ?_
  rintro e w8 ⟨rfl, b⟩
  replace B := below_then B b
  replace C := below_then C b
  clear b LC
  go_wp2_with fail
  refine (refOn16 r l v _ (h.below B)).mono ?_
  rintro e w8' ⟨rfl, hw⟩
  subst hw
  go_wp2_with fail
  refine (on32_at q l u _ (L1.below C).bytes).mono ?_
  rintro e w9 ⟨rfl, b⟩
  replace B := below_then B b
  replace C := below_then C b
  clear b
  go_wp2_with fail
  refine (refOn32 q l v _ (h.below B)).mono ?_
  rintro e w9' ⟨rfl, hw⟩
  subst hw
  go_wp2_with fail
  refine (sum16 l u _ (L1.below C).bytes).mono ?_
  rintro e w10 ⟨rfl, b⟩
  replace B := below_then B b
  replace C := below_then C b
  clear b
  go_wp2_with fail
  refine (refSum16 l v _ (h.below B)).mono ?_
  rintro e w9' ⟨rfl, hw⟩
  subst hw
  go_wp2_with fail
  refine (sum32 l u _ (L1.below C).bytes).mono ?_
  rintro e w11 ⟨rfl, b⟩
  replace B := below_then B b
  replace C := below_then C b
  clear b
  go_wp2_with fail
  refine (refSum32 l v _ (h.below B)).mono ?_
  rintro e w9' ⟨rfl, hw⟩
  subst hw
  go_wp2_with fail
  refine (kept l u v _ _ (L1.below C) (h.below B)).mono ?_
  rintro e w12 ⟨rfl, hw⟩
  subst hw
  go_wp2_with fail
  refine (awake _).mono ?_
  rintro e w13 ⟨rfl, b⟩
  go_wp2
  go_ret
  exact ⟨rfl, below_then B b⟩
theorem law_sums (l : List (BitVec 8)) (v : Value) (r q : Int) (w : World) (h : BytesAt w v l) (hl : l.length ≤ 140737488351232) (hr : (Lit.int .u16 r).wf = true) (hq : (Lit.int .u32 q).wf = true) : Calls Try.prog 8 #[v, .int .u16 r, .int .u32 q] w fun e w' => e = .returned (.bool true) ∧ Below w.heap.size w w' := by
  obtain ⟨r, rfl⟩ := as16 hr
  obtain ⟨q, rfl⟩ := as32 hq
  exact sums l v r q w h hl
end Go.Proofs.Ytmfncddgbapocaa.F
