import Derived.Test.YtedhldcoddbbdaaS1
set_option linter.unusedVariables false
set_option linter.unusedSimpArgs false
set_option linter.unnecessarySimpa false
namespace Go.Proofs.Ytedhldcoddbbdaa.F
open Go.RowKit Go.Proofs.Ytedhldcoddbbdaa.K
def hx (n : Nat) : BitVec 8 := BitVec.ofNat 8 (if n < 10 then 48 + n else 87 + n)
def hexL : List (BitVec 8) → List (BitVec 8)
  | [] => []
  | c :: r => hx (c.toNat / 16) :: hx (c.toNat % 16) :: hexL r
theorem hexL_append (a b : List (BitVec 8)) : hexL (a ++ b) = hexL a ++ hexL b := by
  induction a with
  | nil => rfl
  | cons x r ih => simp [hexL, ih]
theorem hexL_len (a : List (BitVec 8)) : (hexL a).length = 2 * a.length := by
  induction a with
  | nil => rfl
  | cons x r ih => simp only [hexL, List.length_cons, ih]; omega
set_option maxHeartbeats 4000000 in
set_option maxRecDepth 100000 in
theorem hex42 (l : List (BitVec 8)) (v : Value) (w : World) (h : BytesAt w v l) (hl : l.length ≤ 1024) : Calls Try.prog 42 #[v] w fun e w' => e = .returned (.string (str (hexL l))) ∧ Below w.heap.size w w' := by
  have HI := Lib.hid h
  obtain ⟨A, cap, rfl, k1, k2, -, -⟩ := h.at_
  unfold maxLen at k2
  clear h
  have H0 := Lib.hid (Row.nil w w.heap.size 5 1)
  have HB0 := Lib.hid (Below.refl w.heap.size w)
  go_enter Try.func42, Try.ntmps42
  go_wp2_with fail
  go_loopw [3, 4] (fun o i wr => ∃ (k : Nat), k ≤ l.length ∧ i = .int .i64 k ∧ Hid (Below w.heap.size w wr) ∧ Hid (Row wr w.heap.size 5 1 o (hexL (l.take k)).length ((hexL (l.take k)).map b8))) (fun _ i _ => l.length - (intOf i).toNat)
  case atStart => exact ⟨0, by omega, rfl, HB0, H0⟩
  case round =>
    obtain ⟨k, hk, rfl, HB, HR0⟩ := hrel
    obtain ⟨mm, hm⟩ : ∃ mm, mm = hexL (l.take k) := ⟨_, rfl⟩
    rw [← hm] at HR0
    have HR := HR0
    clear HR0
    have HML := Lib.hid (show mm.length ≤ 2048 by rw [hm, hexL_len, List.length_take]; omega)
    have HM := Lib.hid hm
    clear hm
    obtain ⟨A2, cp2, hu, q1, q2⟩ := Row.slice HR.out
    subst hu
    have HI2 := Lib.hid (HI.out.below HB.out)
    by_cases hkl : k < l.length
    · obtain ⟨b, o, hA, d00⟩ := BytesAt.get HI.out hkl
      subst hA
      have hbw : b < w.heap.size := World.block_lt_of_cell? w _ d00
      have d0 := (HB.out.cell (p := ⟨b, o + k, none⟩) hbw).trans d00
      clear d00
      have i0 : (0 : Int) ≤ (k : Int) := by omega
      have i1 : (k : Int) < (l.length : Int) := by omega
      obtain ⟨c, hc⟩ : ∃ c, c = l[k] := ⟨_, rfl⟩
      rw [← hc] at d0
      have HC := Lib.hid hc
      clear hc
      have hcl := c.isLt
      obtain ⟨hi, hhi⟩ : ∃ n : Nat, n = c.toNat / 16 := ⟨_, rfl⟩
      obtain ⟨lo, hlo⟩ : ∃ n : Nat, n = c.toNat % 16 := ⟨_, rfl⟩
      have n1 : IntKind.u8.wrap ((v8 c).tdiv 16) = (hi : Int) := by unfold v8; rw [hhi]; simp [IntKind.wrap, IntKind.bits, IntKind.signed]; omega
      have n2 : (v8 c).tmod 16 = (lo : Int) := by unfold v8; rw [hlo, Int.tmod_eq_emod_of_nonneg (by omega)]; omega
      have p1 : (0 : Int) ≤ (hi : Int) := by omega
      have p2 : (hi : Int) < 16 := by omega
      have p3 : (0 : Int) ≤ (lo : Int) := by omega
      have p4 : (lo : Int) < 16 := by omega
      have p5 : hi < 16 := by omega
      have p6 : lo < 16 := by omega
      have HH := Lib.hid hhi
      have HLo := Lib.hid hlo
      clear hhi hlo hcl
      go_wp2_with fail
      have s1 : mm.length + 2 ≤ maxLen := by have := HML.out; unfold maxLen; omega
      have s2 : (mm.length + 2) * 1 ≤ 140737488355328 := by have := HML.out; omega
      have hbs := HB.out.size
      have HD9 : Hid (∀ (u : Obj) (v9 : Value) (w9 : World) (xs : List Value) (n : Nat), RowR (wr.alloc u).drew w9 w.heap.size 5 1 (.slice A2 mm.length cp2) v9 n xs → w9.cell? ⟨b, o + k, none⟩ = some (.int .u8 (v8 c)) ∧ Below w.heap.size w w9) := Lib.hid (fun u v9 w9 xs n hr9 => by
        have hbb : Below wr.heap.size wr (wr.alloc u).drew := ((Below.refl _ _).alloc (Nat.le_refl _) _).drew
        have e0 := (hbb.cell (p := ⟨b, o + k, none⟩) (Nat.lt_of_lt_of_le hbw hbs)).trans d0
        refine ⟨hr9.grow.cell e0 (fun e => ?_), (HB.out.trans (hbb.mono hbs)).grown hr9.grow (Nat.le_trans hbs hbb.size) (fun q e => (Row.live HR.out e).1)⟩
        have := (Row.live HR.out e.symm).1
        exact absurd hbw (Nat.not_lt.2 this))
      go_region_held3 (fun w' => w'.cell? ⟨b, o + k, none⟩ = some (.int .u8 (v8 c))) (first | exact d0 | exact d9 | go_keep) ((refine step_row elB rfl _ _ rfl w.heap.size _ _ _ rfl (HR.out.below (((Below.refl _ _).alloc (Nat.le_refl _) _).drew)) _ 2 _ rfl (src_drew (src_two _ _ _ 5 rfl rfl)) s1 s2 (by simp; omega) ?_; intro v9 w9 hr9; have H9 := Lib.hid (HD9.out _ _ _ _ _ hr9); have HR9 := Lib.hid hr9.row; have d9 := H9.out.1; clear hr9))
      go_wp2_with fail
      go_roundw
      case rel =>
        refine ⟨k + 1, by omega, by go_num, Lib.hid H9.out.2, Lib.hid ?_⟩
        have hx1 : hexL (l.take (k + 1)) = mm ++ [hx hi, hx lo] := by
          rw [List.take_succ_eq_append_getElem hkl, hexL_append, ← HM.out, HH.out, HLo.out, HC.out]
          rfl
        have := HR9.out
        rw [hx1, List.length_append, List.map_append]
        have d1 : ∀ n : Nat, (h : n < 16) → (Value.int IntKind.u8 ((#[48, 49, 50, 51, 52, 53, 54, 55, 56, 57, 97, 98, 99, 100, 101, 102] : Array UInt8)[n]'h).toNat) = b8 (hx n) := fun n h => by
          have d2 : ∀ n : Fin 16, ((#[48, 49, 50, 51, 52, 53, 54, 55, 56, 57, 97, 98, 99, 100, 101, 102] : Array UInt8)[n.1]'n.2).toNat = (hx n.1).toNat := by decide
          unfold b8 v8
          rw [d2 ⟨n, h⟩]
        rw [show [hx hi, hx lo].map b8 = [b8 (hx hi), b8 (hx lo)] from rfl, ← d1 hi p5, ← d1 lo p6]
        exact this
      case measure => simp [intOf]; omega
      case roundEnd =>
        refine ⟨⟨k + 1, by omega, by go_num, Lib.hid H9.out.2, Lib.hid ?_⟩, by simp [intOf]; omega⟩
        have hx1 : hexL (l.take (k + 1)) = mm ++ [hx hi, hx lo] := by
          rw [List.take_succ_eq_append_getElem hkl, hexL_append, ← HM.out, HH.out, HLo.out, HC.out]
          rfl
        have := HR9.out
        rw [hx1, List.length_append, List.map_append]
        have d1 : ∀ n : Nat, (h : n < 16) → (Value.int IntKind.u8 ((#[48, 49, 50, 51, 52, 53, 54, 55, 56, 57, 97, 98, 99, 100, 101, 102] : Array UInt8)[n]'h).toNat) = b8 (hx n) := fun n h => by
          have d2 : ∀ n : Fin 16, ((#[48, 49, 50, 51, 52, 53, 54, 55, 56, 57, 97, 98, 99, 100, 101, 102] : Array UInt8)[n.1]'n.2).toNat = (hx n.1).toNat := by decide
          unfold b8 v8
          rw [d2 ⟨n, h⟩]
        rw [show [hx hi, hx lo].map b8 = [b8 (hx hi), b8 (hx lo)] from rfl, ← d1 hi p5, ← d1 lo p6]
        exact this
    · obtain rfl : k = l.length := by omega
      have HF : Hid (BytesAt wr (.slice A2 mm.length cp2) mm) := Lib.hid (RowB.bytes (HR.out.weak (Nat.zero_le _)))
      have HMM : Hid (mm = hexL l) := Lib.hid (by rw [HM.out, List.take_length])
      have hs2 := BytesAt.string (P := Try.prog) HF.out Try.underlying22 Try.underlying5 Try.underlying9
      go_wp2_with fail
      go_ret
      exact ⟨by rw [← HMM.out]; rfl, HB.out⟩
end Go.Proofs.Ytedhldcoddbbdaa.F
