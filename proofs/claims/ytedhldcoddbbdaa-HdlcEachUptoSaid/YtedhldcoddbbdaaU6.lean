import Derived.Test.YtedhldcoddbbdaaU5
set_option linter.unusedVariables false
set_option linter.unusedSimpArgs false
set_option linter.unnecessarySimpa false
namespace Go.Proofs.Ytedhldcoddbbdaa.F
open Go.RowKit Go.Proofs.Ytedhldcoddbbdaa.K
def bt (n : Int) : BitVec 8 := BitVec.ofInt 8 n
theorem wrap_bt (n : Int) : IntKind.u8.wrap n = v8 (bt n) := by
  unfold v8 bt
  rw [BitVec.toNat_ofInt]
  simp [IntKind.wrap, IntKind.bits, IntKind.signed]
  omega
/-- a way of sending -/
structure Sn where
  accm : Int
  pfc : Bool
  acfc : Bool
def Sn.val (s : Sn) : Value := .agg #[.int .i64 s.accm, .bool s.pfc, .bool s.acfc]
def hd1 (lcp acfc : Bool) : List (BitVec 8) := if lcp || !acfc then [255#8, 3#8] else []
def hd2 (n : Int) (lcp pfc : Bool) : List (BitVec 8) := if lcp || (!pfc || decide (255 < n)) then [bt (n / 256)] else []
def lcpB (n : Int) : Bool := decide (n = 49185)
/-- a body without its sum -/
def bareL (n : Int) (s : Sn) (info : List (BitVec 8)) : List (BitVec 8) := hd1 (lcpB n) s.acfc ++ hd2 n (lcpB n) s.pfc ++ [bt n] ++ info
def sumL (l : List (BitVec 8)) : List (BitVec 8) := l ++ sb ((s16 l).setWidth 32) 2
def bodyE (n : Int) (s : Sn) (info : List (BitVec 8)) : Int := if protoB n then (if 16384 < info.length then 4 else if mapB s.accm then 0 else 1) else 30
theorem hd_len (n : Int) (s : Sn) (info : List (BitVec 8)) : (bareL n s info).length ≤ info.length + 4 := by
  unfold bareL hd1 hd2
  simp only [List.length_append]
  split <;> split <;> simp <;> omega
def BodyR (n : Int) (s : Sn) (info : List (BitVec 8)) (w : World) (e : Ending) (w' : World) : Prop := ∃ u, e = .returned (.tuple #[u, .int .i64 0]) ∧ Row w' w.heap.size 5 1 u (sumL (bareL n s info)).length ((sumL (bareL n s info)).map b8) ∧ Below w.heap.size w w'
theorem body_bad (n : Int) (s : Sn) (info : List (BitVec 8)) (v : Value) (w : World) (h : BytesAt w v info) (he : bodyE n s info ≠ 0) : Calls Try.prog 14 #[.agg #[.int .i64 n, v], s.val] w fun e w' => e = .returned (.tuple #[.slice none 0 0, .int .i64 (bodyE n s info)]) ∧ Below w.heap.size w w' := by
  obtain ⟨A, cap, rfl, k1, k2, -, -⟩ := h.at_
  obtain ⟨accm, pfc, acfc⟩ := s
  unfold Sn.val
  unfold maxLen at k2
  clear h
  have HP := Lib.hid (fun W => proto36 n W)
  have HM := Lib.hid (fun W => right37 accm W)
  have hb : Below w.heap.size w ((w.alloc (.cells #[.int .i64 n, .slice A info.length cap] 24)).alloc (.cells #[.int .i64 accm, .bool pfc, .bool acfc] 31)) := ((Below.refl _ w).alloc (Nat.le_refl _) _).alloc (by simp) _
  have HB := Lib.hid hb
  clear hb
  unfold bodyE at *
  cases hp : protoB n
  · rw [hp] at HP he
    simp only [if_neg (show ¬ (false = true) by decide)]
    clear he
    go_enter Try.func14, Try.ntmps14
    go_wp2_with fail
    refine (HP.out _).mono ?_
    rintro e w1 ⟨rfl, rfl⟩
    go_wp2_with fail
    go_ret2
    exact ⟨rfl, HB.out⟩
  · rw [hp] at HP he
    simp only [if_true] at he ⊢
    by_cases hl : 16384 < info.length
    · rw [if_pos hl]
      have hl2 : (16384 : Int) < (info.length : Int) := by omega
      clear he
      go_enter Try.func14, Try.ntmps14
      go_wp2_with fail
      refine (HP.out _).mono ?_
      rintro e w1 ⟨rfl, rfl⟩
      go_wp2_with fail
      go_ret2
      exact ⟨rfl, HB.out⟩
    · have hl2 : ¬ (16384 : Int) < (info.length : Int) := by omega
      rw [if_neg hl] at he ⊢
      cases hm : mapB accm
      · rw [hm] at HM
        simp only [if_neg (show ¬ (false = true) by decide)]
        clear he
        go_enter Try.func14, Try.ntmps14
        go_wp2_with fail
        refine (HP.out _).mono ?_
        rintro e w1 ⟨rfl, rfl⟩
        go_wp2_with fail
        refine (HM.out _).mono ?_
        rintro e w1 ⟨rfl, rfl⟩
        go_wp2_with fail
        go_ret2
        exact ⟨rfl, HB.out⟩
      · rw [hm] at he
        simp at he
end Go.Proofs.Ytedhldcoddbbdaa.F
