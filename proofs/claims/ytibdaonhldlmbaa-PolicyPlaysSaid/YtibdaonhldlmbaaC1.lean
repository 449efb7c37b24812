import Derived.Test.YtibdaonhldlmbaaB8
set_option linter.unusedVariables false
set_option linter.unusedSimpArgs false
namespace Go.Proofs.Ytibdaonhldlmbaa.F
open Go.RowKit Go.Proofs.Ytibdaonhldlmbaa.K
/-- a configuration, cell by cell -/
structure Cf where
  x0 : ByteArray
  x1 : ByteArray
  x2 : Int
  x3 : Option Addr
  x3l : Nat
  x3c : Nat
  x4 : Int
  x5 : Int
  x6 : Bool
  x7 : Bool
  x8 : Bool
  x9 : Int
  x10 : Int
  x11 : Int
  x12 : Int
  x13 : Bool
  x14 : Bool
  x15 : Int
  x16 : Int
  x17 : Int
  x18 : Int
  x19 : Int
  x20 : Int
  x21 : Int
  x22 : Int
  x23 : Int
  x24 : Int
  id : Int
  se : Int
  ho : Int
  pe : Bool
  de : Bool
  mf : Int
  x31 : ByteArray
  x32 : ByteArray
def Cf.cells (c : Cf) : Array Value := #[.string c.x0, .string c.x1, .int .i64 c.x2, .slice c.x3 c.x3l c.x3c, .int .i64 c.x4, .int .i64 c.x5, .bool c.x6, .bool c.x7, .bool c.x8, .int .i64 c.x9, .int .i64 c.x10, .int .i64 c.x11, .int .i64 c.x12, .bool c.x13, .bool c.x14, .int .u64 c.x15, .int .i64 c.x16, .int .i64 c.x17, .int .i64 c.x18, .int .i64 c.x19, .int .i64 c.x20, .int .i64 c.x21, .int .i64 c.x22, .int .i64 c.x23, .int .i64 c.x24, .int .i64 c.id, .int .i64 c.se, .int .i64 c.ho, .bool c.pe, .bool c.de, .int .i64 c.mf, .string c.x31, .string c.x32]
def Cf.v (c : Cf) : Value := .agg c.cells
def spanOk (n : Int) : Bool := decide (0 ≤ n) && decide (n ≤ 2147483648)
def Cf.ok (c : Cf) : Bool := spanOk c.ho && spanOk c.id && spanOk c.se && decide (0 ≤ c.mf) && decide (c.mf ≤ 65535)
def Cf.pol (c : Cf) : Pol := ⟨c.de, c.pe, c.ho, c.id, c.se, c.mf, 0, 0, 0, 0, 0, false, 0, 0⟩
theorem span22 (n : Int) (w : World) : Calls Try.prog 22 #[.int .i64 n] w fun e w' => e = .returned (.bool (spanOk n)) ∧ w' = w := by
  unfold spanOk
  by_cases h : 0 ≤ n
  · have h1 : decide (0 ≤ n) = true := by simpa using h
    rw [h1]
    go_enter Try.func22, Try.ntmps22
    go_wp2
    go_ret
    exact ⟨by simp, rfl⟩
  · have h1 : decide (0 ≤ n) = false := by simpa using h
    rw [h1]
    go_enter Try.func22, Try.ntmps22
    go_wp2
    go_ret
    exact ⟨by simp, rfl⟩
structure NewR (c : Cf) (w : World) (e : Ending) (w' : World) : Prop where
  ret : e = .returned (.tuple #[.pointer (some ⟨w.heap.size + 1, 0, none⟩), .int .i64 0])
  obj : PolAt w' (w.heap.size + 1) c.pol
  bel : Below w.heap.size w w'
set_option maxHeartbeats 4000000 in
set_option maxRecDepth 100000 in
theorem new8_bad (c : Cf) (w : World) (h : c.ok = false) : Calls Try.prog 8 #[c.v] w fun e w' => e = .returned (.tuple #[.pointer none, .int .i64 1]) ∧ Below w.heap.size w w' := by
  have hb : Below w.heap.size w (w.alloc (.cells c.cells 25)) := (Below.refl _ _).alloc (Nat.le_refl _) _
  simp only [Cf.v, Cf.cells] at hb ⊢
  have S1 := Lib.hid (span22 c.ho)
  have S2 := Lib.hid (span22 c.id)
  have S3 := Lib.hid (span22 c.se)
  unfold Cf.ok at h
  cases h1 : spanOk c.ho
  · rw [h1] at S1
    clear h h1
    go_enter Try.func8, Try.ntmps8
    go_wp2_with fail
    refine (S1.out _).mono ?_
    rintro e w1 ⟨rfl, rfl⟩
    go_wp2_with fail
    go_ret2
    exact ⟨rfl, hb⟩
  · rw [h1] at S1
    cases h2 : spanOk c.id
    · rw [h2] at S2
      clear h h1 h2
      go_enter Try.func8, Try.ntmps8
      go_wp2_with fail
      refine (S1.out _).mono ?_
      rintro e w1 ⟨rfl, rfl⟩
      go_wp2_with fail
      refine (S2.out _).mono ?_
      rintro e w1 ⟨rfl, rfl⟩
      go_wp2_with fail
      go_ret2
      exact ⟨rfl, hb⟩
    · rw [h2] at S2
      cases h3 : spanOk c.se
      · rw [h3] at S3
        clear h h1 h2 h3
        go_enter Try.func8, Try.ntmps8
        go_wp2_with fail
        refine (S1.out _).mono ?_
        rintro e w1 ⟨rfl, rfl⟩
        go_wp2_with fail
        refine (S2.out _).mono ?_
        rintro e w1 ⟨rfl, rfl⟩
        go_wp2_with fail
        refine (S3.out _).mono ?_
        rintro e w1 ⟨rfl, rfl⟩
        go_wp2_with fail
        go_ret2
        exact ⟨rfl, hb⟩
      · rw [h3] at S3
        by_cases h4 : c.mf < 0
        · clear h h1 h2 h3
          go_enter Try.func8, Try.ntmps8
          go_wp2_with fail
          refine (S1.out _).mono ?_
          rintro e w1 ⟨rfl, rfl⟩
          go_wp2_with fail
          refine (S2.out _).mono ?_
          rintro e w1 ⟨rfl, rfl⟩
          go_wp2_with fail
          refine (S3.out _).mono ?_
          rintro e w1 ⟨rfl, rfl⟩
          go_wp2_with fail
          go_ret2
          exact ⟨rfl, hb⟩
        · have h5 : 65535 < c.mf := by
            simp [h1, h2, h3] at h
            omega
          clear h h1 h2 h3
          go_enter Try.func8, Try.ntmps8
          go_wp2_with fail
          refine (S1.out _).mono ?_
          rintro e w1 ⟨rfl, rfl⟩
          go_wp2_with fail
          refine (S2.out _).mono ?_
          rintro e w1 ⟨rfl, rfl⟩
          go_wp2_with fail
          refine (S3.out _).mono ?_
          rintro e w1 ⟨rfl, rfl⟩
          go_wp2_with fail
          go_ret2
          exact ⟨rfl, hb⟩
set_option maxHeartbeats 4000000 in
set_option maxRecDepth 100000 in
theorem new8 (c : Cf) (w : World) (h : c.ok = true) : Calls Try.prog 8 #[c.v] w (NewR c w) := by
  have hb : Below w.heap.size w ((w.alloc (.cells c.cells 25)).alloc (.cells c.pol.cells 59)) := below_a2 w _ _
  have hp : PolAt ((w.alloc (.cells c.cells 25)).alloc (.cells c.pol.cells 59)) (w.heap.size + 1) c.pol := ⟨by
    have := heap_alloc_new (w.alloc (.cells c.cells 25)) (.cells c.pol.cells 59)
    simpa using this⟩
  simp only [Cf.v, Cf.cells, Cf.pol, Pol.cells] at hb hp ⊢
  have S1 := Lib.hid (span22 c.ho)
  have S2 := Lib.hid (span22 c.id)
  have S3 := Lib.hid (span22 c.se)
  unfold Cf.ok at h
  simp only [Bool.and_eq_true, decide_eq_true_eq] at h
  obtain ⟨⟨⟨⟨h1, h2⟩, h3⟩, h4⟩, h5⟩ := h
  rw [h1] at S1
  rw [h2] at S2
  rw [h3] at S3
  clear h1 h2 h3
  have h6 : ¬ c.mf < 0 := by omega
  have h7 : ¬ 65535 < c.mf := by omega
  go_enter Try.func8, Try.ntmps8
  go_wp2_with fail
  refine (S1.out _).mono ?_
  rintro e w1 ⟨rfl, rfl⟩
  go_wp2_with fail
  refine (S2.out _).mono ?_
  rintro e w1 ⟨rfl, rfl⟩
  go_wp2_with fail
  refine (S3.out _).mono ?_
  rintro e w1 ⟨rfl, rfl⟩
  go_wp2_with fail
  go_ret2
  exact ⟨rfl, hp, hb⟩
end Go.Proofs.Ytibdaonhldlmbaa.F
