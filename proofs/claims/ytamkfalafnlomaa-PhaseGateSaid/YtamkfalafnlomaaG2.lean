import Derived.Test.YtamkfalafnlomaaG1
import Derived.Test.YtamkfalafnlomaaF1
set_option linter.unusedVariables false
set_option linter.unusedSimpArgs false
namespace Go.Proofs.Ytamkfalafnlomaa.F
open Go.RowKit Go.Proofs.Ytamkfalafnlomaa.K
theorem below_two {B : Nat} {w0 w w' : World} {g r : Nat} (hb : Below B w0 w) (h : Two w w' g r) (hl : B ≤ w.heap.size) (hg : B ≤ g) (hr : B ≤ r) : Below B w0 w' :=
  hb.trans ⟨h.os, h.tape, h.output, h.size, fun k hk => h.block k (by omega) (by omega) (by omega)⟩
theorem TkAt.two {w w' : World} {ty : TypeId} {x g r : Nat} {T : Tk} (h : TkAt w ty x T) (h2 : Two w w' g r) (h3 : x ≠ g) (h4 : x ≠ r) : TkAt w' ty x T := ⟨(h2.block x h.lt h3 h4).trans h.blk⟩
theorem same_nil2 (g : Nat) (w : World) : Calls Try.prog 24 #[.pointer (some ⟨g, 0, none⟩), .pointer none] w fun e w' => e = .returned (.bool false) ∧ ∃ n, w' = w.drewN n := by
  go_enter Try.func24, Try.ntmps24
  go_wp2
  go_quiet (fail)
  go_wp2
  go_ret
  exact ⟨rfl, _, rfl⟩
def Tk.run (T : Tk) : List O → Tk
  | [] => T
  | o :: l => (T.step o).run l
theorem run_snoc (T : Tk) (l : List O) (o : O) : T.run (l ++ [o]) = (T.run l).step o := by
  induction l generalizing T with
  | nil => rfl
  | cons x l ih => exact ih _
theorem zero_ok : Tk.zero.ok 0 := by unfold Tk.ok Tk.zero; decide
theorem run_ok (l : List O) {T : Tk} {N : Int} (h : T.ok N) : (T.run l).ok (N + l.length) := by
  induction l generalizing T N with
  | nil => simpa [Tk.run] using h
  | cons o l ih =>
    have := ih (ok_step (o := o) h)
    simp only [List.length_cons]
    rw [show N + ((l.length + 1 : Nat) : Int) = N + 1 + (l.length : Int) by omega]
    exact this
theorem TkAt.mk4 {W : World} {ty : TypeId} {g : Nat} {T : Tk} {cs : Array Value} (h : W.heap[g]? = some (.cells cs ty (0, 0))) (e : cs = tk T) : TkAt W ty g T := ⟨by rw [← e]; exact h⟩
theorem heap_old {w : World} {o : Obj} {i : Nat} {x : Option Obj} (h : i < w.heap.size) (e : w.heap[i]? = x) : (w.alloc o).heap[i]? = x := (heap_alloc_old w o h).trans e
theorem heap_new {W : World} {o : Obj} {n : Nat} (h : n = W.heap.size) : (W.alloc o).heap[n]? = some o := by rw [h]; exact heap_alloc_new W o
theorem take_run (l : List O) (k : Nat) (h : k < l.length) : Tk.zero.run (l.take (k + 1)) = (Tk.zero.run (l.take k)).step l[k] := by
  rw [List.take_succ_eq_append_getElem h, run_snoc]
theorem take_ok (l : List O) (k : Nat) : (Tk.zero.run (l.take k)).ok k := by
  have := run_ok (l.take k) zero_ok
  unfold Tk.ok at *
  have h : ((l.take k).length : Int) ≤ k := by simp; omega
  omega
set_option maxHeartbeats 4000000 in
theorem law_plays (l : List O) (v : Value) (m : List O) (u : Value) (w : World) (h : RecsAt w v 4 O.cells l) (h' : RecsAt w u 4 O.cells m) :
    Calls Try.prog 7 #[v, u] w fun e w' => e = .returned (.bool true) ∧ Below w.heap.size w w' := by
  have H := Lib.hid h
  have H' := Lib.hid h'
  obtain ⟨A, cap, rfl, k1, k2, k3, k4⟩ := h
  obtain ⟨A', cap', rfl, k1', k2', k3', k4'⟩ := h'
  unfold maxLen at k2 k2'
  have K3 := Lib.hid k3
  have K3' := Lib.hid k3'
  clear k3 k4 k3' k4'
  go_enter Try.func7, Try.ntmps7
  go_upto_block 0 with (go_at_call 14; refine (new14 _).mono ?_; rintro E w1 ⟨rfl, rfl⟩)
  generalize hW : World.alloc (World.alloc (World.alloc (World.alloc _ _) _) _) _ = W
  have hb0 : Below w.heap.size w W := by rw [← hW]; exact ((((Below.refl _ w).alloc (Nat.le_refl _) _).alloc (by simp) _).alloc (by simp; omega) _).alloc (by simp; omega) _
  have HT : Hid (TkAt W 59 w.heap.size Tk.zero) := by
    rw [← hW]; exact Lib.hid (TkAt.mk4 (heap_old (by simp; omega) (heap_old (by simp; omega) (heap_old (by simp) (heap_alloc_new _ _)))) rfl)
  have HU : Hid (TkAt W 59 (w.heap.size + 1) Tk.zero) := by
    rw [← hW]; exact Lib.hid (TkAt.mk4 (heap_old (by simp) (heap_old (by simp) (heap_alloc2_new _ _ _))) rfl)
  have HR : Hid (TkAt W 43 (w.heap.size + 1 + 1) Tk.zero) := by
    rw [← hW]; exact Lib.hid (TkAt.mk4 (heap_old (by simp) (heap_new (by simp))) rfl)
  have HS : Hid (TkAt W 43 (w.heap.size + 1 + 1 + 1) Tk.zero) := by
    rw [← hW]; exact Lib.hid (TkAt.mk4 (heap_new (by simp)) rfl)
  clear hW
  go_cut [9, 10] from 27 to 39 (fun _ _ wx => ∃ T : Tk, T.ok 300 ∧ Hid (TkAt wx 59 w.heap.size T) ∧ Hid (TkAt wx 43 (w.heap.size + 1 + 1) T) ∧ Hid (TkAt wx 59 (w.heap.size + 1) Tk.zero) ∧ Hid (TkAt wx 43 (w.heap.size + 1 + 1 + 1) Tk.zero) ∧ Below w.heap.size w wx)
  case first =>
    go_wp2_with fail
    go_loopw [9, 10, 27] (fun _ _ i wr => ∃ k : Nat, k ≤ l.length ∧ k ≤ 300 ∧ i = .int .i64 k ∧ Hid (TkAt wr 59 w.heap.size (Tk.zero.run (l.take k))) ∧ Hid (TkAt wr 43 (w.heap.size + 1 + 1) (Tk.zero.run (l.take k))) ∧ Hid (TkAt wr 59 (w.heap.size + 1) Tk.zero) ∧ Hid (TkAt wr 43 (w.heap.size + 1 + 1 + 1) Tk.zero) ∧ Below w.heap.size w wr) (fun _ _ i _ => 300 - (intOf i).toNat)
    case atStart => exact ⟨0, by omega, by omega, rfl, HT, HR, HU, HS, hb0⟩
    case round =>
      clear HT HU HR HS hb0 W
      obtain ⟨k, hk, hk3, rfl, HT, HR, HU, HS, hB⟩ := hrel
      by_cases hkl : k < l.length
      · by_cases hk300 : k < 300
        · obtain ⟨A', cap', e, -, -, -, hc⟩ := (H.out.below hB).at_
          cases e
          obtain ⟨ad, rfl⟩ : ∃ ad, A = some ad := by
            cases A with
            | none => rw [K3.out rfl] at hkl; cases hkl
            | some ad => exact ⟨ad, rfl⟩
          obtain ⟨b, o, rfl, hlt, hc⟩ := hc ad rfl k hkl
          have c0 := hc 0 (.int .i64 l[k].k) rfl
          have c1 := hc 1 (.int .i64 l[k].ev) rfl
          have c2 := hc 2 (.bool l[k].a) rfl
          have c3 := hc 3 (.bool l[k].b) rfl
          clear hc
          simp only [Nat.add_zero] at c0
          have hd : decide ((300 : Int) ≤ (k : Int)) = false := by simp; omega
          have hi0 : (0 : Int) ≤ (k : Int) := by omega
          have hia : (k : Int) < (l.length : Int) := by omega
          go_wp2_with fail
          have hb1 : Below wr.heap.size wr (wr.alloc (.cells #[.int .i64 l[k].k, .int .i64 l[k].ev, .bool l[k].a, .bool l[k].b] 32)) := (Below.refl _ wr).alloc (Nat.le_refl _) _
          have B := (hB.trans (hb1.mono hB.size))
          have HT1 := HT.out.below hb1
          have HR1 := HR.out.below hb1
          have HU1 := HU.out.below hb1
          have HS1 := HS.out.below hb1
          refine (step23 _ _ _ l[k] k _ HT1 HR1 (by omega) (take_ok l k) (by rw [← take_run l k hkl]; exact take_ok l (k + 1)) (by omega)).mono ?_
          rintro e w2 ⟨rfl, h1, h2, h3⟩
          rw [← take_run l k hkl] at h1 h2
          go_wp2
          go_roundw
          case rel =>
            exact ⟨k + 1, by omega, by omega, by go_num, h1, h2, HU1.two h3 (by omega) (by omega), HS1.two h3 (by omega) (by omega), below_two B h3 B.size (by omega) (by omega)⟩
          case measure => simp [intOf]; omega
        · have hd : decide ((300 : Int) ≤ (k : Int)) = true := by simp; omega
          obtain ⟨A', cap', e, -, -, -, hc⟩ := (H.out.below hB).at_
          cases e
          obtain ⟨ad, rfl⟩ : ∃ ad, A = some ad := by
            cases A with
            | none => rw [K3.out rfl] at hkl; cases hkl
            | some ad => exact ⟨ad, rfl⟩
          obtain ⟨b, o, rfl, hlt, hc⟩ := hc ad rfl k hkl
          have c0 := hc 0 (.int .i64 l[k].k) rfl
          have c1 := hc 1 (.int .i64 l[k].ev) rfl
          have c2 := hc 2 (.bool l[k].a) rfl
          have c3 := hc 3 (.bool l[k].b) rfl
          clear hc
          simp only [Nat.add_zero] at c0
          have hi0 : (0 : Int) ≤ (k : Int) := by omega
          have hia : (k : Int) < (l.length : Int) := by omega
          have hb1 : Below wr.heap.size wr (wr.alloc (.cells #[.int .i64 l[k].k, .int .i64 l[k].ev, .bool l[k].a, .bool l[k].b] 32)) := (Below.refl _ wr).alloc (Nat.le_refl _) _
          have B := (hB.trans (hb1.mono hB.size))
          have HT1 := HT.out.below hb1
          have HR1 := HR.out.below hb1
          have HU1 := HU.out.below hb1
          have HS1 := HS.out.below hb1
          go_wp2_with fail
          go_meet
          exact ⟨_, by have := take_ok l k; unfold Tk.ok at *; omega, HT1, HR1, HU1, HS1, B⟩
      · obtain rfl : k = l.length := by omega
        go_wp2_with fail
        go_meet
        exact ⟨_, by have := take_ok l l.length; unfold Tk.ok at *; omega, HT, HR, HU, HS, hB⟩
  case rest =>
    obtain ⟨T, hT, HT, HR, HU, HS, hb0⟩ := hcut
    go_upto_block 2 with fail
    go_cut [11, 12] from 42 to 54 (fun _ _ wx => ∃ U : Tk, U.ok 300 ∧ Hid (TkAt wx 59 w.heap.size T) ∧ Hid (TkAt wx 43 (w.heap.size + 1 + 1) T) ∧ Hid (TkAt wx 59 (w.heap.size + 1) U) ∧ Hid (TkAt wx 43 (w.heap.size + 1 + 1 + 1) U) ∧ Below w.heap.size w wx)
    case first =>
      go_wp2_with fail
      go_loopw [11, 12, 42] (fun _ _ i wr => ∃ k : Nat, k ≤ m.length ∧ k ≤ 300 ∧ i = .int .i64 k ∧ Hid (TkAt wr 59 w.heap.size T) ∧ Hid (TkAt wr 43 (w.heap.size + 1 + 1) T) ∧ Hid (TkAt wr 59 (w.heap.size + 1) (Tk.zero.run (m.take k))) ∧ Hid (TkAt wr 43 (w.heap.size + 1 + 1 + 1) (Tk.zero.run (m.take k))) ∧ Below w.heap.size w wr) (fun _ _ i _ => 300 - (intOf i).toNat)
      case atStart => exact ⟨0, by omega, by omega, rfl, HT, HR, HU, HS, hb0⟩
      case round =>
        clear HT HU HR HS hb0 wc
        obtain ⟨k, hk, hk3, rfl, HT, HR, HU, HS, hB⟩ := hrel
        by_cases hkl : k < m.length
        · by_cases hk300 : k < 300
          · obtain ⟨A9, cap9, e, -, -, -, hc⟩ := (H'.out.below hB).at_
            cases e
            obtain ⟨ad, rfl⟩ : ∃ ad, A' = some ad := by
              cases A' with
              | none => rw [K3'.out rfl] at hkl; cases hkl
              | some ad => exact ⟨ad, rfl⟩
            obtain ⟨b, o, rfl, hlt, hc⟩ := hc ad rfl k hkl
            have c0 := hc 0 (.int .i64 m[k].k) rfl
            have c1 := hc 1 (.int .i64 m[k].ev) rfl
            have c2 := hc 2 (.bool m[k].a) rfl
            have c3 := hc 3 (.bool m[k].b) rfl
            clear hc
            simp only [Nat.add_zero] at c0
            have hd : decide ((300 : Int) ≤ (k : Int)) = false := by simp; omega
            have hi0 : (0 : Int) ≤ (k : Int) := by omega
            have hia : (k : Int) < (m.length : Int) := by omega
            go_wp2_with fail
            have hb1 : Below wr.heap.size wr (wr.alloc (.cells #[.int .i64 m[k].k, .int .i64 m[k].ev, .bool m[k].a, .bool m[k].b] 32)) := (Below.refl _ wr).alloc (Nat.le_refl _) _
            have B := (hB.trans (hb1.mono hB.size))
            have HT1 := HT.out.below hb1
            have HR1 := HR.out.below hb1
            have HU1 := HU.out.below hb1
            have HS1 := HS.out.below hb1
            refine (step23 _ _ _ m[k] k _ HU1 HS1 (by omega) (take_ok m k) (by rw [← take_run m k hkl]; exact take_ok m (k + 1)) (by omega)).mono ?_
            rintro e w2 ⟨rfl, h1, h2, h3⟩
            rw [← take_run m k hkl] at h1 h2
            go_wp2
            go_roundw
            case rel =>
              exact ⟨k + 1, by omega, by omega, by go_num, HT1.two h3 (by omega) (by omega), HR1.two h3 (by omega) (by omega), h1, h2, below_two B h3 B.size (by omega) (by omega)⟩
            case measure => simp [intOf]; omega
          · have hd : decide ((300 : Int) ≤ (k : Int)) = true := by simp; omega
            obtain ⟨A9, cap9, e, -, -, -, hc⟩ := (H'.out.below hB).at_
            cases e
            obtain ⟨ad, rfl⟩ : ∃ ad, A' = some ad := by
              cases A' with
              | none => rw [K3'.out rfl] at hkl; cases hkl
              | some ad => exact ⟨ad, rfl⟩
            obtain ⟨b, o, rfl, hlt, hc⟩ := hc ad rfl k hkl
            have c0 := hc 0 (.int .i64 m[k].k) rfl
            have c1 := hc 1 (.int .i64 m[k].ev) rfl
            have c2 := hc 2 (.bool m[k].a) rfl
            have c3 := hc 3 (.bool m[k].b) rfl
            clear hc
            simp only [Nat.add_zero] at c0
            have hi0 : (0 : Int) ≤ (k : Int) := by omega
            have hia : (k : Int) < (m.length : Int) := by omega
            have hb1 : Below wr.heap.size wr (wr.alloc (.cells #[.int .i64 m[k].k, .int .i64 m[k].ev, .bool m[k].a, .bool m[k].b] 32)) := (Below.refl _ wr).alloc (Nat.le_refl _) _
            have B := (hB.trans (hb1.mono hB.size))
            have HT1 := HT.out.below hb1
            have HR1 := HR.out.below hb1
            have HU1 := HU.out.below hb1
            have HS1 := HS.out.below hb1
            go_wp2_with fail
            go_meet
            exact ⟨_, by have := take_ok m k; unfold Tk.ok at *; omega, HT1, HR1, HU1, HS1, B⟩
        · obtain rfl : k = m.length := by omega
          go_wp2_with fail
          go_meet
          exact ⟨_, by have := take_ok m m.length; unfold Tk.ok at *; omega, HT, HR, HU, HS, hB⟩
    case rest =>
      obtain ⟨U, hU, HT, HR, HU, HS, hB⟩ := hcut
      obtain ⟨f, f1, f2, f3, hf⟩ : ∃ f : Nat → Nat → Bool, f w.heap.size (w.heap.size + 1) = T.same U ∧ f (w.heap.size + 1) w.heap.size = T.same U ∧ f w.heap.size w.heap.size = true ∧
          ∀ (p q : Nat) (W : World), (p = w.heap.size ∨ p = w.heap.size + 1) → (q = w.heap.size ∨ q = w.heap.size + 1) → W.heap = wc.heap → Calls Try.prog 24 #[.pointer (some ⟨p, 0, none⟩), .pointer (some ⟨q, 0, none⟩)] W fun e w' => e = .returned (.bool (f p q)) ∧ ∃ n, w' = W.drewN n := by
        have at_ : ∀ p, (p = w.heap.size ∨ p = w.heap.size + 1) → ∀ W : World, W.heap = wc.heap → TkAt W 59 p (if p = w.heap.size then T else U) ∧ (if p = w.heap.size then T else U).ok 300 := by
          intro p hp W e
          rcases hp with rfl | rfl
          · rw [if_pos rfl]; exact ⟨⟨by rw [e]; exact HT.out.blk⟩, hT⟩
          · rw [if_neg (by omega)]; exact ⟨⟨by rw [e]; exact HU.out.blk⟩, hU⟩
        refine ⟨fun p q => (if p = w.heap.size then T else U).same (if q = w.heap.size then T else U), by simp, by simp [same_comm], by simp [same_refl], fun p q W hp hq e => ?_⟩
        exact same24 p q _ _ 300 W (at_ p hp W e).1 (at_ q hq W e).1 (at_ p hp W e).2 (at_ q hq W e).2 (by decide)
      have hF := Lib.hid hf
      clear hf
      have he := fun w => eq43 T U 300 hT hU (by decide) w
      simp only [tk] at he
      generalize T.same U = x at *
      have c0 := HR.out.c0
      have d0 := HS.out.c0
      have c1 := HR.out.c1
      have d1 := HS.out.c1
      have c2 := HR.out.c2
      have d2 := HS.out.c2
      have c3 := HR.out.c3
      have d3 := HS.out.c3
      have c4 := HR.out.c4
      have d4 := HS.out.c4
      have c5 := HR.out.c5
      have d5 := HS.out.c5
      have c6 := HR.out.c6
      have d6 := HS.out.c6
      have c7 := HR.out.c7
      have d7 := HS.out.c7
      have c8 := HR.out.c8
      have d8 := HS.out.c8
      have c9 := HR.out.c9
      have d9 := HS.out.c9
      go_wp2_with fail
      go_region_held3 (fun w' => w'.cell? ⟨w.heap.size + 1 + 1, 0, none⟩ = some (.int .i64 T.ph) ∧ w'.cell? ⟨w.heap.size + 1 + 1, 1, none⟩ = some (.bool T.ma) ∧ w'.cell? ⟨w.heap.size + 1 + 1, 2, none⟩ = some (.bool T.mb) ∧ w'.cell? ⟨w.heap.size + 1 + 1, 3, none⟩ = some (.bool T.ia) ∧ w'.cell? ⟨w.heap.size + 1 + 1, 4, none⟩ = some (.bool T.ib) ∧ w'.cell? ⟨w.heap.size + 1 + 1, 5, none⟩ = some (.int .i64 T.t0) ∧ w'.cell? ⟨w.heap.size + 1 + 1, 6, none⟩ = some (.int .i64 T.t1) ∧ w'.cell? ⟨w.heap.size + 1 + 1, 7, none⟩ = some (.int .i64 T.t2) ∧ w'.cell? ⟨w.heap.size + 1 + 1, 8, none⟩ = some (.int .i64 T.t3) ∧ w'.cell? ⟨w.heap.size + 1 + 1, 9, none⟩ = some (.int .i64 T.t4) ∧ w'.cell? ⟨w.heap.size + 1 + 1 + 1, 0, none⟩ = some (.int .i64 U.ph) ∧ w'.cell? ⟨w.heap.size + 1 + 1 + 1, 1, none⟩ = some (.bool U.ma) ∧ w'.cell? ⟨w.heap.size + 1 + 1 + 1, 2, none⟩ = some (.bool U.mb) ∧ w'.cell? ⟨w.heap.size + 1 + 1 + 1, 3, none⟩ = some (.bool U.ia) ∧ w'.cell? ⟨w.heap.size + 1 + 1 + 1, 4, none⟩ = some (.bool U.ib) ∧ w'.cell? ⟨w.heap.size + 1 + 1 + 1, 5, none⟩ = some (.int .i64 U.t0) ∧ w'.cell? ⟨w.heap.size + 1 + 1 + 1, 6, none⟩ = some (.int .i64 U.t1) ∧ w'.cell? ⟨w.heap.size + 1 + 1 + 1, 7, none⟩ = some (.int .i64 U.t2) ∧ w'.cell? ⟨w.heap.size + 1 + 1 + 1, 8, none⟩ = some (.int .i64 U.t3) ∧ w'.cell? ⟨w.heap.size + 1 + 1 + 1, 9, none⟩ = some (.int .i64 U.t4)) (first | exact ⟨c0, c1, c2, c3, c4, c5, c6, c7, c8, c9, d0, d1, d2, d3, d4, d5, d6, d7, d8, d9⟩ | exact ⟨h5.c0, h5.c1, h5.c2, h5.c3, h5.c4, h5.c5, h5.c6, h5.c7, h5.c8, h5.c9, h6.c0, h6.c1, h6.c2, h6.c3, h6.c4, h6.c5, h6.c6, h6.c7, h6.c8, h6.c9⟩) ((first | (go_at_call_of 24 (Value.pointer none); refine (same_nil2 _ _).mono ?_; rintro E4 w4 ⟨rfl, n4, rfl⟩) | (go_at_call 24; refine (hF.out _ _ _ ?_ ?_ ?_).mono ?_; (first | exact .inl rfl | exact .inr rfl); (first | exact .inl rfl | exact .inr rfl); exact rfl; rintro E1 w1 ⟨rfl, n1, rfl⟩; try simp only [f1, f2, f3]) | (go_at_call 13; refine (awake _).mono ?_; rintro E5 w5 ⟨rfl, hb5⟩; have h5 : TkAt w5 43 (w.heap.size + 1 + 1) T := TkAt.mk ((hb5.block (w.heap.size + 1 + 1) HR.out.lt).trans HR.out.blk); have h6 : TkAt w5 43 (w.heap.size + 1 + 1 + 1) U := TkAt.mk ((hb5.block (w.heap.size + 1 + 1 + 1) HS.out.lt).trans HS.out.blk))))
      all_goals
        go_wp2_with fail
        go_ret
        exact ⟨rfl, below_then (below_drewN hB _) hb5⟩
end Go.Proofs.Ytamkfalafnlomaa.F
