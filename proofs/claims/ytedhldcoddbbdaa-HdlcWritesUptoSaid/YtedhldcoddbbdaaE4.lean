import Derived.Test.YtedhldcoddbbdaaE3
import Derived.Test.YtedhldcoddbbdaaT4
import Derived.Test.YtedhldcoddbbdaaOO
import Derived.Deep.RegionHeld3
set_option linter.unusedVariables false
set_option linter.unusedSimpArgs false
set_option linter.unnecessarySimpa false
namespace Go.Proofs.Ytedhldcoddbbdaa.F
open Go.RowKit Go.Proofs.Ytedhldcoddbbdaa.K
/-- bytes and an error -/
def Both (l : List (BitVec 8)) (er : Int) (w : World) (e : Ending) (w' : World) : Prop := ∃ u, e = .returned (.tuple #[u, .int .i64 er]) ∧ Row w' w.heap.size 5 1 u l.length (l.map b8) ∧ Below w.heap.size w w'
def encX (n : Int) (s : Sn) (info : List (BitVec 8)) : List (BitVec 8) := if bodyE n s info = 0 then encL n s info else []
def bodyX (n : Int) (s : Sn) (info : List (BitVec 8)) : List (BitVec 8) := if bodyE n s info = 0 then sumL (bareL n s info) else []
def escE (a : Int) : Int := if mapB a then 0 else 1
def escX (a : Int) (l : List (BitVec 8)) : List (BitVec 8) := if mapB a then escL a l else []
section
variable (n : Int) (s : Sn) (info : List (BitVec 8)) (v : Value) (w : World)
theorem both11 (h : BytesAt w v info) : Calls Try.prog 11 #[.agg #[.int .i64 n, v], s.val] w (Both (encX n s info) (bodyE n s info) w) := by
  unfold encX
  by_cases he : bodyE n s info = 0
  · rw [if_pos he, he]
    exact (enc11 n s info v w h he).mono fun e w' ⟨u, q⟩ => ⟨u, q⟩
  · rw [if_neg he]
    exact (enc_bad n s info v w h he).mono fun e w' ⟨q1, q2⟩ => ⟨_, q1, Row.nil _ _ _ _, q2⟩
theorem both13 (h : BytesAt w v info) : Calls Try.prog 13 #[.agg #[.int .i64 n, v], s.val] w (Both (encX n s info) (bodyE n s info) w) := by
  unfold encX
  by_cases he : bodyE n s info = 0
  · rw [if_pos he, he]
    exact (renc13 n s info v w h he).mono fun e w' ⟨u, q⟩ => ⟨u, q⟩
  · rw [if_neg he]
    exact (renc_bad n s info v w h he).mono fun e w' ⟨q1, q2⟩ => ⟨_, q1, Row.nil _ _ _ _, q2⟩
theorem both14 (h : BytesAt w v info) : Calls Try.prog 14 #[.agg #[.int .i64 n, v], s.val] w (Both (bodyX n s info) (bodyE n s info) w) := by
  unfold bodyX
  by_cases he : bodyE n s info = 0
  · rw [if_pos he, he]
    exact (body14 n s info v w h he).mono fun e w' ⟨u, q⟩ => ⟨u, q⟩
  · rw [if_neg he]
    exact (body_bad n s info v w h he).mono fun e w' ⟨q1, q2⟩ => ⟨_, q1, Row.nil _ _ _ _, q2⟩
theorem both15 (h : BytesAt w v info) : Calls Try.prog 15 #[.agg #[.int .i64 n, v], s.val] w (Both (bodyX n s info) (bodyE n s info) w) := by
  unfold bodyX
  by_cases he : bodyE n s info = 0
  · rw [if_pos he, he]
    exact (rbody15 n s info v w h he).mono fun e w' ⟨u, q⟩ => ⟨u, q⟩
  · rw [if_neg he]
    exact (rbody_bad n s info v w h he).mono fun e w' ⟨q1, q2⟩ => ⟨_, q1, Row.nil _ _ _ _, q2⟩
end
theorem both16 (a : Int) (l : List (BitVec 8)) (v : Value) (w : World) (h : BytesAt w v l) (hl : l.length ≤ 1048576) : Calls Try.prog 16 #[v, .int .i64 a] w (Both (escX a l) (escE a) w) := by
  unfold escX escE
  cases hm : mapB a
  · exact (esc_bad a v w hm).mono fun e w' ⟨q1, q2⟩ => ⟨_, q1, Row.nil _ _ _ _, by rw [← q2]; exact Below.refl _ _⟩
  · exact (escape16 a l v w hm h (by omega)).mono fun e w' ⟨u, q⟩ => ⟨u, q⟩
theorem both17 (a : Int) (l : List (BitVec 8)) (v : Value) (w : World) (h : BytesAt w v l) (hl : l.length ≤ 1048576) : Calls Try.prog 17 #[v, .int .i64 a] w (Both (escX a l) (escE a) w) := by
  unfold escX escE
  cases hm : mapB a
  · exact (resc_bad a v w hm).mono fun e w' ⟨q1, q2⟩ => ⟨_, q1, Row.nil _ _ _ _, by rw [← q2]; exact Below.refl _ _⟩
  · exact (rescape17 a l v w hm h (by omega)).mono fun e w' ⟨u, q⟩ => ⟨u, q⟩
theorem same18t (l : List (BitVec 8)) (v u : Value) (w : World) (h : BytesAt w v l) (h' : BytesAt w u l) : Calls Try.prog 18 #[v, u] w fun e w' => e = .returned (.bool true) ∧ Below w.heap.size w w' := by
  refine (same18 l l v u w h h').mono ?_
  rintro e w' ⟨rfl, hb⟩
  simp only [decide_true]
  exact ⟨trivial, hb⟩
theorem send12 (s : Sn) (w : World) : Calls Try.prog 12 #[s.val] w fun e w' => e = .returned s.val ∧ Below w.heap.size w w' := by
  have hb : Below w.heap.size w ((w.alloc (.cells #[.int .i64 s.accm, .bool s.pfc, .bool s.acfc] 26)).alloc (.cells #[.int .i64 s.accm, .bool s.pfc, .bool s.acfc] 31)) := ((Below.refl _ w).alloc (Nat.le_refl _) _).alloc (by simp) _
  have HB := Lib.hid hb
  have hf : ((w.alloc (.cells #[.int .i64 s.accm, .bool s.pfc, .bool s.acfc] 26)).alloc (.cells #[.int .i64 s.accm, .bool s.pfc, .bool s.acfc] 31)).heap[w.heap.size + 1]? = some (.cells #[.int .i64 s.accm, .bool s.pfc, .bool s.acfc] 31 (0, 0)) := by
    have := heap_alloc_new (w.alloc (.cells #[.int .i64 s.accm, .bool s.pfc, .bool s.acfc] 26)) (.cells #[.int .i64 s.accm, .bool s.pfc, .bool s.acfc] 31)
    simpa using this
  have HF := Lib.hid hf
  clear hb hf
  unfold Sn.val
  go_enter Try.func12, Try.ntmps12
  go_wp2_with fail
  exact bodyPost_ret (v := .agg #[.int .i64 s.accm, .bool s.pfc, .bool s.acfc]) (results_cell_row rfl _ _ (w.heap.size + 1) 31 #[.int .i64 s.accm, .bool s.pfc, .bool s.acfc] (0, 0) _ rfl HF.out Try.underlying31 rfl (by kernel_rfl)) rfl ⟨rfl, HB.out⟩
theorem encX_len (n : Int) (s : Sn) (info : List (BitVec 8)) : (encX n s info).length ≤ 40000 := by
  unfold encX
  split
  · rename_i h
    have h1 : info.length ≤ 16384 := by
      unfold bodyE at h
      split at h
      · split at h
        · simp at h
        · omega
      · simp at h
    have h2 := hd_len n s info
    have h3 := escL_len (encA n s) (sumL (bareL n s info))
    rw [sumL_len] at h3
    unfold encL
    simp
    omega
  · simp
theorem bodyX_len (n : Int) (s : Sn) (info : List (BitVec 8)) : (bodyX n s info).length ≤ 40000 := by
  unfold bodyX
  split
  · rename_i h
    have h1 : info.length ≤ 16384 := by
      unfold bodyE at h
      split at h
      · split at h
        · simp at h
        · omega
      · simp at h
    have h2 := hd_len n s info
    rw [sumL_len]
    omega
  · simp
set_option maxRecDepth 100000 in
set_option maxHeartbeats 16000000 in
theorem writes3 (x : Int × List (BitVec 8)) (v : Value) (s : Sn) (vs : Value) (bs : List (BitVec 8)) (vb : Value) (w : World) (hx : R.FrameV w v x) (hxl : x.2.length ≤ 1048576) (hs : vs = s.val) (hb : BytesAt w vb bs) (hbl : bs.length ≤ 1048576) : Calls Try.prog 3 #[v, vs, vb] w fun e w' => e = .returned (.bool true) ∧ Below w.heap.size w w' := by
  subst hs
  obtain ⟨n, info⟩ := x
  obtain ⟨u, rfl, hu⟩ := hx
  dsimp only at hu hxl ⊢
  have HK := Lib.hid (fun W => known21 W)
  have hb1 : Below w.heap.size w ((w.alloc (.cells #[.int .i64 n, u] 24)).alloc (.cells #[.int .i64 s.accm, .bool s.pfc, .bool s.acfc] 26)) := ((Below.refl _ w).alloc (Nat.le_refl _) _).alloc (by simp) _
  have hf1 : ((w.alloc (.cells #[.int .i64 n, u] 24)).alloc (.cells #[.int .i64 s.accm, .bool s.pfc, .bool s.acfc] 26)).heap[w.heap.size]? = some (.cells #[.int .i64 n, u] 24 (0, 0)) := by
    rw [Below.heap_alloc _ _ _ (by simp)]
    exact heap_alloc_new w _
  have hf2 : ((w.alloc (.cells #[.int .i64 n, u] 24)).alloc (.cells #[.int .i64 s.accm, .bool s.pfc, .bool s.acfc] 26)).heap[w.heap.size + 1]? = some (.cells #[.int .i64 s.accm, .bool s.pfc, .bool s.acfc] 26 (0, 0)) := by
    have := heap_alloc_new (w.alloc (.cells #[.int .i64 n, u] 24)) (.cells #[.int .i64 s.accm, .bool s.pfc, .bool s.acfc] 26)
    simpa using this
  have HB1 := Lib.hid hb1
  have HF1 := Lib.hid hf1
  have HF2 := Lib.hid hf2
  have HU := Lib.hid hu
  have HBB := Lib.hid hb
  obtain ⟨A, cap, rfl, k1, k2, -, -⟩ := hu.at_
  obtain ⟨Ab, cb, rfl, k3, k4, -, -⟩ := hb.at_
  unfold maxLen at k2 k4
  clear hb1 hf1 hf2 hu hb
  unfold Sn.val
  go_enter Try.func3, Try.ntmps3
  go_upto_region 1 with fail
  generalize (w.alloc (.cells #[.int .i64 n, .slice A info.length cap] 24)).alloc (.cells #[.int .i64 s.accm, .bool s.pfc, .bool s.acfc] 26) = W0 at *
  have c1 : W0.cell? ⟨w.heap.size, 1, none⟩ = some (.slice A info.length cap) := (cell_of_row _ _ _ _ _ _ HF1.out).trans rfl
  have HLE := Lib.hid (lent info _ W0 (HU.out.below HB1.out) (by omega))
  have hs3 := (Array.getElem?_eq_some_iff.1 HF1.out).1
  have hs4 := (Array.getElem?_eq_some_iff.1 HF2.out).1
  go_wp2_with fail
  refine HLE.out.mono ?_
  rintro e w1 ⟨ow, rfl, ho, hb1⟩
  have hbw := HB1.out.size
  have HO := Lib.hid ho
  obtain ⟨go, co, curo, how, -⟩ := ho.at_
  subst how
  have c0 : w1.cell? ⟨w.heap.size, 0, none⟩ = some (.int .i64 n) := (cell_of_row _ _ _ _ _ _ ((hb1.block _ hs3).trans HF1.out)).trans rfl
  have hb2 : Below w1.heap.size w1 (w1.alloc (.cells #[.int .i64 n, .slice (some ⟨go, 0, none⟩) info.length co] 24)) := (Below.refl _ _).alloc (Nat.le_refl _) _
  have HO2 := Lib.hid (ho.below hb2)
  have HB2 := Lib.hid (below_then HB1.out (below_then hb1 hb2))
  have HG3 := Lib.hid (((below_then hb1 hb2).block _ hs3).trans HF1.out)
  have HG4 := Lib.hid (((below_then hb1 hb2).block _ hs4).trans HF2.out)
  have HG8 := Lib.hid (heap_alloc_new w1 (.cells #[.int .i64 n, .slice (some ⟨go, 0, none⟩) info.length co] 24))
  clear ho hb1 hb2 HLE c1
  go_upto_region 3 with fail
  clear c0
  generalize hS8 : w1.heap.size = S8 at *
  generalize w1.alloc (.cells #[.int .i64 n, .slice (some ⟨go, 0, none⟩) info.length co] 24) = W2 at *
  generalize hS3 : w.heap.size = S3 at *
  have HCL : Hid (∀ W : World, Below W2.heap.size W2 W → W.cell? ⟨S8, 0, none⟩ = some (.int .i64 n) ∧ W.cell? ⟨S8, 1, none⟩ = some (.slice (some ⟨go, 0, none⟩) info.length co) ∧ W.cell? ⟨S3 + 1, 0, none⟩ = some (.int .i64 s.accm) ∧ W.cell? ⟨S3 + 1, 1, none⟩ = some (.bool s.pfc) ∧ W.cell? ⟨S3 + 1, 2, none⟩ = some (.bool s.acfc)) := Lib.hid (fun W hW => by
    have q8 := (hW.block S8 (Array.getElem?_eq_some_iff.1 HG8.out).1).trans HG8.out
    have q4 := (hW.block (S3 + 1) (Array.getElem?_eq_some_iff.1 HG4.out).1).trans HG4.out
    exact ⟨(cell_of_row _ _ _ _ _ _ q8).trans rfl, (cell_of_row _ _ _ _ _ _ q8).trans rfl, (cell_of_row _ _ _ _ _ _ q4).trans rfl, (cell_of_row _ _ _ _ _ _ q4).trans rfl, (cell_of_row _ _ _ _ _ _ q4).trans rfl⟩)
  have HC3 : Hid (∀ W : World, Below W2.heap.size W2 W → W.cell? ⟨S3, 0, none⟩ = some (.int .i64 n) ∧ W.cell? ⟨S3, 1, none⟩ = some (.slice A info.length cap)) := Lib.hid (fun W hW => by
    have q3 := (hW.block S3 (Array.getElem?_eq_some_iff.1 HG3.out).1).trans HG3.out
    exact ⟨(cell_of_row _ _ _ _ _ _ q3).trans rfl, (cell_of_row _ _ _ _ _ _ q3).trans rfl⟩)
  have HY : Hid (∀ W : World, Below W2.heap.size W2 W → BytesAt W (.slice (some ⟨go, 0, none⟩) info.length co) info ∧ BytesAt W (.slice A info.length cap) info ∧ BytesAt W (.slice Ab bs.length cb) bs) := Lib.hid (fun W hW => by
    have hw : Below w.heap.size w W := by rw [hS3]; exact HB2.out.trans (hW.mono (by rw [← hS3]; exact HB2.out.size))
    exact ⟨HO2.out.bytes.below hW, HU.out.below hw, HBB.out.below hw⟩)
  have HBW2 : Hid (Below W2.heap.size W2 W2) := Lib.hid (Below.refl _ _)
  have eW2 := HCL.out W2 HBW2.out
  have HDW2 : Hid (Below W2.heap.size W2 W2.drew) := Lib.hid (HBW2.out.trans (((Below.refl _ W2).drew).mono HBW2.out.size))
  go_region_held3 (fun W => W.cell? ⟨S8, 0, none⟩ = some (.int .i64 n) ∧ W.cell? ⟨S8, 1, none⟩ = some (.slice (some ⟨go, 0, none⟩) info.length co) ∧ W.cell? ⟨S3 + 1, 0, none⟩ = some (.int .i64 s.accm) ∧ W.cell? ⟨S3 + 1, 1, none⟩ = some (.bool s.pfc) ∧ W.cell? ⟨S3 + 1, 2, none⟩ = some (.bool s.acfc)) (first | exact eW2 | exact ew3 | exact ew4 | go_keep) ((first
    | (go_at_call 12; refine (send12 s W2.drew).mono ?_; rintro E1 w3 ⟨rfl, hbw3⟩; have HBw3 := Lib.hid (HDW2.out.trans (hbw3.mono HDW2.out.size)); have ew3 := HCL.out w3 HBw3.out; have HXw3 := Lib.hid (below_then ((Below.refl _ W2).drew) hbw3); clear hbw3)
    | (go_at_call 11; refine (both11 n s info _ w3 (HY.out w3 HBw3.out).1).mono ?_; rintro E2 w4 ⟨uw4, rfl, hrw4, hbw4⟩; obtain ⟨Aw4, cw4, huw4, -, -⟩ := Row.slice hrw4; subst huw4; have HBw4 := Lib.hid (HBw3.out.trans (hbw4.mono HBw3.out.size)); have ew4 := HCL.out w4 HBw4.out; have HRw4 := Lib.hid hrw4; have HXw4 := Lib.hid hbw4; clear hrw4 hbw4)))
  obtain ⟨t0w4, t1w4⟩ := HC3.out w4 HBw4.out
  obtain ⟨-, -, t2w4, t3w4, t4w4⟩ := HCL.out w4 HBw4.out
  go_wp2_with fail
  refine (both13 n s info _ w4 (HY.out w4 HBw4.out).2.1).mono ?_
  rintro E w5 ⟨uw5, rfl, hrw5, hbw5⟩
  obtain ⟨Aw5, cw5, huw5, -, -⟩ := Row.slice hrw5
  subst huw5
  have HBw5 := Lib.hid (HBw4.out.trans (hbw5.mono HBw4.out.size))
  have HXw5 := Lib.hid hbw5
  have HRw5 := Lib.hid hrw5
  clear hrw5 hbw5
  clear t0w4 t1w4 t2w4 t3w4 t4w4
  go_upto_region 5 with fail
  have ew5 := HCL.out w5 HBw5.out
  have HDw5 : Hid (Below W2.heap.size W2 w5.drew) := Lib.hid (HBw5.out.trans (((Below.refl _ w5).drew).mono HBw5.out.size))
  go_region_held3 (fun W => W.cell? ⟨S8, 0, none⟩ = some (.int .i64 n) ∧ W.cell? ⟨S8, 1, none⟩ = some (.slice (some ⟨go, 0, none⟩) info.length co) ∧ W.cell? ⟨S3 + 1, 0, none⟩ = some (.int .i64 s.accm) ∧ W.cell? ⟨S3 + 1, 1, none⟩ = some (.bool s.pfc) ∧ W.cell? ⟨S3 + 1, 2, none⟩ = some (.bool s.acfc)) (first | exact ew5 | exact ew6 | exact ew7 | go_keep) ((first
    | (go_at_call 12; refine (send12 s w5.drew).mono ?_; rintro E1 w6 ⟨rfl, hbw6⟩; have HBw6 := Lib.hid (HDw5.out.trans (hbw6.mono HDw5.out.size)); have ew6 := HCL.out w6 HBw6.out; have HXw6 := Lib.hid (below_then ((Below.refl _ w5).drew) hbw6); clear hbw6)
    | (go_at_call 14; refine (both14 n s info _ w6 (HY.out w6 HBw6.out).1).mono ?_; rintro E2 w7 ⟨uw7, rfl, hrw7, hbw7⟩; obtain ⟨Aw7, cw7, huw7, -, -⟩ := Row.slice hrw7; subst huw7; have HBw7 := Lib.hid (HBw6.out.trans (hbw7.mono HBw6.out.size)); have ew7 := HCL.out w7 HBw7.out; have HRw7 := Lib.hid hrw7; have HXw7 := Lib.hid hbw7; clear hrw7 hbw7)))
  obtain ⟨t0w7, t1w7⟩ := HC3.out w7 HBw7.out
  obtain ⟨-, -, t2w7, t3w7, t4w7⟩ := HCL.out w7 HBw7.out
  go_wp2_with fail
  refine (both15 n s info _ w7 (HY.out w7 HBw7.out).2.1).mono ?_
  rintro E w8 ⟨uw8, rfl, hrw8, hbw8⟩
  obtain ⟨Aw8, cw8, huw8, -, -⟩ := Row.slice hrw8
  subst huw8
  have HBw8 := Lib.hid (HBw7.out.trans (hbw8.mono HBw7.out.size))
  have HXw8 := Lib.hid hbw8
  have HRw8 := Lib.hid hrw8
  clear hrw8 hbw8
  clear t0w7 t1w7 t2w7 t3w7 t4w7
  obtain ⟨t0w8, t1w8⟩ := HC3.out w8 HBw8.out
  obtain ⟨-, -, t2w8, t3w8, t4w8⟩ := HCL.out w8 HBw8.out
  go_wp2_with fail
  refine (both16 s.accm bs _ w8 (HY.out w8 HBw8.out).2.2 hbl).mono ?_
  rintro E w9 ⟨uw9, rfl, hrw9, hbw9⟩
  obtain ⟨Aw9, cw9, huw9, -, -⟩ := Row.slice hrw9
  subst huw9
  have HBw9 := Lib.hid (HBw8.out.trans (hbw9.mono HBw8.out.size))
  have HXw9 := Lib.hid hbw9
  have HRw9 := Lib.hid hrw9
  clear hrw9 hbw9
  clear t0w8 t1w8 t2w8 t3w8 t4w8
  obtain ⟨t0w9, t1w9⟩ := HC3.out w9 HBw9.out
  obtain ⟨-, -, t2w9, t3w9, t4w9⟩ := HCL.out w9 HBw9.out
  go_wp2_with fail
  refine (both17 s.accm bs _ w9 (HY.out w9 HBw9.out).2.2 hbl).mono ?_
  rintro E wa ⟨uwa, rfl, hrwa, hbwa⟩
  obtain ⟨Awa, cwa, huwa, -, -⟩ := Row.slice hrwa
  subst huwa
  have HBwa := Lib.hid (HBw9.out.trans (hbwa.mono HBw9.out.size))
  have HXwa := Lib.hid hbwa
  have HRwa := Lib.hid hrwa
  clear hrwa hbwa
  clear t0w9 t1w9 t2w9 t3w9 t4w9
  have z1 := encX_len n s info
  have z2 := bodyX_len n s info
  have Z89 := Lib.hid (below_then HXw9.out HXwa.out)
  have Z79 := Lib.hid (below_then HXw8.out Z89.out)
  have Z69 := Lib.hid (below_then HXw7.out Z79.out)
  have Z59 := Lib.hid (below_then HXw6.out Z69.out)
  have Z49 := Lib.hid (below_then HXw5.out Z59.out)
  have RX := Lib.hid (HRw4.out.below Z49.out)
  have RY := Lib.hid (HRw5.out.below Z59.out)
  have RP := Lib.hid (HRw7.out.below Z79.out)
  have RQ := Lib.hid (HRw8.out.below Z89.out)
  have RM := Lib.hid (HRw9.out.below HXwa.out)
  have hzx : W2.heap.size ≤ w3.heap.size := HBw3.out.size
  have hzp : w4.heap.size ≤ w6.heap.size := Nat.le_trans HXw5.out.size HXw6.out.size
  have HLX := Lib.hid (fun k hk => Row.live HRw4.out (k := k) hk)
  have HLP := Lib.hid (fun k hk => Row.live HRw7.out (k := k) hk)
  generalize encX n s info = X at *
  generalize bodyX n s info = Y at *
  generalize escX s.accm bs = M at *
  generalize bodyE n s info = er at *
  generalize escE s.accm = er2 at *
  have n1 : (er != er) = false := by simp
  have n2 : (er2 != er2) = false := by simp
  go_wp2_with fail
  refine (same18t X _ _ wa (RowB.bytes (RX.out.weak (Nat.zero_le _))) (RowB.bytes (RY.out.weak (Nat.zero_le _)))).mono ?_
  rintro E wb ⟨rfl, hb⟩
  have Hb := Lib.hid hb
  clear hb
  go_wp2_with fail
  refine (same18t Y _ _ wb (RowB.bytes ((RP.out.below Hb.out).weak (Nat.zero_le _))) (RowB.bytes ((RQ.out.below Hb.out).weak (Nat.zero_le _)))).mono ?_
  rintro E wc ⟨rfl, hc⟩
  have Hc := Lib.hid (below_then Hb.out hc)
  clear hc
  go_wp2_with fail
  refine (same18t M _ _ wc (RowB.bytes ((RM.out.below Hc.out).weak (Nat.zero_le _))) (RowB.bytes ((HRwa.out.below Hc.out).weak (Nat.zero_le _)))).mono ?_
  rintro E wd ⟨rfl, hd⟩
  have Hd := Lib.hid (below_then Hc.out hd)
  have HBd := Lib.hid (HBwa.out.trans (Hd.out.mono HBwa.out.size))
  have HSX := Lib.hid (spoil19 _ X wd (show RowB wd _ X from (RX.out.below Hd.out).weak (Nat.zero_le _)) (by omega))
  clear hd
  go_wp2_with fail
  refine HSX.out.mono ?_
  rintro E we ⟨rfl, hge⟩
  have HGE := Lib.hid hge
  have RPe := Lib.hid ((RP.out.below Hd.out).kept hge (fun k hk e => by have := (HLP.out k hk).1; have := (HLX.out k e).2; omega))
  have HSP := Lib.hid (spoil19 _ Y we (show RowB we _ Y from RPe.out.weak (Nat.zero_le _)) (by omega))
  clear hge HSX
  go_wp2_with fail
  refine HSP.out.mono ?_
  rintro E wf ⟨rfl, hgf⟩
  have HBf : Hid (Below W2.heap.size W2 wf) := Lib.hid ((HBd.out.grown HGE.out HBd.out.size (fun k e => by have := (HLX.out k e).1; omega)).grown hgf (Nat.le_trans HBd.out.size HGE.out.size) (fun k e => by have := (HLP.out k e).1; have := HRw4.out; have h5 := HXw5.out.size; have h6 := HXw6.out.size; have h4 := HXw4.out.size; omega))
  have HOf := Lib.hid (HO2.out.below HBf.out)
  have HYf := Lib.hid (HY.out wf HBf.out)
  obtain ⟨-, t1⟩ := HC3.out wf HBf.out
  have HKP := Lib.hid (kept20 info _ _ _ wf HOf.out HYf.out.2.1)
  have HBw : Hid (Below w.heap.size w wf) := Lib.hid (by rw [hS3]; exact HB2.out.trans (HBf.out.mono (by rw [← hS3]; exact HB2.out.size)))
  clear hgf HSP
  go_wp2_with fail
  refine HKP.out.mono ?_
  rintro E wg ⟨rfl, hbg⟩
  have HBg := Lib.hid (below_then HBw.out hbg)
  clear hbg HKP
  go_wp2_with fail
  refine (HK.out _).mono ?_
  rintro E wh ⟨rfl, hbh⟩
  have HBh := Lib.hid (below_then HBg.out hbh)
  go_wp2_with fail
  go_ret
  exact ⟨rfl, by have := HBh.out; rwa [hS3] at this⟩
end Go.Proofs.Ytedhldcoddbbdaa.F
