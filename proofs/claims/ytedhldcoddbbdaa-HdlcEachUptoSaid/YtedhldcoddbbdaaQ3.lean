import Derived.Test.YtedhldcoddbbdaaQ2
import Derived.Deep.RegionHeld3
set_option linter.unusedVariables false
set_option linter.unusedSimpArgs false
set_option linter.unnecessarySimpa false
namespace Go.Proofs.Ytedhldcoddbbdaa.F
open Go.RowKit Go.Proofs.Ytedhldcoddbbdaa.K
/-- a flag has come: what is left, and the frame -/
def Ln.fin (d : Ln) : Ln × Option (Int × List (BitVec 8)) :=
  if d.any = false then (d.reset, none)
  else if d.last = 125#8 then ({ d.reset with c4 := wrap64 (d.c4 + 1) }, none)
  else if d.l.length < 4 then ({ d.reset with c1 := wrap64 (d.c1 + 1) }, none)
  else if d.mru + 6 < (d.l.length : Int) then ({ d.reset with c2 := wrap64 (d.c2 + 1) }, none)
  else if good16 d.l = false then ({ d.reset with c3 := wrap64 (d.c3 + 1) }, none)
  else if (parseP (d.l.take (d.l.length - 2)) d.pfc d.acfc).1 ≠ 0 then ({ d.reset with c5 := wrap64 (d.c5 + 1) }, none)
  else ({ d.reset with c0 := wrap64 (d.c0 + 1) }, some ((parseP (d.l.take (d.l.length - 2)) d.pfc d.acfc).2))
def EndR (d : Ln) (g : Nat) (v : Value) (w : World) (e : Ending) (w' : World) : Prop := ∃ (n : Int) (u : Value) (ok : Bool), e = .returned (.tuple #[.agg #[.int .i64 n, u], .bool ok]) ∧ LnS w w' g v (.slice none 0 0) d.fin.1 ∧ ((ok = false ∧ d.fin.2 = none ∧ n = 0 ∧ u = .slice none 0 0) ∨ ∃ l, ok = true ∧ d.fin.2 = some (n, l) ∧ Row w' w.heap.size 5 1 u l.length (l.map b8))
theorem end_call {w1 w4 wa w5 : World} {g f : Nat} {v v1 : Value} {d1 : Ln} {o : Obj} (h : LnS w1 w4 g v v1 d1) (hf : w4.heap[f]? = some o) (hb : Below w4.heap.size w4 wa) (hb2 : Below wa.heap.size wa w5) : LnS w1 w5 g v v1 d1 ∧ w5.heap[f]? = some o :=
  ⟨(h.below hb).below hb2, ((below_then hb hb2).block f (Array.getElem?_eq_some_iff.1 hf).1).trans hf⟩
theorem LnS.elsewhere {w w1 w2 : World} {g b : Nat} {v v1 : Value} {d1 : Ln} (h : LnS w w1 g v v1 d1) (hg : w1.grownBy w2 (some b)) (hb : w.heap.size ≤ b) (h1 : b ≠ g) (h2 : v1.ownBlock ≠ some b) : LnS w w2 g v v1 d1 := by
  have hgl := (Array.getElem?_eq_some_iff.1 h.q.blk).1
  exact ⟨⟨(hg.block g hgl (by simp; omega)).trans h.q.blk, h.q.row.kept hg (fun k hk e => h2 (by rw [hk, ← e])), h.q.ne⟩, ⟨hg.os.trans h.grow.os, hg.tape.trans h.grow.tape, hg.output.trans h.grow.output, Nat.le_trans h.grow.size hg.size, fun k hk k1 k2 => (hg.block k (Nat.lt_of_lt_of_le hk h.grow.size) (by simp; omega)).trans (h.grow.block k hk k1 k2)⟩, h.own⟩
/-- the state behind region 6 -/
def EndX (w1 w4 w6 : World) (g f : Nat) (v : Value) (d1 : Ln) (n : Int) (l : List (BitVec 8)) (er : Int) (ev bv : Value) : Prop := ∃ (bx : Nat) (u5 : Value), bv = .pointer (some ⟨bx, 0, none⟩) ∧ ev = .int .i64 er ∧ Hid (LnS w1 w6 g v (.slice none 0 0) d1) ∧ Hid (w6.heap[f]? = some (.cells #[.int .i64 0, .slice none 0 0] 24 (0, 0))) ∧ Hid (w6.heap[bx]? = some (.cells #[.int .i64 n, u5] 24 (0, 0))) ∧ bx ≠ g ∧ bx ≠ f ∧ Hid (Row w6 w4.heap.size 5 1 u5 l.length (l.map b8))
theorem end_new {w1 w4 w5 : World} {g f B : Nat} {v u5 : Value} {d1 : Ln} {n er : Int} {l : List (BitVec 8)} (hg : g < w4.heap.size) (hf : f < w4.heap.size) (h : LnS w1 w5 g v (.slice none 0 0) d1 ∧ w5.heap[f]? = some (.cells #[.int .i64 0, .slice none 0 0] 24 (0, 0))) (hr : Row w5 B 5 1 u5 l.length (l.map b8)) (hB : w4.heap.size ≤ B) (hz : w4.heap.size ≤ w5.heap.size) : EndX w1 w4 (w5.alloc (.cells #[.int .i64 n, u5] 24)) g f v d1 n l er (.int .i64 er) (.pointer (some ⟨w5.heap.size, 0, none⟩)) := by
  have hb : Below w5.heap.size w5 (w5.alloc (.cells #[.int .i64 n, u5] 24)) := (Below.refl _ w5).alloc (Nat.le_refl _) _
  exact ⟨w5.heap.size, u5, rfl, rfl, Lib.hid (h.1.below hb), Lib.hid ((hb.block f (Array.getElem?_eq_some_iff.1 h.2).1).trans h.2), Lib.hid (heap_alloc_new _ _), by omega, by omega, Lib.hid ((hr.weak hB).below hb)⟩
theorem end_old {w1 w4 w5 : World} {g f B : Nat} {v u5 : Value} {d1 : Ln} {n er : Int} {l : List (BitVec 8)} (hg : g < w4.heap.size) (hf : f < w4.heap.size) (h1z : w1.heap.size ≤ w4.heap.size) (h : LnS w1 w5 g v (.slice none 0 0) d1 ∧ w5.heap[f]? = some (.cells #[.int .i64 0, .slice none 0 0] 24 (0, 0))) (hr : Row w5 B 5 1 u5 l.length (l.map b8)) (hB : w4.heap.size < B) (hx : w5.heap[w4.heap.size]? = some (.cells #[.int .i64 0, .slice none 0 0] 24 (0, 0))) : EndX w1 w4 ((w5.setCell ⟨w4.heap.size, 0, none⟩ (.int .i64 n)).setCell ⟨w4.heap.size, 1, none⟩ u5) g f v d1 n l er (.int .i64 er) (.pointer (some ⟨w4.heap.size, 0, none⟩)) := by
  have hset : w5.grownBy ((w5.setCell ⟨w4.heap.size, 0, none⟩ (.int .i64 n)).setCell ⟨w4.heap.size, 1, none⟩ u5) (some w4.heap.size) := ⟨rfl, rfl, rfl, by simp [World.setCell], fun k _ hk => (heap_setCell_other _ _ _ _ (fun e => hk (by simp [e]))).trans (heap_setCell_other _ _ _ _ (fun e => hk (by simp [e])))⟩
  refine ⟨w4.heap.size, u5, rfl, rfl, Lib.hid (h.1.elsewhere hset h1z (by omega) (by simp [Value.ownBlock])), Lib.hid ((hset.block f (Array.getElem?_eq_some_iff.1 h.2).1 (by simp; omega)).trans h.2), Lib.hid (frame_set hx), by omega, by omega, Lib.hid ((hr.weak (Nat.le_of_lt hB)).kept hset (fun k hk e => by have := (Row.live hr hk).1; simp at e; omega))⟩
theorem end_fin {w W1 wx : World} {g : Nat} {d d1 : Ln} {v x y n u : Value} (h : LnAt w g d v) (hb1 : Below w.heap.size w W1) (hs : LnS W1 wx g v (.slice none 0 0) d1) (hf : wx.heap[w.heap.size]? = some (.cells #[x, y] 24 (0, 0))) : LnS w ((wx.setCell ⟨w.heap.size, 0, none⟩ n).setCell ⟨w.heap.size, 1, none⟩ u) g v (.slice none 0 0) d1 ∧ ((wx.setCell ⟨w.heap.size, 0, none⟩ n).setCell ⟨w.heap.size, 1, none⟩ u).heap[w.heap.size]? = some (.cells #[n, u] 24 (0, 0)) ∧ wx.grownBy ((wx.setCell ⟨w.heap.size, 0, none⟩ n).setCell ⟨w.heap.size, 1, none⟩ u) (some w.heap.size) := by
  have hset : wx.grownBy ((wx.setCell ⟨w.heap.size, 0, none⟩ n).setCell ⟨w.heap.size, 1, none⟩ u) (some w.heap.size) := ⟨rfl, rfl, rfl, by simp [World.setCell], fun k _ hk => (heap_setCell_other _ _ _ _ (fun e => hk (by simp [e]))).trans (heap_setCell_other _ _ _ _ (fun e => hk (by simp [e])))⟩
  have hlt := (Array.getElem?_eq_some_iff.1 h.blk).1
  exact ⟨(((LnS.refl h).below hb1).trans hs).elsewhere hset (Nat.le_refl _) (by omega) (by simp [Value.ownBlock]), frame_set hf, hset⟩
variable (g : Nat) (w : World)
set_option maxHeartbeats 8000000 in
set_option maxRecDepth 100000 in
theorem end45 (d : Ln) (v : Value) (hok : d.Ok) (h : LnAt w g d v) : Calls Try.prog 45 #[.pointer (some ⟨g, 0, none⟩)] w (EndR d g v w) := by
  have hOK := Lib.hid hok
  have HW := Lib.hid h
  have hb : Below w.heap.size w (w.alloc (.cells #[.int .i64 0, .slice none 0 0] 24)) := (Below.refl _ w).alloc (Nat.le_refl _) _
  have HB := Lib.hid hb
  have HF := Lib.hid (heap_alloc_new w (.cells #[.int .i64 0, .slice none 0 0] 24))
  have H0 := Lib.hid (h.below hb)
  have hlt := (Array.getElem?_eq_some_iff.1 h.blk).1
  have HVL := Lib.hid (fun k hk => (Row.live h.row (k := k) hk).2)
  clear h hok hb
  go_enter Try.func45, Try.ntmps45
  go_upto_region 1 with fail
  generalize w.alloc (.cells #[.int .i64 0, .slice none 0 0] 24) = W0 at *
  obtain ⟨-, -, -, c259, c260, -, c262, -, -, -, -, -, -⟩ := H0.out.f
  obtain ⟨A, cap, hvv, k1, k2⟩ := Row.slice H0.out.row
  subst hvv
  unfold maxLen at k2
  obtain ⟨ab, hab⟩ : ∃ ab, ab = decide (d.last = 125#8) := ⟨_, rfl⟩
  have HAB := Lib.hid hab
  have hlb : (v8 d.last == 125) = ab := by
    rw [hab]
    by_cases e : d.last = 125#8
    · rw [e]; rfl
    · rw [show (125 : Int) = v8 125#8 from rfl, v8_ne e]; simp [e]
  clear hab
  go_quiet (fail)
  have hbd : Below W0.heap.size W0 (W0.drewN nq) := Go.below_drewN (Below.refl _ _) _
  have H1 := Lib.hid (H0.out.below hbd)
  have HB1 := Lib.hid (HB.out.trans (hbd.mono HB.out.size))
  have HF1 := Lib.hid ((hbd.block w.heap.size (Array.getElem?_eq_some_iff.1 HF.out).1).trans HF.out)
  clear hbd c259 c260 c262 hlb H0 HB HF
  generalize W0.drewN nq = W1 at *
  have hR := Lib.hid (reset30 g W1 d _ H1.out)
  go_wp2_with fail
  refine hR.out.mono ?_
  rintro e W2 ⟨rfl, hs, hgb⟩
  have HS := Lib.hid hs
  have HF2 := Lib.hid ((hs.grow.block w.heap.size (Array.getElem?_eq_some_iff.1 HF1.out).1 (by omega) (fun e => by have := HVL.out _ e.symm; omega)).trans HF1.out)
  have HBy : Hid (BytesAt W2 (.slice A d.l.length cap) d.l) := Lib.hid (RowB.bytes (show Row W2 0 5 1 _ _ _ from H1.out.row.kept hgb (fun k hk e => H1.out.ne (by rw [hk, ← e]))))
  clear hs hR hgb
  go_upto_block 0 with fail
  have hm0 := hOK.out.m0
  have hm1 := hOK.out.m1
  have hw7 := IntWalk.i64_in (d.mru + 6) (by omega)
  have hw6 : wrap64 (d.mru + 6) = d.mru + 6 := by unfold wrap64; omega
  obtain ⟨an, han⟩ : ∃ an, an = d.any := ⟨_, rfl⟩
  have HAN := Lib.hid han
  rw [← han]
  clear han
  go_cut [] (fun wx => Hid (LnS W1 wx g (.slice A d.l.length cap) (.slice none 0 0) d.fin.1) ∧ Hid (d.fin.2 = none) ∧ Hid (wx.heap[w.heap.size]? = some (.cells #[.int .i64 0, .slice none 0 0] 24 (0, 0))))
  case first =>
    cases an
    · have hany : d.any = false := HAN.out.symm
      have HE : Hid (d.fin = (d.reset, none)) := Lib.hid (by unfold Ln.fin; rw [if_pos hany])
      clear hany
      go_wp2_with fail
      go_meet
      exact ⟨Lib.hid (by rw [HE.out]; exact HS.out), Lib.hid (by rw [HE.out]), HF2⟩
    have hany : d.any = true := HAN.out.symm
    have E1 : d.fin = if d.last = 125#8 then ({ d.reset with c4 := wrap64 (d.c4 + 1) }, none)
      else if d.l.length < 4 then ({ d.reset with c1 := wrap64 (d.c1 + 1) }, none)
      else if d.mru + 6 < (d.l.length : Int) then ({ d.reset with c2 := wrap64 (d.c2 + 1) }, none)
      else if good16 d.l = false then ({ d.reset with c3 := wrap64 (d.c3 + 1) }, none)
      else if (parseP (d.l.take (d.l.length - 2)) d.pfc d.acfc).1 ≠ 0 then ({ d.reset with c5 := wrap64 (d.c5 + 1) }, none)
      else ({ d.reset with c0 := wrap64 (d.c0 + 1) }, some ((parseP (d.l.take (d.l.length - 2)) d.pfc d.acfc).2)) := by unfold Ln.fin; rw [hany]; rfl
    clear hany
    by_cases h125 : d.last = 125#8
    · have HE : Hid (d.fin = ({ d.reset with c4 := wrap64 (d.c4 + 1) }, none)) := Lib.hid (by rw [E1, if_pos h125])
      have hab : ab = true := by rw [HAB.out]; simp [h125]
      subst hab
      clear h125 E1
      have hs3 := (LnS.refl HS.out.q).set 10 (by omega) (.int .i64 (wrap64 (d.c4 + 1))) { d.reset with c4 := wrap64 (d.c4 + 1) } rfl rfl rfl rfl
      have HS3 := Lib.hid (HS.out.trans hs3)
      have HF3 := Lib.hid ((hs3.grow.block w.heap.size (Array.getElem?_eq_some_iff.1 HF2.out).1 (by omega) (by simp [Value.ownBlock])).trans HF2.out)
      have c267 : W2.cell? ⟨g, 267, none⟩ = some (.int .i64 d.c4) := HS.out.q.f.c267
      have f267 := HS.out.q.free 267
      clear hs3
      go_wp2_with fail
      go_meet
      exact ⟨Lib.hid (by rw [HE.out]; exact HS3.out), Lib.hid (by rw [HE.out]), HF3⟩
    rw [if_neg h125] at E1
    have hab : ab = false := by rw [HAB.out]; simp [h125]
    subst hab
    clear h125
    by_cases h4 : d.l.length < 4
    · have HE : Hid (d.fin = ({ d.reset with c1 := wrap64 (d.c1 + 1) }, none)) := Lib.hid (by rw [E1, if_pos h4])
      have h4i : (d.l.length : Int) < 4 := by omega
      clear E1
      have hs3 := (LnS.refl HS.out.q).set 7 (by omega) (.int .i64 (wrap64 (d.c1 + 1))) { d.reset with c1 := wrap64 (d.c1 + 1) } rfl rfl rfl rfl
      have HS3 := Lib.hid (HS.out.trans hs3)
      have HF3 := Lib.hid ((hs3.grow.block w.heap.size (Array.getElem?_eq_some_iff.1 HF2.out).1 (by omega) (by simp [Value.ownBlock])).trans HF2.out)
      have c264 : W2.cell? ⟨g, 264, none⟩ = some (.int .i64 d.c1) := HS.out.q.f.c264
      have f264 := HS.out.q.free 264
      clear hs3
      go_wp2_with fail
      go_meet
      exact ⟨Lib.hid (by rw [HE.out]; exact HS3.out), Lib.hid (by rw [HE.out]), HF3⟩
    rw [if_neg h4] at E1
    have h4i : ¬ (d.l.length : Int) < 4 := by omega
    by_cases hg : d.mru + 6 < (d.l.length : Int)
    · have HE : Hid (d.fin = ({ d.reset with c2 := wrap64 (d.c2 + 1) }, none)) := Lib.hid (by rw [E1, if_pos hg])
      have cm : W2.cell? ⟨g, 0, none⟩ = some (.int .i64 d.mru) := HS.out.q.f.c0
      clear E1
      have hs3 := (LnS.refl HS.out.q).set 8 (by omega) (.int .i64 (wrap64 (d.c2 + 1))) { d.reset with c2 := wrap64 (d.c2 + 1) } rfl rfl rfl rfl
      have HS3 := Lib.hid (HS.out.trans hs3)
      have HF3 := Lib.hid ((hs3.grow.block w.heap.size (Array.getElem?_eq_some_iff.1 HF2.out).1 (by omega) (by simp [Value.ownBlock])).trans HF2.out)
      have c265 : W2.cell? ⟨g, 265, none⟩ = some (.int .i64 d.c2) := HS.out.q.f.c265
      have f265 := HS.out.q.free 265
      clear hs3
      go_wp2_with fail
      go_meet
      exact ⟨Lib.hid (by rw [HE.out]; exact HS3.out), Lib.hid (by rw [HE.out]), HF3⟩
    rw [if_neg hg] at E1
    have E2 := Lib.hid E1
    clear E1
    have cm : W2.cell? ⟨g, 0, none⟩ = some (.int .i64 d.mru) := HS.out.q.f.c0
    have hC := Lib.hid (cut16 d.l _ W2 HBy.out (by omega))
    go_wp2_with fail
    refine hC.out.mono ?_
    rintro e w4 ⟨u, k, rfl, hb4, hcs⟩
    have HS4 := Lib.hid (HS.out.below hb4)
    have HF4 := Lib.hid ((hb4.block w.heap.size (Array.getElem?_eq_some_iff.1 HF2.out).1).trans HF2.out)
    have hz4 := hb4.size
    clear cm hb4 hC
    rcases hcs with ⟨h2, -⟩ | ⟨-, hgd, rfl, rfl⟩ | ⟨-, hgd, rfl, hrow⟩
    · omega
    · have HE : Hid (d.fin = ({ d.reset with c3 := wrap64 (d.c3 + 1) }, none)) := Lib.hid (by rw [E2.out, if_pos hgd])
      clear hgd
      have hs3 := (LnS.refl HS4.out.q).set 9 (by omega) (.int .i64 (wrap64 (d.c3 + 1))) { d.reset with c3 := wrap64 (d.c3 + 1) } rfl rfl rfl rfl
      have HS3 := Lib.hid (HS4.out.trans hs3)
      have HF3 := Lib.hid ((hs3.grow.block w.heap.size (Array.getElem?_eq_some_iff.1 HF4.out).1 (by omega) (by simp [Value.ownBlock])).trans HF4.out)
      have c266 : w4.cell? ⟨g, 266, none⟩ = some (.int .i64 d.c3) := HS4.out.q.f.c266
      have f266 := HS4.out.q.free 266
      clear hs3
      go_wp2_with fail
      go_meet
      exact ⟨Lib.hid (by rw [HE.out]; exact HS3.out), Lib.hid (by rw [HE.out]), HF3⟩
    have E3 := Lib.hid (show d.fin = if (parseP (d.l.take (d.l.length - 2)) d.pfc d.acfc).1 ≠ 0 then ({ d.reset with c5 := wrap64 (d.c5 + 1) }, none) else ({ d.reset with c0 := wrap64 (d.c0 + 1) }, some ((parseP (d.l.take (d.l.length - 2)) d.pfc d.acfc).2)) by rw [E2.out, if_neg (by rw [hgd]; simp)])
    have hlt2 : (d.l.take (d.l.length - 2)).length = d.l.length - 2 := by rw [List.length_take]; omega
    have HBB : Hid (BytesAt w4 u (d.l.take (d.l.length - 2))) := Lib.hid (bytes_of_own (by rw [hlt2]; exact hrow))
    have hlt3 : (d.l.take (d.l.length - 2)).length ≤ 140737488351232 := by omega
    clear E2 hgd hrow hlt2
    generalize d.l.take (d.l.length - 2) = bl at *
    obtain ⟨Ab, cb, hub, -, -, -, -⟩ := HBB.out.at_
    subst hub
    have c257 : w4.cell? ⟨g, 257, none⟩ = some (.bool d.pfc) := HS4.out.q.f.c257
    have c258 : w4.cell? ⟨g, 258, none⟩ = some (.bool d.acfc) := HS4.out.q.f.c258
    go_upto_region 6 with fail
    have hbD : Below w4.heap.size w4 w4.drew := (Below.refl _ w4).drew
    have hbA2 : Below w4.heap.size w4 (w4.alloc (.cells #[.int .i64 0, .slice none 0 0] 24)) := (Below.refl _ w4).alloc (Nat.le_refl _) _
    have hbA : Below w4.heap.size w4 (w4.alloc (.cells #[.int .i64 0, .slice none 0 0] 24)).drew := hbA2.drew
    have hgl4 := (Array.getElem?_eq_some_iff.1 HS4.out.q.blk).1
    have hlf4 := (Array.getElem?_eq_some_iff.1 HF4.out).1
    have hne4 : ¬ w4.heap.size = g := by omega
    have hne5 : ¬ g = w4.heap.size := by omega
    have HN4 := Lib.hid (heap_alloc_new w4 (.cells #[.int .i64 0, .slice none 0 0] 24))
    go_cut [8, 9] (fun er bp wx => EndX W1 w4 wx g w.heap.size (.slice A d.l.length cap) d.reset (parseP bl d.pfc d.acfc).2.1 (parseP bl d.pfc d.acfc).2.2 (parseP bl d.pfc d.acfc).1 er bp)
    case first =>
      go_region_held3 (fun w' => w'.cell? ⟨g, 257, none⟩ = some (.bool d.pfc) ∧ w'.cell? ⟨g, 258, none⟩ = some (.bool d.acfc)) (first | exact ⟨c257, c258⟩ | exact ⟨e257, e258⟩ | go_keep) ((go_at_call 22; first | (refine (parse22 bl d.pfc d.acfc _ w4.drew (HBB.out.below hbD) hlt3).mono ?_; rintro E5 w5 ⟨u5, rfl, hr5, hb5⟩; have hz5 := Lib.hid hb5.size; have HX5 := Lib.hid (end_call HS4.out HF4.out hbD hb5); have HR5 := Lib.hid hr5; have e257 : w5.cell? ⟨g, 257, none⟩ = some (.bool d.pfc) := HX5.out.1.q.f.c257; have e258 : w5.cell? ⟨g, 258, none⟩ = some (.bool d.acfc) := HX5.out.1.q.f.c258; obtain ⟨A5, cp5, hu5, -, -⟩ := Row.slice hr5; subst hu5; clear hr5 hb5) | (refine (parse22 bl d.pfc d.acfc _ (w4.alloc (.cells #[.int .i64 0, .slice none 0 0] 24)).drew (HBB.out.below hbA) hlt3).mono ?_; rintro E5 w5 ⟨u5, rfl, hr5, hb5⟩; have hz5 := Lib.hid hb5.size; have HX5 := Lib.hid (end_call HS4.out HF4.out hbA hb5); have HR5 := Lib.hid hr5; have e257 : w5.cell? ⟨g, 257, none⟩ = some (.bool d.pfc) := HX5.out.1.q.f.c257; have e258 : w5.cell? ⟨g, 258, none⟩ = some (.bool d.acfc) := HX5.out.1.q.f.c258; obtain ⟨A5, cp5, hu5, -, -⟩ := Row.slice hr5; subst hu5; have e0box := Lib.hid ((hb5.block w4.heap.size (by simp)).trans HN4.out); have e0 := (cell_of_row _ _ 0 _ _ _ ((hb5.block w4.heap.size (by simp)).trans HN4.out)).trans rfl; have e1 := (cell_of_row _ _ 1 _ _ _ ((hb5.block w4.heap.size (by simp)).trans HN4.out)).trans rfl; have g0 := frozen_of_row _ _ 0 _ _ ((hb5.block w4.heap.size (by simp)).trans HN4.out); have g1 := frozen_of_row _ _ 1 _ _ ((hb5.block w4.heap.size (by simp)).trans HN4.out); clear hr5 hb5) | (refine (parse22 bl d.pfc d.acfc _ (w4.alloc (.cells #[.int .i64 0, .slice none 0 0] 24)) (HBB.out.below hbA2) hlt3).mono ?_; rintro E5 w5 ⟨u5, rfl, hr5, hb5⟩; have hz5 := Lib.hid hb5.size; have HX5 := Lib.hid (end_call HS4.out HF4.out hbA2 hb5); have HR5 := Lib.hid hr5; have e257 : w5.cell? ⟨g, 257, none⟩ = some (.bool d.pfc) := HX5.out.1.q.f.c257; have e258 : w5.cell? ⟨g, 258, none⟩ = some (.bool d.acfc) := HX5.out.1.q.f.c258; obtain ⟨A5, cp5, hu5, -, -⟩ := Row.slice hr5; subst hu5; have e0box := Lib.hid ((hb5.block w4.heap.size (by simp)).trans HN4.out); have e0 := (cell_of_row _ _ 0 _ _ _ ((hb5.block w4.heap.size (by simp)).trans HN4.out)).trans rfl; have e1 := (cell_of_row _ _ 1 _ _ _ ((hb5.block w4.heap.size (by simp)).trans HN4.out)).trans rfl; have g0 := frozen_of_row _ _ 0 _ _ ((hb5.block w4.heap.size (by simp)).trans HN4.out); have g1 := frozen_of_row _ _ 1 _ _ ((hb5.block w4.heap.size (by simp)).trans HN4.out); clear hr5 hb5)))
      all_goals go_wp2_with fail
      all_goals go_meet
      all_goals first
        | exact end_new hgl4 hlf4 HX5.out HR5.out (by simp) (by have := hz5.out; simpa using this)
        | exact end_old hgl4 hlf4 HS4.out.grow.size HX5.out HR5.out (by simp) e0box.out
    case rest =>
    obtain ⟨bx, u5, rfl, rfl, HS6, HF6, HX6, hx1, hx2, HR6⟩ := hcut
    clear c257 c258
    have hgl4 := (Array.getElem?_eq_some_iff.1 HS4.out.q.blk).1
    have hlf4 := (Array.getElem?_eq_some_iff.1 HF4.out).1
    by_cases her : (parseP bl d.pfc d.acfc).1 = 0
    · have HE : Hid (d.fin = ({ d.reset with c0 := wrap64 (d.c0 + 1) }, some ((parseP bl d.pfc d.acfc).2))) := Lib.hid (by rw [E3.out, if_neg (by simpa using her)])
      clear E3
      rw [her]
      have hs3 := (LnS.refl HS6.out.q).set 6 (by omega) (.int .i64 (wrap64 (d.c0 + 1))) { d.reset with c0 := wrap64 (d.c0 + 1) } rfl rfl rfl rfl
      have HS7 := Lib.hid (HS6.out.trans hs3)
      have hf1 : w.heap.size ≠ g := by omega
      have HF7 := Lib.hid ((hs3.grow.block w.heap.size (Array.getElem?_eq_some_iff.1 HF6.out).1 hf1 (by simp [Value.ownBlock])).trans HF6.out)
      have HX7 := Lib.hid ((hs3.grow.block bx (Array.getElem?_eq_some_iff.1 HX6.out).1 hx1 (by simp [Value.ownBlock])).trans HX6.out)
      have c263 : wc.cell? ⟨g, 263, none⟩ = some (.int .i64 d.c0) := HS6.out.q.f.c263
      have f263 := HS6.out.q.free 263
      have hgr : wc.grownBy (wc.setCell ⟨g, 263, none⟩ (.int .i64 (wrap64 (d.c0 + 1)))) (some g) := ⟨rfl, rfl, rfl, by simp [World.setCell], fun k _ hk => heap_setCell_other _ _ _ _ (fun e => hk (by simp [e]))⟩
      have HR7 := Lib.hid (HR6.out.kept hgr (fun k hk e => by have := (Row.live HR6.out hk).1; simp at e; omega))
      clear hs3 hgr
      go_upto_region 10 with fail
      generalize wc.setCell ⟨g, 263, none⟩ (.int .i64 (wrap64 (d.c0 + 1))) = w7 at *
      clear c263 f263
      have x0 : w7.cell? ⟨bx, 0, none⟩ = some (.int .i64 (parseP bl d.pfc d.acfc).2.1) := (cell_of_row _ _ _ _ _ _ HX7.out).trans rfl
      have x1 : w7.cell? ⟨bx, 1, none⟩ = some u5 := (cell_of_row _ _ _ _ _ _ HX7.out).trans rfl
      have y0 : w7.cell? ⟨w.heap.size, 0, none⟩ = some (.int .i64 0) := (cell_of_row _ _ _ _ _ _ HF7.out).trans rfl
      have y1 : w7.cell? ⟨w.heap.size, 1, none⟩ = some (.slice none 0 0) := (cell_of_row _ _ _ _ _ _ HF7.out).trans rfl
      have z0 : w7.frozen? ⟨w.heap.size, 0, none⟩ = false := frozen_of_row _ _ _ _ _ HF7.out
      have z1 : w7.frozen? ⟨w.heap.size, 1, none⟩ = false := frozen_of_row _ _ _ _ _ HF7.out
      obtain ⟨A7, c7, hu7, -, -⟩ := Row.slice HR7.out
      subst hu7
      go_wp2_with fail
      have hfin := end_fin (n := .int .i64 (parseP bl d.pfc d.acfc).2.1) (u := .slice A7 (parseP bl d.pfc d.acfc).2.2.length c7) HW.out HB1.out HS7.out HF7.out
      refine bodyPost_ret (v := .tuple #[.agg #[.int .i64 (parseP bl d.pfc d.acfc).2.1, .slice A7 (parseP bl d.pfc d.acfc).2.2.length c7], .bool true]) (ret_ct (fn := Try.f45) (p := 2) (u := 3) rfl _ _ w.heap.size 24 #[.int .i64 (parseP bl d.pfc d.acfc).2.1, .slice A7 (parseP bl d.pfc d.acfc).2.2.length c7] (0, 0) _ rfl hfin.2.1 Try.underlying24 rfl (by kernel_rfl)) rfl ?_
      refine ⟨_, _, true, rfl, by rw [HE.out]; exact hfin.1, .inr ⟨_, rfl, by rw [HE.out], ?_⟩⟩
      refine (HR7.out.weak (Nat.le_trans HB1.out.size HS4.out.grow.size)).kept hfin.2.2 (fun k hk e => ?_)
      have h1 := (Row.live HR7.out hk).1
      have h2 := HB1.out.size
      simp at e
      omega
    · have HE : Hid (d.fin = ({ d.reset with c5 := wrap64 (d.c5 + 1) }, none)) := Lib.hid (by rw [E3.out, if_pos her])
      clear E3
      have z : ((parseP bl d.pfc d.acfc).1 != 0) = true := by simpa using her
      have hs3 := (LnS.refl HS6.out.q).set 11 (by omega) (.int .i64 (wrap64 (d.c5 + 1))) { d.reset with c5 := wrap64 (d.c5 + 1) } rfl rfl rfl rfl
      have HS7 := Lib.hid (HS6.out.trans hs3)
      have hf1 : w.heap.size ≠ g := by omega
      have HF7 := Lib.hid ((hs3.grow.block w.heap.size (Array.getElem?_eq_some_iff.1 HF6.out).1 hf1 (by simp [Value.ownBlock])).trans HF6.out)
      have HX7 := Lib.hid ((hs3.grow.block bx (Array.getElem?_eq_some_iff.1 HX6.out).1 hx1 (by simp [Value.ownBlock])).trans HX6.out)
      have c268 : wc.cell? ⟨g, 268, none⟩ = some (.int .i64 d.c5) := HS6.out.q.f.c268
      have f268 := HS6.out.q.free 268
      have hgr : wc.grownBy (wc.setCell ⟨g, 268, none⟩ (.int .i64 (wrap64 (d.c5 + 1)))) (some g) := ⟨rfl, rfl, rfl, by simp [World.setCell], fun k _ hk => heap_setCell_other _ _ _ _ (fun e => hk (by simp [e]))⟩
      have HR7 := Lib.hid (HR6.out.kept hgr (fun k hk e => by have := (Row.live HR6.out hk).1; simp at e; omega))
      clear hs3 hgr
      go_wp2_with fail
      go_meet
      exact ⟨Lib.hid (by rw [HE.out]; exact HS7.out), Lib.hid (by rw [HE.out]), HF7⟩
  case rest =>
  obtain ⟨HS3, HE, HF3⟩ := hcut
  have y0 : wc.cell? ⟨w.heap.size, 0, none⟩ = some (.int .i64 0) := (cell_of_row _ _ _ _ _ _ HF3.out).trans rfl
  have y1 : wc.cell? ⟨w.heap.size, 1, none⟩ = some (.slice none 0 0) := (cell_of_row _ _ _ _ _ _ HF3.out).trans rfl
  have z0 : wc.frozen? ⟨w.heap.size, 0, none⟩ = false := frozen_of_row _ _ _ _ _ HF3.out
  have z1 : wc.frozen? ⟨w.heap.size, 1, none⟩ = false := frozen_of_row _ _ _ _ _ HF3.out
  go_wp2_with fail
  have hfin := end_fin (n := .int .i64 0) (u := .slice none 0 0) HW.out HB1.out HS3.out HF3.out
  refine bodyPost_ret (v := .tuple #[.agg #[.int .i64 0, .slice none 0 0], .bool false]) (ret_ct (fn := Try.f45) (p := 2) (u := 3) rfl _ _ w.heap.size 24 #[.int .i64 0, .slice none 0 0] (0, 0) _ rfl hfin.2.1 Try.underlying24 rfl (by kernel_rfl)) rfl ?_
  exact ⟨0, _, false, rfl, hfin.1, .inl ⟨rfl, HE.out, rfl, rfl⟩⟩
end Go.Proofs.Ytedhldcoddbbdaa.F
