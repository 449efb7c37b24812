import Derived.Test.YtedhldcoddbbdaaR6
set_option linter.unusedVariables false
set_option linter.unusedSimpArgs false
set_option linter.unnecessarySimpa false
namespace Go.Proofs.Ytedhldcoddbbdaa.F
open Go.RowKit Go.Proofs.Ytedhldcoddbbdaa.K Go.Shelf
attribute [local go_sem] Oper.semAt_some
/-- what Feed hands back -/
structure Fed (w w' : World) (g : Nat) (u u' v : Value) (d' : Ln) (fs : List (Int × List (BitVec 8))) (xs : List Fv) : Prop where
  told : xs.map Fv.fr = fs
  row : Row w' w.heap.size 24 2 v xs.length (frs xs)
  info : ∀ x ∈ xs, Row w' w.heap.size 5 1 x.u x.l.length (x.l.map b8)
  ln : LnS w w' g u u' d'
  off : ∀ k, u'.ownBlock = some k → v.ownBlock ≠ some k ∧ ∀ x ∈ xs, x.u.ownBlock ≠ some k
  apart : ∀ k, v.ownBlock = some k → ∀ x ∈ xs, x.u.ownBlock ≠ some k
  nd : xs.Pairwise (fun a b => ∀ k, a.u.ownBlock = some k → b.u.ownBlock ≠ some k)
/-- the loop variable's box is laid -/
structure F2 (w w3 : World) (Bo g bx : Nat) (act : Fv → Nat → Act) (pre : List Fv) (x : Fv) (a : Act) (W : World) : Prop where
  fx : FX w w3 Bo g bx pre x W
  box : ∃ bf, a = act x bf ∧ W.heap[bf]? = some (.cells #[.int .i64 x.n, x.u] 24 (0, 0))
theorem F2.own {w w3 : World} {Bo g bx : Nat} {act : Fv → Nat → Act} (hc : FC w w3 Bo g bx) : OwnFrom w3.heap.size (fun (s : List Fv × Fv × Act) W => F2 w w3 Bo g bx act s.1 s.2.1 s.2.2 W) := fun s A B row h hg hr => by
  obtain ⟨h1, bf, h2, h3⟩ := h
  refine ⟨h1.own hc _ _ hg hr, bf, h2, (hg.block bf (Array.getElem?_eq_some_iff.1 h3).1 (fun e => ?_)).trans h3⟩
  obtain ⟨-, o', q1, q2⟩ := hr bf e.symm
  rw [h3] at q1
  cases q1
  cases q2
theorem fed_of {w w3 W W0 : World} {Bo g bx D l : Nat} {d : Ln} {u : Value} {bs : List (BitVec 8)} {xs : List Fv} {o o' : Obj} (hc : FC w w3 Bo g bx) (hL : LnAt w g d u) (hS : EachS g d bs xs W0) (hl : W0.heap[l]? = some o) (ho : o.isCells = false) (hW : W = W0.putObj l o') (hI : FI w w3 Bo g bx xs W) (hD : w3.heap.size ≤ D) (hK : W.heap[D]? = some (.deferred (some []))) :
    ∃ v, W.heap[Bo]? = some (.cells #[v] 42 (0, 0)) ∧ Row W w3.heap.size 24 2 v xs.length (frs xs) ∧ ∃ u', Fed w (W.putObj D (.deferred none)) g u u' v (feedL d bs).1 (feedL d bs).2 xs := by
  obtain ⟨hs1, u', hs2⟩ := hS
  have k1 : Kp [g] g W0 W := by rw [hW]; exact Kp.putObj W0 l o o' hl ho
  have k2 : Kp [g] g W (W.putObj D (.deferred none)) := Kp.putObj W D _ _ hK rfl
  have hl2 := (hs2.kept (by simp) k1).kept (by simp) k2
  have hI2 := (FI.own' hc).putObj (.deferred none) hI hD hK rfl
  obtain ⟨h1, ⟨v, h2, h3, h4⟩, h5, h6, h7, h8, h9, h10⟩ := hI2
  have hsz := hc.sz
  have hlo := hc.lo
  have hne : Bo ≠ D := by omega
  obtain ⟨v', q1, q2, -⟩ := hI.out
  have e1 : (W.putObj D (.deferred none)).heap[Bo]? = some (.cells #[v'] 42 (0, 0)) := (World.putObj_heap_other hne).trans q1
  rw [h2] at e1
  cases e1
  refine ⟨v, q1, q2, u', hs1, h3.weak hsz, fun x hx => (h5 x hx).1.weak hsz, ⟨hl2, by rw [← hL.rowOf]; exact h7, fun k hk => ?_⟩, fun k hk => ⟨fun e => (h4 k e).1 (by rw [hl2.rowOf]; exact hk), fun x hx e => (h5 x hx).2 k e (by rw [hl2.rowOf]; exact hk)⟩, fun k hk => (h4 k hk).2, h10⟩
  rw [← hL.rowOf]
  exact h8 k (by rw [hl2.rowOf]; exact hk)
variable (g : Nat) (w : World)
set_option maxRecDepth 100000 in
set_option maxHeartbeats 8000000 in
theorem feed28 (d : Ln) (u : Value) (hok : d.Ok) (h : LnAt w g d u) (bs : List (BitVec 8)) (vb : Value) (hb : BytesAt w vb bs) (hl : bs.length ≤ 1099511627776) :
    Calls Try.prog 28 #[.pointer (some ⟨g, 0, none⟩), vb] w fun e w' => ∃ u' v xs, e = .returned v ∧ Fed w w' g u u' v (feedL d bs).1 (feedL d bs).2 xs := by
  refine (callsIn_wide (n := 9)).1 ?_
  obtain ⟨F, hF⟩ : ∃ F, F = Fence.wide := ⟨_, rfl⟩
  have h28 : F.fn 28 := by rw [hF]; trivial
  have h34 : F.fn 34 := by rw [hF]; trivial
  have h43 : F.fn 43 := by rw [hF]; trivial
  have hro : F.round = none := by rw [hF]; rfl
  have hg := (Array.getElem?_eq_some_iff.1 h.blk).1
  have hb1 : Below w.heap.size w (w.alloc (.cells #[.slice none 0 0] 42)) := (Below.refl _ w).alloc (Nat.le_refl _) _
  have hA := Lib.hid (each34_in F (9 - 1) h34 hro (some ⟨g, 0, none⟩) bs vb _ (hb.below hb1) (by omega))
  have hE := Lib.hid (each43 F hF (9 - 1) (by omega))
  have H0 := Lib.hid (heap_alloc_new w (.cells #[.slice none 0 0] 42))
  have HB1 := Lib.hid hb1
  have HL := Lib.hid h
  have HOk := Lib.hid hok
  rw [← hF]
  clear hF h hb hb1 hok
  refine callsIn_of_wp_marks Try.func28 rfl h28 ?_ hro
  simp only [Try.ntmps28, List.size_toArray, List.length_cons, List.length_nil, Nat.reduceAdd, Nat.reduceSub, Array.replicate_succ, Array.replicate_zero, List.push_toArray, List.append_toArray, List.nil_append, List.cons_append]
  have hz : (w.alloc (.cells #[.slice none 0 0] 42)).heap.size = w.heap.size + 1 := by simp
  rw [hz] at hA
  gi_wp2_with (gi_at_call 34; refine hA.out.mono ?_; rintro e w3 ⟨rfl, hB3, hbl, vc, hbx, hcopy⟩)
  gi_wp2
  have hz3 : w.heap.size + 1 ≤ w3.heap.size := by have := hB3.size; omega
  have hbl3 := (Array.getElem?_eq_some_iff.1 hbl).1
  have hbx3 := (Array.getElem?_eq_some_iff.1 hbx).1
  have hbo : w3.heap[w.heap.size]? = some (.cells #[.slice none 0 0] 42 (0, 0)) := (hB3.block _ (by omega)).trans H0.out
  have hB : Below w.heap.size w w3 := HB1.out.trans (hB3.mono (by omega))
  have hln := HL.out.below hB
  have hul : ∀ k, u.ownBlock = some k → k < w.heap.size ∧ k ≠ g := fun k hk => ⟨(Row.live HL.out.row hk).2, fun e => HL.out.ne (by rw [hk, e])⟩
  have hFC : FC w w3 w.heap.size g (w.heap.size + 1 + 1) := ⟨by omega, by omega, by omega, by omega, by omega, hg, by omega⟩
  have hvl : ∀ k, vc.ownBlock = some k → w.heap.size + 1 + 2 ≤ k ∧ k < w3.heap.size := fun k hk => Row.live hcopy hk
  have hT : ∀ j ∈ ([g, w.heap.size + 1, w.heap.size + 1 + 1] ++ vc.ownBlock.toList), j < w3.heap.size ∧ j ≠ w.heap.size := by
    intro j hj
    simp only [List.cons_append, List.nil_append, List.mem_cons, Option.mem_toList] at hj
    rcases hj with rfl | rfl | rfl | hj
    · omega
    · omega
    · omega
    · have := hvl j hj; omega
  have hEC : EC ([g, w.heap.size + 1, w.heap.size + 1 + 1] ++ vc.ownBlock.toList) g (w.heap.size + 1) (w.heap.size + 1 + 1) w3.heap.size := ⟨by simp, by simp, by simp, by omega, by omega, by omega, fun j hj => (hT j hj).1⟩
  have hseq := hE.out ([g, w.heap.size + 1, w.heap.size + 1 + 1] ++ vc.ownBlock.toList) g (w.heap.size + 1) (w.heap.size + 1 + 1) d bs w3.heap.size w3 rfl hEC HOk.out (fun W J hW hJ => ⟨hW.size, (hW.block _ hbl3).trans hbl, ⟨vc, (hW.block _ hbx3).trans hbx, by
      have := RowB.bytes (w := w3) (v := vc) (l := bs) (hcopy.weak (Nat.zero_le _))
      exact this.below hW, fun j hj => by
        have := hvl j hj
        exact ⟨by simp [hj], by omega, by omega, by omega⟩⟩, ⟨u, by rw [List.take_zero]; exact hln.below hW, fun j hj e => by
        have h1 := hul j e
        simp only [List.cons_append, List.nil_append, List.mem_cons, Option.mem_toList] at hj
        rcases hj with rfl | rfl | rfl | hj
        · exact h1.2 rfl
        · omega
        · omega
        · have := hvl j hj; omega⟩, ⟨[], rfl, hJ⟩⟩)
  have hI0 : FI w w3 w.heap.size g (w.heap.size + 1 + 1) [] w3 := ⟨Nat.le_refl _, ⟨.slice none 0 0, hbo, Row.nil _ _ _ _, fun k hk => by simp [Value.ownBlock] at hk⟩, fun x hx => by simp at hx, by rw [hln.rowOf]; exact fun e => by have := (hul _ e).1; omega, Grown2.below hB _ _, fun k hk => .inl (by rw [HL.out.rowOf]; rwa [hln.rowOf] at hk), fun k hk => by rw [hln.rowOf] at hk; have := (hul k hk).1; omega, List.Pairwise.nil⟩
  generalize ([g, w.heap.size + 1, w.heap.size + 1 + 1] ++ vc.ownBlock.toList) = T at *
  have hFL := Lib.hid (fun (D l : Nat) (xs : List Fv) (W W0 : World) (o o' : Obj) (k1 : w3.heap.size ≤ D) (k2 : EachS g d bs xs W0) (k3 : W0.heap[l]? = some o) (k4 : o.isCells = false) (k5 : W = W0.putObj l o') (k6 : FI w w3 w.heap.size g (w.heap.size + 1 + 1) xs W) (k7 : W.heap[D]? = some (.deferred (some []))) => fed_of hFC HL.out k2 k3 k4 k5 k6 k1 k7)
  clear hE hA hB hln hul hvl hbl hbx hbl3 hbx3 hcopy hbo hB3
  refine wpIn_rangeFunc_R hro (by omega) (gf := 43) (lb := #[.pointer (some ⟨w.heap.size + 1, 0, none⟩), .pointer (some ⟨w.heap.size + 1 + 1, 0, none⟩)]) rfl h43 (enters_of Try.func43 (by kernel_rfl) rfl) hseq (fun hr k o h1 h2 => hr.other k o h1 h2) (fun h1 h2 => h1.trans hEC.mg h2) (fun W l o o' _ h1 h2 => Kp.putObj W l o o' h1 h2) (Below.refl _ _) (fun x => rfl)
    (fun pre W => FI w w3 w.heap.size g (w.heap.size + 1 + 1) pre W) (fun s W => FX w w3 w.heap.size g (w.heap.size + 1 + 1) s.1 s.2 W ∧ s.1.length < bs.length)
    (fun s W => F2 w w3 w.heap.size g (w.heap.size + 1 + 1) (fun x bf => { tmps := #[.pointer (some ⟨g, 0, none⟩), vb, undef, undef, .slice none 0 0, .pointer (some ⟨w.heap.size, 0, none⟩), .pointer (some ⟨bf, 0, none⟩), .pointer (some ⟨g, 0, none⟩), vb, .func (.func 43) #[] #[.pointer (some ⟨w.heap.size + 1, 0, none⟩), .pointer (some ⟨w.heap.size + 1 + 1, 0, none⟩)], .agg #[.int .i64 x.n, x.u], undef, undef, undef, undef, undef], defers := [] }) s.1 s.2.1 s.2.2 W ∧ s.1.length < bs.length)
    (fun _ _ _ => False) (FI.own' hFC) (OwnFrom.and (F2.own hFC) (fun s W W' row hs _ _ => hs)) (fun c s W W' row hs _ _ => hs) (fun s A B hs hr => hs.rl hFC hr) (fun c s A B hs hr => hs) (fun pre x A B h1 h2 h3 h4 => ⟨FX.of hFC h1 h2 h3.1, h4⟩) hI0 ?assign ?body ?done ?stop
  case stop => exact fun D c pre W W0 hD hS hp hx hK => hx.elim
  case assign =>
    rintro ll pre ⟨xn, xu, xl⟩ W K' ⟨hfx, hlt⟩ hK'
    obtain ⟨A2, cp2, hu, -, -⟩ := Row.slice hfx.row
    dsimp only at hu
    subst hu
    have HK := Lib.hid (hK' { tmps := #[.pointer (some ⟨g, 0, none⟩), vb, undef, undef, .slice none 0 0, .pointer (some ⟨w.heap.size, 0, none⟩), .pointer (some ⟨W.heap.size, 0, none⟩), .pointer (some ⟨g, 0, none⟩), vb, .func (.func 43) #[] #[.pointer (some ⟨w.heap.size + 1, 0, none⟩), .pointer (some ⟨w.heap.size + 1 + 1, 0, none⟩)], .agg #[.int .i64 xn, .slice A2 xl.length cp2], undef, undef, undef, undef, undef], defers := [] } (W.alloc (.cells #[.int .i64 xn, .slice A2 xl.length cp2] 24)) (KeepsFrom.of_grownBy (World.grownBy_alloc W _ none) (fun j e => by cases e)) (Kp.below ((Below.refl _ W).alloc (Nat.le_refl _) _)) ⟨⟨hfx.own hFC _ _ (World.grownBy_alloc W _ none) (fun r e => by cases e), W.heap.size, rfl, heap_alloc_new W _⟩, hlt⟩)
    clear hK' hfx hlt
    unfold Fv.enc
    gi_wp2
    exact HK.out
  case body =>
    rintro ll pre ⟨xn, xu, xl⟩ a' W ⟨⟨hfx, bf, ha, hbf⟩, hlt⟩
    dsimp only at hfx ha hbf hlt
    subst ha
    obtain ⟨A2, cp2, hu, -, -⟩ := Row.slice hfx.row
    dsimp only at hu
    subst hu
    obtain ⟨v, h2, h3, -⟩ := hfx.fi.out
    have c1 : W.cell? ⟨w.heap.size, 0, none⟩ = some v := cell_of_row _ _ _ _ _ _ h2
    have c2 : W.cell? ⟨bf, 0, none⟩ = some (.int .i64 xn) := cell_of_row _ _ _ _ _ _ hbf
    have c3 : W.cell? ⟨bf, 1, none⟩ = some (.slice A2 xl.length cp2) := cell_of_row _ _ _ _ _ _ hbf
    obtain ⟨A1, cp1, rfl, -, -⟩ := Row.slice h3
    have HST := Lib.hid (fun (v4 : Value) (w4 : World) hr4 => hfx.step hFC (v4 := v4) (w4 := w4) h2 hr4)
    have hrow2 := Lib.hid (h3.below ((Below.refl _ W).alloc (Nat.le_refl _) (.cells #[.int .i64 xn, .slice A2 xl.length cp2] 24)))
    have HN : Hid (∀ k, (Value.slice A1 pre.length cp1).ownBlock = some k → k ≠ w.heap.size) := Lib.hid (fun k hk e => by have := (Row.live h3 hk).1; omega)
    have H2 := Lib.hid h2
    have s1 : pre.length + 1 ≤ maxLen := by unfold maxLen; omega
    have s2 : (pre.length + 1) * 32 ≤ 140737488355328 := by omega
    have hws : w3.heap.size ≤ (W.alloc (.cells #[.int .i64 xn, .slice A2 xl.length cp2] 24)).heap.size := by have := hfx.fi.size; simp; omega
    clear hfx h2 h3 hbf
    gi_wp2_with (gi_at_builtin; refine wpListIn_row elF rfl _ _ rfl w3.heap.size _ _ _ rfl hrow2.out _ 1 _ rfl (src_fv W xn A2 xl.length cp2 xl) s1 s2 hws ?_)
    intro v4 w4 hr4
    obtain ⟨A4, cp4, hv4, -, -⟩ := Row.slice hr4.row
    subst hv4
    have hst4 := Lib.hid (HST.out _ w4 hr4)
    have b4 : w4.heap[w.heap.size]? = some (.cells #[.slice A1 pre.length cp1] 42 (0, 0)) := (hr4.grow.block _ (by have := (Array.getElem?_eq_some_iff.1 H2.out).1; simp; omega) (fun e => HN.out _ e.symm rfl)).trans ((Below.heap_alloc _ _ _ (Array.getElem?_eq_some_iff.1 H2.out).1).trans H2.out)
    have e1 : w4.cell? ⟨w.heap.size, 0, none⟩ = some (.slice A1 pre.length cp1) := cell_of_row _ _ _ _ _ _ b4
    have f1 : w4.frozen? ⟨w.heap.size, 0, none⟩ = false := frozen_of_row _ _ _ _ _ b4
    clear HST hr4 b4 hrow2 c1
    gi_wp2
    exact ⟨hst4.out.2.1, hst4.out.2.2 T hT, hst4.out.1⟩
  case done =>
    rintro D xs W W0 hD hS ⟨l, o, o', hl1, hl2, ho, hW⟩ hI hK
    obtain ⟨v, q1, q2, u', q3⟩ := hFL.out D l xs W W0 o o' hD hS hl2 ho hW hI hK
    have c1 : W.cell? ⟨w.heap.size, 0, none⟩ = some v := cell_of_row _ _ _ _ _ _ q1
    obtain ⟨A1, cp1, rfl, -, -⟩ := Row.slice q2
    have H3 := Lib.hid q3
    clear q1 q2 q3 hS hW hI
    gi_wp2
    refine ⟨by simp, .inl ⟨_, _, rfl, run_takeDeferred hK, ?_⟩⟩
    exact ⟨_, results_tmp (t := 4) rfl _ _ _, _, _, _, rfl, H3.out⟩
end Go.Proofs.Ytedhldcoddbbdaa.F
