import Derived.Test.YtcgihilcjijckaaF1
set_option linter.unusedVariables false
set_option linter.unusedSimpArgs false
namespace Go.Proofs.Ytcgihilcjijckaa.F
open Go.RowKit Go.Proofs.Ytcgihilcjijckaa.K Go.Shelf
attribute [local go_sem] Oper.semAt_some
theorem all35_in (F : Fence) (nf : Nat) (h35 : F.fn 35) (hro : F.round = none) (p : Option Addr) (w : World) :
    CallsIn F nf Try.prog 35 #[.pointer p] w fun e w' => e = .returned (.func (.func 42) #[] #[.pointer (some ⟨w.heap.size, 0, none⟩)]) ∧ w.alloc (.cells #[.pointer p] 23) = w' := by
  refine callsIn_of_wp Try.func35 rfl h35 ?_ hro
  simp only [Try.ntmps35, List.size_toArray, List.length_cons, List.length_nil, Nat.reduceAdd, Nat.reduceSub, Array.replicate_succ, Array.replicate_zero, List.push_toArray, List.append_toArray, List.nil_append, List.cons_append]
  gi_wp2
  go_ret
  exact ⟨rfl, rfl⟩
theorem all42_nil (F : Fence) (nf : Nat) (h42 : F.fn 42) (hro : F.round = none) (Bn c : Nat) (w : World) (hBn : Bn < w.heap.size) (hc : w.cell? ⟨Bn, 0, none⟩ = some (.pointer none)) :
    SeqStopsK F nf Try.prog 42 #[.pointer (some ⟨Bn, 0, none⟩)] On.enc (Kc c) (fun ys => ys = []) (fun pre => pre <+: []) 64 w := fun ll J Jx W hW hJ hJx hY h0 => by
  have cB := (hW.cell (p := ⟨Bn, 0, none⟩) hBn).trans hc
  clear hY hJ hJx hc hW
  refine callsIn_of_wp Try.func42 rfl h42 ?_ hro
  simp only [Try.ntmps42, List.size_toArray, List.length_cons, List.length_nil, Nat.reduceAdd, Nat.reduceSub, Array.replicate_succ, Array.replicate_zero, List.push_toArray, List.append_toArray, List.nil_append, List.cons_append]
  gi_wp2
  refine bodyPost_ret (results_none rfl _ _ _) rfl ?_
  exact ⟨⟨_, rfl⟩, .inl ⟨[], rfl, h0⟩⟩
theorem run_equalIn_func_nil {P : Program} (W : World) (d : Nat) (t : TypeId) {ps rs : Array TypeId} {vd : Bool} (f : Fn) (a b : Array Value) (h : P.underlying t = some (.func ps rs vd)) : (Op.equalIn (d + 1) t (.func f a b) .nilFunc).run P W = .ok false W := by
  simp [Op.equalIn, run_underlying h]
theorem run_eql_func_nil {P : Program} (W : World) (t : TypeId) {ps rs : Array TypeId} {vd : Bool} (f : Fn) (a b : Array Value) (h : P.underlying t = some (.func ps rs vd)) : (binOp .eql t (.func f a b) .nilFunc).run P W = .ok (.bool false) W := by
  simp only [binOp]
  simp [Op.equal, Op.maxDepth, run_equalIn_func_nil W 9999 t f a b h]
theorem eql66 (W : World) (f : Fn) (a b : Array Value) : (binOp .eql 66 (.func f a b) .nilFunc).run Try.prog W = .ok (.bool false) W := run_eql_func_nil W 66 f a b Try.underlying66
/-- what 'every' holds between two rounds -/
structure Ev (w : World) (Bm Bl : Nat) (most : Int) (pre : List On) (W : World) : Prop where
  ex : ∃ v, W.heap[Bl]? = some (.cells #[v] 24 (0, 0)) ∧ Row W w.heap.size 29 2 v pre.length (ons pre) ∧ v.ownBlock ≠ some Bl ∧ v.ownBlock ≠ some Bm
  m : W.heap[Bm]? = some (.cells #[.int .i64 most] 3 (0, 0))
  below : Below w.heap.size w W
theorem ev_own {w : World} {Bm Bl B : Nat} {most : Int} (hB : w.heap.size ≤ B) : OwnFrom B (Ev w Bm Bl most) := fun s W W' row hs hg hr => by
  have key : ∀ (k : Nat) (o : Obj), W.heap[k]? = some o → o.isCells = true → W'.heap[k]? = some o := fun k o hk ho => (hg.block k (Array.getElem?_eq_some_iff.1 hk).1 (fun e => by
    obtain ⟨-, o', h1, h2⟩ := hr k e.symm
    rw [hk] at h1
    cases h1
    rw [ho] at h2
    cases h2)).trans hk
  obtain ⟨⟨v, h1, h2, h3⟩, hm, hb⟩ := hs
  refine ⟨⟨v, key _ _ h1 rfl, h2.kept hg (fun k hk e => ?_), h3⟩, key _ _ hm rfl, hb.grown hg hb.size (fun k e => Nat.le_trans hB (hr k e).1)⟩
  obtain ⟨-, o', q1, q2⟩ := hr k e
  rcases h2.form with ⟨r1, -⟩ | ⟨b, cap, cur, r1, -, r3, -⟩
  · rw [r1] at hk; simp [Value.ownBlock] at hk
  · rw [r1] at hk
    simp only [Value.ownBlock, Option.some.injEq] at hk
    subst hk
    rw [r3] at q1
    cases q1
    cases q2
def evW (w : World) (most : Int) (p : Value) : World := ((w.alloc (.cells #[.int .i64 most] 3)).alloc (.cells #[.slice none 0 0] 24)).alloc (.cells #[p] 23)
theorem evW_size (w : World) (most : Int) (p : Value) : (evW w most p).heap.size = w.heap.size + 3 := by simp [evW]
theorem evW_below (w : World) (most : Int) (p : Value) : Below w.heap.size w (evW w most p) := by
  unfold evW
  exact (((Below.refl _ w).alloc (Nat.le_refl _) _).alloc (by simp) _).alloc (by simp; omega) _
theorem evW_start (w : World) (most : Int) (p : Value) : Ev w w.heap.size (w.heap.size + 1) most [] (evW w most p) := by
  refine ⟨⟨.slice none 0 0, ?_, Row.nil _ _ _ _, by simp [Value.ownBlock], by simp [Value.ownBlock]⟩, ?_, evW_below w most p⟩
  · unfold evW
    rw [Below.heap_alloc _ _ _ (by simp)]
    have := World.alloc_heap_new (w.alloc (.cells #[.int .i64 most] 3)) (.cells #[.slice none 0 0] 24)
    rwa [World.size_alloc] at this
  · unfold evW
    rw [Below.heap_alloc _ _ _ (by simp; omega), Below.heap_alloc _ _ _ (by simp)]
    exact World.alloc_heap_new w _
theorem evW_fn (w : World) (most : Int) (p : Value) : (evW w most p).cell? ⟨w.heap.size + 2, 0, none⟩ = some p := by
  have := cell_of_row (evW w most p) (w.heap.size + 2) 0 #[p] 23 (0, 0) (by
    unfold evW
    have := World.alloc_heap_new ((w.alloc (.cells #[.int .i64 most] 3)).alloc (.cells #[.slice none 0 0] 24)) (.cells #[p] 23)
    simpa using this)
  simpa using this
theorem ev_ownAt {w W : World} {Bm Bl : Nat} {most : Int} {pre : List On} (h : Ev w Bm Bl most pre W) : ∀ k, ownAt W Bl = some k → k < W.heap.size := fun k hk => by
  obtain ⟨v, h1, h2, h3⟩ := h.ex
  unfold ownAt at hk
  rw [cell_of_row _ _ _ _ _ _ h1] at hk
  exact (Row.live h2 hk).2
def EvI (w : World) (Bm Bl : Nat) (most : Int) (pre : List On) (W : World) : Prop := Ev w Bm Bl most pre W ∧ (pre.length : Int) < most
def EvX (w : World) (Bm Bl : Nat) (most : Int) (c : Code) (pre : List On) (W : World) : Prop := Ev w Bm Bl most pre W ∧ c = .exit 0 ∧ (pre.length : Int) = most
/-- what 'every' gives back -/
def EveryR (L : List On) (most : Int) (w : World) (e : Ending) (w' : World) : Prop := ∃ u, e = .returned u ∧ Row w' w.heap.size 29 2 u (L.take most.toNat).length (ons (L.take most.toNat)) ∧ Below w.heap.size w w'
theorem ev_step {w W w4 : World} {Bm Bl : Nat} {most : Int} {pre : List On} {x : On} {v1 v4 : Value} (hm : w.heap.size ≤ Bm) (hl : w.heap.size ≤ Bl) (hml : Bm ≠ Bl) (hblk : W.heap[Bl]? = some (.cells #[v1] 24 (0, 0))) (hrow : Row W w.heap.size 29 2 v1 pre.length (ons pre)) (h1 : v1.ownBlock ≠ some Bl) (h2 : v1.ownBlock ≠ some Bm) (hmb : W.heap[Bm]? = some (.cells #[.int .i64 most] 3 (0, 0))) (hb : Below w.heap.size w W)
    (hr : RowR (W.alloc (.cells #[.int .i64 x.id, .int .i64 x.at_] 29)) w4 w.heap.size 29 2 v1 v4 (pre.length + 1) (ons pre ++ ons [x])) :
    KeepsOthers W (w4.setCell ⟨Bl, 0, none⟩ v4) ∧ Kc Bl W (w4.setCell ⟨Bl, 0, none⟩ v4) ∧ Ev w Bm Bl most (pre ++ [x]) (w4.setCell ⟨Bl, 0, none⟩ v4) := by
  have hlB := (Array.getElem?_eq_some_iff.1 hblk).1
  have hlM := (Array.getElem?_eq_some_iff.1 hmb).1
  have hsz4 : W.heap.size + 1 ≤ w4.heap.size := by have := hr.grow.size; simpa using this
  have hsz : W.heap.size ≤ (w4.setCell ⟨Bl, 0, none⟩ v4).heap.size := by
    show W.heap.size ≤ (w4.heap.modify _ _).size
    rw [Array.size_modify]
    omega
  have keep : ∀ k, k < W.heap.size → v1.ownBlock ≠ some k → w4.heap[k]? = W.heap[k]? := fun k hk hn => (hr.grow.block k (by simp; omega) (fun e => hn e.symm)).trans (Below.heap_alloc _ _ _ hk)
  have b4 : w4.heap[Bl]? = some (.cells #[v1] 24 (0, 0)) := (keep Bl hlB h1).trans hblk
  have o4 : ∀ k, v4.ownBlock = some k → v1.ownBlock = some k ∨ W.heap.size ≤ k := fun k hk => by
    rcases hr.own k hk with q | q
    · exact .inl q
    · exact .inr (by simp at q; omega)
  have n1 : v4.ownBlock ≠ some Bl := fun e => by
    rcases o4 _ e with q | q
    · exact h1 q
    · omega
  have n2 : v4.ownBlock ≠ some Bm := fun e => by
    rcases o4 _ e with q | q
    · exact h2 q
    · omega
  have oat : ownAt W Bl = v1.ownBlock := by unfold ownAt; rw [cell_of_row _ _ _ _ _ _ hblk]; rfl
  have bset : (w4.setCell ⟨Bl, 0, none⟩ v4).heap[Bl]? = some (.cells #[v4] 24 (0, 0)) := heap_setCell_same _ _ _ _ _ _ b4
  have oat2 : ownAt (w4.setCell ⟨Bl, 0, none⟩ v4) Bl = v4.ownBlock := by unfold ownAt; rw [cell_of_row _ _ _ _ _ _ bset]; rfl
  have hset : w4.grownBy (w4.setCell ⟨Bl, 0, none⟩ v4) (some Bl) := ⟨rfl, rfl, rfl, by simp [World.setCell], fun k _ hk => heap_setCell_other _ _ _ _ (fun e => hk (by simp [e]))⟩
  have live1 : ∀ k, v1.ownBlock = some k → ∃ o, W.heap[k]? = some o ∧ o.isCells = true := fun k hk => by
    rcases hrow.form with ⟨r1, -⟩ | ⟨b, cap, cur, r1, -, r3, -⟩
    · rw [r1] at hk; simp [Value.ownBlock] at hk
    · rw [r1] at hk
      simp only [Value.ownBlock, Option.some.injEq] at hk
      subst hk
      exact ⟨_, r3, rfl⟩
  have rest : ∀ (k : Nat) (o : Obj), W.heap[k]? = some o → k ≠ Bl → v1.ownBlock ≠ some k → (w4.setCell ⟨Bl, 0, none⟩ v4).heap[k]? = some o := fun k o hk hn1 hn2 =>
    (heap_setCell_other _ _ _ _ hn1).trans ((keep k (Array.getElem?_eq_some_iff.1 hk).1 hn2).trans hk)
  refine ⟨⟨hsz, fun k o hk ho => rest k o hk (fun e => ?_) (fun e => ?_)⟩, ⟨hsz, fun k o hk ho hn1 hn2 => rest k o hk hn1 (by rw [← oat]; exact hn2), fun k hk => ?_⟩, ⟨⟨v4, bset, ?_, n1, n2⟩, rest _ _ hmb hml h2, ?_⟩⟩
  · subst e; rw [hblk] at hk; cases hk; cases ho
  · obtain ⟨o', q1, q2⟩ := live1 k e
    rw [hk] at q1; cases q1; rw [ho] at q2; cases q2
  · rw [oat2] at hk; rw [oat]; exact o4 k hk
  · rw [List.length_append, ons_app]
    exact hr.row.kept hset (fun k hk e => n1 (by rw [hk, ← e]))
  · refine ⟨hr.grow.os.trans hb.os, hr.grow.tape.trans hb.tape, hr.grow.output.trans hb.output, Nat.le_trans hb.size hsz, fun k hk => ?_⟩
    rw [heap_setCell_other _ _ _ _ (show k ≠ Bl by omega)]
    exact (keep k (Nat.lt_of_lt_of_le hk hb.size) (fun e => by have := (Row.live hrow e).1; omega)).trans (hb.block k hk)
theorem ev_fin {w W : World} {Bm Bl D : Nat} {most : Int} {pre L : List On} {v1 : Value} (h : Ev w Bm Bl most pre (W.putObj D (.deferred none))) (hb : W.heap[Bl]? = some (.cells #[v1] 24 (0, 0))) (hK : W.heap[D]? = some (.deferred (some []))) (hp : pre = L.take most.toNat) : EveryR L most w (.returned v1) (W.putObj D (.deferred none)) := by
  obtain ⟨⟨v, h1, h2, -⟩, -, h3⟩ := h
  rw [World.putObj_heap_other (fun e => by subst e; rw [hb] at hK; cases hK), hb] at h1
  cases h1
  subst hp
  exact ⟨_, rfl, h2, h3⟩
set_option maxRecDepth 100000 in
set_option maxHeartbeats 4000000 in
theorem every20_gen (p : Option Addr) (w : World) (most : Int) (L : List On) (hl : L.length ≤ 64) (hm : 1 ≤ most)
    (hseq : ∀ (F : Fence) (h42 : F.fn 42) (hro : F.round = none) (W3 : World) (hb : Below w.heap.size w W3) (hsz : W3.heap.size = w.heap.size + 3) (hfn : W3.cell? ⟨w.heap.size + 2, 0, none⟩ = some (.pointer p)) (hown : ∀ k, ownAt W3 (w.heap.size + 1) = some k → k < W3.heap.size), SeqStopsK F 8 Try.prog 42 #[.pointer (some ⟨w.heap.size + 2, 0, none⟩)] On.enc (Kc (w.heap.size + 1)) (fun ys => ys = L) (fun pre => pre <+: L) 64 W3) :
    Calls Try.prog 20 #[.pointer p, .int .i64 most] w (EveryR L most w) := by
  refine (callsIn_wide (n := 9)).1 ?_
  obtain ⟨F, hF⟩ : ∃ F, F = Fence.wide := ⟨_, rfl⟩
  have h20 : F.fn 20 := by rw [hF]; trivial
  have h35 : F.fn 35 := by rw [hF]; trivial
  have h42 : F.fn 42 := by rw [hF]; trivial
  have hro : F.round = none := by rw [hF]; rfl
  rw [← hF]
  clear hF
  obtain ⟨W1, hW1⟩ : ∃ W1, W1 = (w.alloc (.cells #[.int .i64 most] 3)).alloc (.cells #[.slice none 0 0] 24) := ⟨_, rfl⟩
  have hA := Lib.hid (fun W => all35_in F (9 - 1) h35 hro p W)
  have h66 := eql66
  refine callsIn_of_wp_marks Try.func20 rfl h20 ?_ hro
  simp only [Try.ntmps20, List.size_toArray, List.length_cons, List.length_nil, Nat.reduceAdd, Nat.reduceSub, Array.replicate_succ, Array.replicate_zero, List.push_toArray, List.append_toArray, List.nil_append, List.cons_append]
  gi_wp2_with (gi_at_call 35; refine (hA.out _).mono ?_; rintro e w' ⟨rfl, rfl⟩)
  gi_wp2
  have hEW : (((w.alloc (.cells #[.int .i64 most] 3)).alloc (.cells #[.slice none 0 0] 24)).alloc (.cells #[.pointer p] 23)) = evW w most (.pointer p) := rfl
  rw [hEW]
  have hsz := evW_size w most (.pointer p)
  have hst := evW_start w most (.pointer p)
  have hfn := evW_fn w most (.pointer p)
  generalize evW w most (.pointer p) = W3 at *
  clear hEW
  refine wpIn_rangeFunc_ownF hro (by omega) (gf := 42) (lb := #[.pointer (some ⟨w.heap.size + 2, 0, none⟩)]) rfl h42 (enters_of Try.func42 (by kernel_rfl) rfl)
    (hseq F h42 hro W3 hst.below hsz hfn (ev_ownAt hst)) kc_t (kc_b (by omega)) (Below.refl _ _) (by intro x; rfl)
    (EvI w w.heap.size (w.heap.size + 1) most) (EvX w w.heap.size (w.heap.size + 1) most) ?hI ?hIx ?h0
    (fun x => { tmps := #[.pointer p, .int .i64 most, undef, .pointer (some ⟨w.heap.size, 0, none⟩), .slice none 0 0, .pointer (some ⟨w.heap.size + 1, 0, none⟩), .func (.func 42) #[] #[.pointer (some ⟨w.heap.size + 2, 0, none⟩)], .int .i64 x.id, .int .i64 x.at_, .pointer p, .func (.func 42) #[] #[.pointer (some ⟨w.heap.size + 2, 0, none⟩)], .func (.func 42) #[] #[.pointer (some ⟨w.heap.size + 2, 0, none⟩)], .bool false, .func (.func 42) #[] #[.pointer (some ⟨w.heap.size + 2, 0, none⟩)], .int .i64 x.id, .int .i64 x.at_, undef, undef, undef, undef, undef, undef, undef, undef, undef, undef, undef], defers := [] }) ?assign ?body ?done ?stop
  case hI => exact OwnFrom.and (ev_own (by omega)) (fun s W W' row hs _ _ => hs)
  case hIx => exact fun c => OwnFrom.and (ev_own (by omega)) (fun s W W' row hs _ _ => hs)
  case h0 => exact ⟨hst, by simp; omega⟩
  case assign =>
    intro ll x W K hK
    unfold On.enc
    gi_wp2
    exact hK
  case body =>
    rintro ll pre x W ⟨⟨⟨v1, hblk, hrow, hn1, hn2⟩, hmb, hbel⟩, hlt⟩ hlen
    have c1 : W.cell? ⟨w.heap.size + 1, 0, none⟩ = some v1 := (cell_of_row _ _ _ _ _ _ hblk).trans rfl
    obtain ⟨A1, cp1, hv1, k1, k2⟩ := Row.slice hrow
    have HST := Lib.hid (fun (v4 : Value) (w4 : World) hr4 => ev_step (Bm := w.heap.size) (Bl := w.heap.size + 1) (most := most) (pre := pre) (x := x) (v4 := v4) (w4 := w4) (Nat.le_refl _) (by omega) (by omega) hblk hrow hn1 hn2 hmb hbel hr4)
    have HBL := Lib.hid hblk
    have HMB := Lib.hid hmb
    have hrow2 := Lib.hid (hrow.below ((Below.refl _ W).alloc (Nat.le_refl _) (.cells #[.int .i64 x.id, .int .i64 x.at_] 29)))
    have HN1 := Lib.hid hn1
    have HN2 := Lib.hid hn2
    have s1 : pre.length + 1 ≤ maxLen := by unfold maxLen; omega
    have s2 : (pre.length + 1) * 16 ≤ 140737488355328 := by omega
    have hws : w.heap.size ≤ (W.alloc (.cells #[.int .i64 x.id, .int .i64 x.at_] 29)).heap.size := by have := hbel.size; simp; omega
    clear hblk hrow hn1 hn2 hmb
    subst hv1
    gi_wp2_with (gi_at_builtin; refine wpListIn_row elO rfl _ _ rfl w.heap.size _ _ _ rfl hrow2.out _ 1 _ rfl (src_on W x.id x.at_) s1 s2 hws ?_)
    intro v4 w4 hr4
    obtain ⟨A4, cp4, hv4, -, -⟩ := Row.slice hr4.row
    subst hv4
    have hst4 := Lib.hid (HST.out _ w4 hr4)
    have b4 : w4.heap[w.heap.size + 1]? = some (.cells #[.slice A1 pre.length cp1] 24 (0, 0)) := (hr4.grow.block _ (by have := (Array.getElem?_eq_some_iff.1 HBL.out).1; simp; omega) (fun e => HN1.out e.symm)).trans ((Below.heap_alloc _ _ _ (Array.getElem?_eq_some_iff.1 HBL.out).1).trans HBL.out)
    have bm4 : w4.heap[w.heap.size]? = some (.cells #[.int .i64 most] 3 (0, 0)) := (hr4.grow.block _ (by have := (Array.getElem?_eq_some_iff.1 HMB.out).1; simp; omega) (fun e => HN2.out e.symm)).trans ((Below.heap_alloc _ _ _ (Array.getElem?_eq_some_iff.1 HMB.out).1).trans HMB.out)
    have e1 : w4.cell? ⟨w.heap.size + 1, 0, none⟩ = some (.slice A1 pre.length cp1) := (cell_of_row _ _ _ _ _ _ b4).trans rfl
    have f1 : w4.frozen? ⟨w.heap.size + 1, 0, none⟩ = false := frozen_of_row _ _ _ _ _ b4
    have e2 : w4.cell? ⟨w.heap.size, 0, none⟩ = some (.int .i64 most) := (cell_of_row _ _ _ _ _ _ bm4).trans rfl
    clear HST hr4 b4 bm4 hrow2 c1
    by_cases hlast : most ≤ (pre.length : Int) + 1
    · gi_wp2
      exact ⟨hst4.out.1, hst4.out.2.2, rfl, by simp; omega⟩
    · gi_wp2
      exact ⟨hst4.out.1, hst4.out.2.1, hst4.out.2.2, by simp; omega⟩
  case done =>
    rintro D ys W hD hys ⟨hev, hlt⟩ hK
    have HYS := Lib.hid hys
    have HLT := Lib.hid hlt
    clear hys hlt
    have HEV := Lib.hid ((ev_own (B := w.heap.size) (Nat.le_refl _)).putObj (.deferred none) hev (by omega) hK rfl)
    obtain ⟨⟨v1, hblk, hrow, hn1, hn2⟩, hmb, hbel⟩ := hev
    have c1 : W.cell? ⟨w.heap.size + 1, 0, none⟩ = some v1 := (cell_of_row _ _ _ _ _ _ hblk).trans rfl
    have HB := Lib.hid hblk
    obtain ⟨A1, cp1, hv1, k1, k2⟩ := Row.slice hrow
    subst hv1
    clear hblk hrow hmb
    gi_wp2
    refine ⟨by simp, .inl ⟨_, _, rfl, run_takeDeferred hK, ?_⟩⟩
    have hfin := ev_fin (L := L) HEV.out HB.out hK (by
      have hys := HYS.out
      have hlt := HLT.out
      have h2 := congrArg List.length hys
      rw [← hys, List.take_of_length_le (by omega)])
    exact ⟨_, results_tmp (t := 4) rfl _ _ _, hfin⟩
  case stop =>
    rintro D c pre W hD hpre ⟨hev, rfl, hge⟩ hK
    have HP := Lib.hid hpre
    have HGE := Lib.hid hge
    clear hpre hge
    have HEV := Lib.hid ((ev_own (B := w.heap.size) (Nat.le_refl _)).putObj (.deferred none) hev (by omega) hK rfl)
    obtain ⟨⟨v1, hblk, hrow, hn1, hn2⟩, hmb, hbel⟩ := hev
    have c1 : W.cell? ⟨w.heap.size + 1, 0, none⟩ = some v1 := (cell_of_row _ _ _ _ _ _ hblk).trans rfl
    have HB := Lib.hid hblk
    obtain ⟨A1, cp1, hv1, k1, k2⟩ := Row.slice hrow
    subst hv1
    clear hblk hrow hmb
    gi_wp2
    refine ⟨by simp, .inl ⟨_, _, rfl, run_takeDeferred hK, ?_⟩⟩
    have hfin := ev_fin (L := L) HEV.out HB.out hK (by
      have hp := HP.out
      have hge := HGE.out
      rw [List.prefix_iff_eq_take.1 hp]
      congr 1
      omega)
    exact ⟨_, results_tmp (t := 4) rfl _ _ _, hfin⟩
theorem every20 (g : Nat) (w : World) (v : Value) (m most : Int) (l : List Tm) (hl : l.length ≤ 64) (hm : 1 ≤ most) (hQ : QAt w g v m l) : Calls Try.prog 20 #[.pointer (some ⟨g, 0, none⟩), .int .i64 most] w (EveryR (l.map Tm.on) most w) :=
  every20_gen _ w most _ (by simpa using hl) hm (fun F h42 hro W3 hb hsz hfn hown => all42_stops F 8 h42 hro (by omega) (w.heap.size + 2) g (w.heap.size + 1) v m l hl W3 (by omega) hfn (hQ.below hb) (by omega) hown)
theorem every20_nil (w : World) (most : Int) (hm : 1 ≤ most) : Calls Try.prog 20 #[.pointer none, .int .i64 most] w (EveryR [] most w) :=
  every20_gen _ w most _ (by simp) hm (fun F h42 hro W3 hb hsz hfn hown => all42_nil F 8 h42 hro (w.heap.size + 2) (w.heap.size + 1) W3 (by omega) hfn)
end Go.Proofs.Ytcgihilcjijckaa.F
