import Derived.Test.YtedhldcoddbbdaaR2
set_option linter.unusedVariables false
set_option linter.unusedSimpArgs false
set_option linter.unnecessarySimpa false
namespace Go.Proofs.Ytedhldcoddbbdaa.F
open Go.RowKit Go.Proofs.Ytedhldcoddbbdaa.K Go.Shelf
attribute [local go_sem] Oper.semAt_some
/-- a byte comes -/
def stepL (d : Ln) (c : BitVec 8) : Ln × Option (Int × List (BitVec 8)) := if c = 126#8 then d.fin else (d.put c, none)
/-- bytes come -/
def feedL (d : Ln) : List (BitVec 8) → Ln × List (Int × List (BitVec 8))
  | [] => (d, [])
  | c :: r => ((feedL (stepL d c).1 r).1, (stepL d c).2.toList ++ (feedL (stepL d c).1 r).2)
theorem feedL_append (d : Ln) (p q : List (BitVec 8)) : feedL d (p ++ q) = ((feedL (feedL d p).1 q).1, (feedL d p).2 ++ (feedL (feedL d p).1 q).2) := by
  induction p generalizing d with
  | nil => simp [feedL]
  | cons c r ih => simp only [List.cons_append, feedL, ih, List.append_assoc]
theorem feedL_snoc (d : Ln) (p : List (BitVec 8)) (c : BitVec 8) : feedL d (p ++ [c]) = ((stepL (feedL d p).1 c).1, (feedL d p).2 ++ (stepL (feedL d p).1 c).2.toList) := by
  rw [feedL_append]
  simp [feedL]
theorem feedL_take (d : Ln) (p : List (BitVec 8)) (k : Nat) (h : k < p.length) : feedL d (p.take (k + 1)) = ((stepL (feedL d (p.take k)).1 p[k]).1, (feedL d (p.take k)).2 ++ (stepL (feedL d (p.take k)).1 p[k]).2.toList) := by
  rw [List.take_succ_eq_append_getElem h, feedL_snoc]
theorem feedL_len (d : Ln) (p : List (BitVec 8)) : (feedL d p).2.length ≤ p.length := by
  induction p generalizing d with
  | nil => simp [feedL]
  | cons c r ih =>
    have h1 := ih (stepL d c).1
    have h2 : (stepL d c).2.toList.length ≤ 1 := by cases (stepL d c).2 <;> simp
    simp only [feedL, List.length_append, List.length_cons]
    omega
theorem Ln.Ok.put {d : Ln} (h : d.Ok) (c : BitVec 8) : (d.put c).Ok := by
  obtain ⟨h0, h1, h2⟩ := h
  unfold Ln.put
  split
  · exact ⟨h0, h1, h2⟩
  · split
    · exact ⟨h0, h1, h2⟩
    · refine ⟨h0, h1, ?_⟩
      dsimp only
      split
      · rw [List.length_append]; simp only [List.length_cons, List.length_nil]; omega
      · exact h2
theorem Ln.Ok.fin {d : Ln} (h : d.Ok) : d.fin.1.Ok := by
  obtain ⟨h0, h1, h2⟩ := h
  unfold Ln.fin
  have key : ∀ e : Ln, e.mru = d.mru → e.l = [] → e.Ok := fun e q1 q2 => ⟨by omega, by omega, by rw [q2, q1]; simp; omega⟩
  repeat' split
  all_goals exact key _ rfl rfl
theorem Ln.Ok.step {d : Ln} (h : d.Ok) (c : BitVec 8) : (stepL d c).1.Ok := by
  unfold stepL
  split
  · exact h.fin
  · exact h.put c
theorem Ln.Ok.feed {d : Ln} (h : d.Ok) (p : List (BitVec 8)) : (feedL d p).1.Ok := by
  induction p generalizing d with
  | nil => exact h
  | cons c r ih => exact ih (h.step c)
/-- a frame told, where its bytes lie -/
structure Fv where
  n : Int
  u : Value
  l : List (BitVec 8)
def Fv.fr (x : Fv) : Int × List (BitVec 8) := (x.n, x.l)
def Fv.enc (x : Fv) : Array Value := #[.agg #[.int .i64 x.n, x.u]]
/-- what is told of a frame -/
structure Gx (g : Nat) (x : Fv) (A B : World) : Prop where
  row : Row B A.heap.size 5 1 x.u x.l.length (x.l.map b8)
  none : rowOf B g = none
/-- between two bytes -/
structure EI (T : List Nat) (g bl bx : Nat) (d : Ln) (bs : List (BitVec 8)) (B : Nat) (J : List Fv → World → Prop) (k : Nat) (w : World) : Prop where
  size : B ≤ w.heap.size
  box : w.heap[bl]? = some (.cells #[.pointer (some ⟨g, 0, none⟩)] 46 (0, 0))
  cur : ∃ v, w.heap[bx]? = some (.cells #[v] 22 (0, 0)) ∧ BytesAt w v (bs.drop k) ∧ ∀ j, v.ownBlock = some j → j ∈ T ∧ j ≠ g ∧ j ≠ bl ∧ j ≠ bx
  ln : ∃ u, LnAt w g (feedL d (bs.take k)).1 u ∧ ∀ j ∈ T, u.ownBlock ≠ some j
  told : ∃ xs, xs.map Fv.fr = (feedL d (bs.take k)).2 ∧ J xs w
/-- the constants -/
structure EC (T : List Nat) (g bl bx B : Nat) : Prop where
  mg : g ∈ T
  ml : bl ∈ T
  mx : bx ∈ T
  gl : g ≠ bl
  gx : g ≠ bx
  lx : bl ≠ bx
  lt : ∀ j ∈ T, j < B
theorem _root_.Go.Proofs.Ytedhldcoddbbdaa.K.BytesAt.kp {T : List Nat} {g : Nat} {A B : World} {v : Value} {l : List (BitVec 8)} (h : BytesAt A v l) (hk : Kp T g A B) (ht : ∀ j, v.ownBlock = some j → j ∈ T) : BytesAt B v l :=
  h.mono fun b o u hc hb => by
    obtain ⟨ob, q1, q2⟩ := cells_of_cell hc
    exact (World.cell?_of_block ((hk.same b ob q1 q2 (.inl (ht b hb.symm))).trans q1.symm)).trans hc
/-- behind a round -/
theorem EI.round {T : List Nat} {g bl bx : Nat} {d : Ln} {bs : List (BitVec 8)} {B : Nat} {J : List Fv → World → Prop} {k : Nat} {w w' : World} {J' : List Fv → World → Prop} (hc : EC T g bl bx B) (h : EI T g bl bx d bs B J k w) (hk : Kp T g w w') (hj : ∃ xs, xs.map Fv.fr = (feedL d (bs.take k)).2 ∧ J' xs w') : EI T g bl bx d bs B J' k w' := by
  obtain ⟨h1, h2, ⟨v, h3, h4, h5⟩, ⟨u, h6, h7⟩, -⟩ := h
  exact ⟨Nat.le_trans h1 hk.size, hk.same _ _ h2 rfl (.inl hc.ml), ⟨v, hk.same _ _ h3 rfl (.inl hc.mx), h4.kp hk (fun j e => (h5 j e).1), h5⟩, ⟨u, h6.kept hc.mg hk, h7⟩, hj⟩
/-- within a round -/
structure EM (T : List Nat) (g bl bx : Nat) (bs : List (BitVec 8)) (B : Nat) (k : Nat) (wr : World) (u : Value) (d : Ln) (w : World) : Prop where
  rl : Rl g bx wr w
  size : B ≤ w.heap.size
  box : w.heap[bl]? = some (.cells #[.pointer (some ⟨g, 0, none⟩)] 46 (0, 0))
  cur : ∃ v, w.heap[bx]? = some (.cells #[v] 22 (0, 0)) ∧ BytesAt w v (bs.drop (k + 1)) ∧ ∀ j, v.ownBlock = some j → j ∈ T ∧ j ≠ g ∧ j ≠ bl ∧ j ≠ bx
  ln : LnAt w g d u
  no : ∀ j ∈ T, u.ownBlock ≠ some j
theorem EI.move {T : List Nat} {g bl bx : Nat} {d : Ln} {bs : List (BitVec 8)} {B : Nat} {J : List Fv → World → Prop} {k : Nat} {wr : World} (hC : EC T g bl bx B) (h : EI T g bl bx d bs B J k wr) (v' : Value) (hb : BytesAt wr v' (bs.drop (k + 1))) (ho : ∀ j, v'.ownBlock = some j → j ∈ T ∧ j ≠ g ∧ j ≠ bl ∧ j ≠ bx) : ∃ u, EM T g bl bx bs B k wr u (feedL d (bs.take k)).1 (wr.setCell ⟨bx, 0, none⟩ v') := by
  obtain ⟨h1, h2, ⟨v, h3, -, -⟩, ⟨u, h6, h7⟩, -⟩ := h
  have hset : wr.grownBy (wr.setCell ⟨bx, 0, none⟩ v') (some bx) := ⟨rfl, rfl, rfl, by simp [World.setCell], fun k _ hk => heap_setCell_other _ _ _ _ (fun e => hk (by simp [e]))⟩
  have hg := (Array.getElem?_eq_some_iff.1 h6.blk).1
  refine ⟨u, Rl.grown hset hg hC.gx ⟨_, h3, rfl⟩, Nat.le_trans h1 hset.size, (hset.block _ (Array.getElem?_eq_some_iff.1 h2).1 (by simp; exact hC.lx)).trans h2, ⟨v', (heap_setCell_same _ _ _ _ _ _ h3).trans rfl, hb.grown hset (.inr (fun e => (ho bx e).2.2.2 rfl)), ho⟩, ⟨(hset.block _ hg (by simp; exact hC.gx)).trans h6.blk, h6.row.kept hset (fun j hj e => h7 bx hC.mx (by rw [hj, e])), h6.ne⟩, h7⟩
theorem EM.lns {T : List Nat} {g bl bx : Nat} {bs : List (BitVec 8)} {B k : Nat} {wr w w2 : World} {u u' : Value} {d d2 : Ln} (hC : EC T g bl bx B) (h : EM T g bl bx bs B k wr u d w) (hs : LnS w w2 g u u' d2) : EM T g bl bx bs B k wr u' d2 w2 := by
  obtain ⟨h1, h2, h3, ⟨v, h4, h5, h6⟩, h7, h8⟩ := h
  refine ⟨h1.trans (Rl.lns h7 hs), Nat.le_trans h2 hs.grow.size, (hs.grow.block _ (Array.getElem?_eq_some_iff.1 h3).1 (fun e => hC.gl e.symm) (fun e => h8 bl hC.ml e.symm)).trans h3, ⟨v, (hs.grow.block _ (Array.getElem?_eq_some_iff.1 h4).1 (fun e => hC.gx e.symm) (fun e => h8 bx hC.mx e.symm)).trans h4, h5.mono (fun b o x hc hb => ?_), h6⟩, hs.q, fun j hj e => ?_⟩
  · have q := h6 b hb.symm
    exact (World.cell?_of_block (hs.grow.block b (World.block_lt_of_cell? w _ hc) q.2.1 (fun e => h8 b q.1 e.symm))).trans hc
  · rcases hs.own j e with q | q
    · exact h8 j hj q
    · have := hC.lt j hj; omega
theorem EM.below {T : List Nat} {g bl bx : Nat} {bs : List (BitVec 8)} {B k : Nat} {wr w w2 : World} {u : Value} {d : Ln} (hC : EC T g bl bx B) (h : EM T g bl bx bs B k wr u d w) (hb : Below w.heap.size w w2) : EM T g bl bx bs B k wr u d w2 := h.lns hC ((LnS.refl h.ln).below hb)
theorem EM.fin {T : List Nat} {g bl bx : Nat} {bs : List (BitVec 8)} {B k : Nat} {wr w : World} {u : Value} {d e : Ln} (hk : k < bs.length) (h : EM T g bl bx bs B k wr u e w) (he : e = (stepL (feedL d (bs.take k)).1 bs[k]).1) {J : List Fv → World → Prop} (hx : ∃ xs, xs.map Fv.fr = (feedL d (bs.take k)).2 ++ (stepL (feedL d (bs.take k)).1 bs[k]).2.toList ∧ J xs w) : EI T g bl bx d bs B J (k + 1) w := by
  have hf := feedL_take d bs k hk
  obtain ⟨h1, h2, h3, h4, h7, h8⟩ := h
  refine ⟨h2, h3, h4, ⟨u, by rw [hf]; rw [← he]; exact h7, h8⟩, ?_⟩
  rw [hf]
  exact hx
end Go.Proofs.Ytedhldcoddbbdaa.F
