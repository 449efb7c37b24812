import Derived.WalkKit
import Derived.OwnWalk
import Derived.Deep.AppendSrc
import Derived.Laws.BytesArg
import Derived.Laws.MakeOwn
import Derived.Laws.OwnMore
import Derived.StillTailTactics
import Derived.Deep.WholeRow
/- Laws of rows that a walk takes at an append, a make, a conversion: one form each, over any program. -/
set_option linter.unusedVariables false
set_option linter.unusedSimpArgs false
namespace Go.Proofs.Ytedhldcoddbbdaa.K
open Go.RowKit

theorem add_mid (b o j : Nat) : (⟨b, o, none⟩ : Addr).add j = ⟨b, o + j, none⟩ := by unfold Addr.add; split <;> simp_all

/-- A region that draws, whose first n operations only read and whose others come in one order behind them. -/
theorem region_tail {P : Program} {id : Nat} {Q : Exit → Act → World → Prop} {a : Act} {w : World} {l : List Oper} (n : Nat) (hm : P.follows .mixedOrders = true) (hB : Region.lexTailB .any l.toArray n = true)
    (h : wpStill P l.toArray w.drew (fun a' => wpList P l.toArray Q (l.drop n) a' w.drew) (l.take n) a) : (Code.region id l.toArray true).wp P Q a w :=
  wp_region_still_tail n hm hB h

/-- A slice type and its element type. -/
structure ElemT (P : Program) (t e : TypeId) (size bytes : Nat) (z : Value) : Prop where
  ht : P.underlying t = some (.slice e)
  hi : ∃ i, P.info? e = some i ∧ i.zero = some z ∧ i.size = size ∧ i.bytes = bytes
  hz : z.cells.size = size
  pos : 0 < size

theorem elemT_of {P : Program} {t e : TypeId} {size bytes : Nat} {z : Value} (ht : P.underlying t = some (.slice e)) (h : (P.info? e).map (fun i => (i.zero, i.size, i.bytes)) = some (some z, size, bytes)) (hz : z.cells.size = size) (pos : 0 < size) : ElemT P t e size bytes z := by
  obtain ⟨i, h0, h1, h2, h3⟩ := info_parts h
  exact ⟨ht, ⟨i, h0, h1, h2, h3⟩, hz, pos⟩

/-- What an append's second argument yields. -/
structure SrcR (w : World) (size : Nat) (x : Value) (m : Nat) (news : List Value) : Prop where
  len : news.length = m * size
  one : ∀ u ∈ news, u.oneCell' = true
  at_ : ∃ A c, x = .slice A m c ∧ (A = none → m = 0) ∧ (∀ ad, A = some ad → ∀ j u, news[j]? = some u → w.cell? (ad.add j) = some u)

theorem run_app {P : Program} (w : World) {t e : TypeId} {size bytes : Nat} {z : Value} (E : ElemT P t e size bytes z) (base : Nat) (ty : TypeId) (v : Value) (n : Nat) (xs : List Value)
    (hown : w.ownsRow base e size v n xs) (x : Value) (m : Nat) (news : List Value) (hs : SrcR w size x m news)
    (h63 : n + m ≤ maxLen) (hbytes : (n + m) * bytes ≤ 140737488355328) (hbase : base ≤ w.heap.size) :
    ∃ v' w', (Builtin.append_ #[t, t] ty #[v, x]).run P w = .ok v' w' ∧ w'.ownsRow base e size v' (n + m) (xs ++ news) ∧ w.grownBy w' v.ownBlock ∧
      (v' = .slice none 0 0 ↔ v = .slice none 0 0 ∧ m = 0) := by
  obtain ⟨i, hi, hz, hsz, hby⟩ := E.hi
  obtain ⟨A, c, rfl, hnil, hcell⟩ := hs.at_
  cases A with
  | some ad => exact run_append_own w base t ty e i z size bytes E.ht hi hz hsz hby E.hz E.pos v n xs hown ad m c news hs.len (hcell ad rfl) hs.one h63 hbytes hbase
  | none =>
    obtain rfl := hnil rfl
    have hn : news = [] := List.eq_nil_of_length_eq_zero (by simpa using hs.len)
    subst hn
    simp only [Nat.add_zero, List.append_nil, and_true]
    rcases hown.2 with ⟨rfl, rfl⟩ | ⟨g, cap, cur, rfl, hb, hg, hnc, hcm, hcs, htake⟩
    · refine ⟨.slice none 0 0, w, ?_, hown, ⟨rfl, rfl, rfl, Nat.le_refl _, fun _ _ _ => rfl⟩, Iff.rfl⟩
      simp [Builtin.append_, run_underlying E.ht, sizeOf, typeInfo, hi, Builtin.lenOf, Builtin.firstCells]
    · have hr := run_append_room_src (P := P) w t t ty e i E.ht hi g 0 n cap _ 0 [] (Src.ofNil w (size := i.size) E.ht c) (by omega) (fun j hj => absurd hj (by simp)) (fun j hj => absurd hj (by simp))
      exact ⟨_, _, hr, hown, ⟨rfl, rfl, rfl, Nat.le_refl _, fun _ _ _ => rfl⟩, Iff.rfl⟩

/-- 'append', at the walk. -/
theorem wpList_app {P : Program} {w : World} {ops : Array Oper} {rest : List Oper} {o : Oper} {a : Act} {Q : Exit → Act → World → Prop} {t e : TypeId} {size bytes : Nat} {z : Value} (E : ElemT P t e size bytes z)
    (hgd : o.guard = none) (s x : Operand) (ho : o.op = .call { callee := .builtin .append, args := #[s, x], argTypes := #[t, t] })
    (base : Nat) (v : Value) (n : Nat) (xs : List Value) (hs : a.eval s = v) (hown : w.ownsRow base e size v n xs)
    (xv : Value) (m : Nat) (news : List Value) (hx : a.eval x = xv) (hsrc : SrcR w size xv m news)
    (h63 : n + m ≤ maxLen) (hbytes : (n + m) * bytes ≤ 140737488355328) (hbase : base ≤ w.heap.size)
    (h : ∀ v' w', w'.ownsRow base e size v' (n + m) (xs ++ news) → w.grownBy w' v.ownBlock → (v' = .slice none 0 0 ↔ v = .slice none 0 0 ∧ m = 0) → wpList P ops Q rest (a.put o.dst v') w') : wpList P ops Q (o :: rest) a w := by
  refine wpList_plain hgd fun K hK => ?_
  obtain ⟨v', w', hr, h2, h3, h4⟩ := run_app (P := P) w E base o.type v n xs hown xv m news hsrc h63 hbytes hbase
  unfold Oper.wp execOp
  simp only [ho, resolve, invoke, builtin, Sem.run_bind, Sem.run_pure, Result.andThen_ok, List.map_toArray, List.map_cons, List.map_nil, hs, hx, hr]
  exact hK _ _ (h v' w' h2 h3 h4)

/-- 'append', as a step of a region that draws. -/
theorem step_app {P : Program} {w : World} {ops : Array Oper} {o : Oper} {a : Act} {K : Act → World → Prop} {Q : Exit → Act → World → Prop} {F : Prop} {t e : TypeId} {size bytes : Nat} {z : Value} (E : ElemT P t e size bytes z)
    (hgd : o.guard = none) (s x : Operand) (ho : o.op = .call { callee := .builtin .append, args := #[s, x], argTypes := #[t, t] })
    (base : Nat) (v : Value) (n : Nat) (xs : List Value) (hs : a.eval s = v) (hown : w.ownsRow base e size v n xs)
    (xv : Value) (m : Nat) (news : List Value) (hx : a.eval x = xv) (hsrc : SrcR w size xv m news)
    (h63 : n + m ≤ maxLen) (hbytes : (n + m) * bytes ≤ 140737488355328) (hbase : base ≤ w.heap.size)
    (h : ∀ v' w', w'.ownsRow base e size v' (n + m) (xs ++ news) → w.grownBy w' v.ownBlock → (v' = .slice none 0 0 ↔ v = .slice none 0 0 ∧ m = 0) → K (a.put o.dst v') w') :
    if Region.wanted o (yielded ops a.tmps) = true then Oper.wp P o a w K Q else F := by
  have hw : Region.wanted o (yielded ops a.tmps) = true := by simp [Region.wanted, hgd]
  rw [if_pos hw]
  obtain ⟨v', w', hr, h2, h3, h4⟩ := run_app (P := P) w E base o.type v n xs hown xv m news hsrc h63 hbytes hbase
  unfold Oper.wp execOp
  simp only [ho, resolve, invoke, builtin, Sem.run_bind, Sem.run_pure, Result.andThen_ok, List.map_toArray, List.map_cons, List.map_nil, hs, hx, hr]
  exact h v' w' h2 h3 h4
theorem src_drew {w : World} {size m : Nat} {x : Value} {news : List Value} (h : SrcR w size x m news) : SrcR w.drew size x m news := ⟨h.len, h.one, h.at_⟩
theorem own_drew {w : World} {base : Nat} {e : TypeId} {size n : Nat} {v : Value} {xs : List Value} (h : w.ownsRow base e size v n xs) : w.drew.ownsRow base e size v n xs := h

/-- Any operation by its run. -/
theorem wpList_run {P : Program} {w w' : World} {ops : Array Oper} {rest : List Oper} {o : Oper} {a : Act} {Q : Exit → Act → World → Prop} (hgd : o.guard = none) (v : Value)
    (hr : (execOp a.eval o).run P w = .ok (.value v) w') (h : wpList P ops Q rest (a.put o.dst v) w') : wpList P ops Q (o :: rest) a w :=
  wpList_plain hgd fun K hK => by
    unfold Oper.wp
    rw [hr]
    exact hK _ _ h

/-! ### bytes -/
def v8 (x : BitVec 8) : Int := (x.toNat : Int)
def b8 (x : BitVec 8) : Value := .int .u8 (v8 x)
theorem v8_range (x : BitVec 8) : 0 ≤ v8 x ∧ v8 x ≤ 255 := by unfold v8; have := x.isLt; omega
/-- A slice of bytes reads as a list. -/
structure BytesAt (w : World) (v : Value) (l : List (BitVec 8)) : Prop where
  at_ : ∃ A cap, v = .slice A l.length cap ∧ l.length ≤ cap ∧ cap ≤ maxLen ∧ (A = none → l = []) ∧
    ∀ ad, A = some ad → ∀ j (h : j < l.length), ∃ b o, ad = ⟨b, o, none⟩ ∧ w.cell? ⟨b, o + j, none⟩ = some (b8 l[j])

theorem BytesAt.nil (w : World) : BytesAt w (.slice none 0 0) [] := ⟨none, 0, rfl, by simp, by decide, fun _ => rfl, fun _ h => by cases h⟩
theorem BytesAt.mono {w w' : World} {v : Value} {l : List (BitVec 8)} (h : BytesAt w v l) (hc : ∀ b o u, w.cell? ⟨b, o, none⟩ = some u → some b = v.ownBlock → w'.cell? ⟨b, o, none⟩ = some u) : BytesAt w' v l := by
  obtain ⟨A, cap, rfl, h1, h2, h3, h4⟩ := h
  refine ⟨A, cap, rfl, h1, h2, h3, fun ad e j hj => ?_⟩
  obtain ⟨b, o, rfl, hcell⟩ := h4 ad e j hj
  subst e
  exact ⟨b, o, rfl, hc _ _ _ hcell rfl⟩
theorem BytesAt.below {w w' : World} {v : Value} {l : List (BitVec 8)} (h : BytesAt w v l) (hb : Below w.heap.size w w') : BytesAt w' v l :=
  h.mono fun _ _ _ hc _ => (hb.cell (World.block_lt_of_cell? w _ hc)).trans hc
theorem BytesAt.grown {w w' : World} {v : Value} {l : List (BitVec 8)} (h : BytesAt w v l) {row : Option Nat} (hg : w.grownBy w' row) (hne : v.ownBlock = none ∨ v.ownBlock ≠ row) : BytesAt w' v l :=
  h.mono fun b o u hc hb => hg.cell hc (by
    rcases hne with hne | hne
    · rw [hne] at hb; cases hb
    · rw [← hb] at hne; exact hne)
theorem BytesAt.src {w : World} {v : Value} {l : List (BitVec 8)} (h : BytesAt w v l) : SrcR w 1 v l.length (l.map b8) := by
  obtain ⟨A, cap, rfl, h1, h2, h3, h4⟩ := h
  refine ⟨by simp, fun u hu => ?_, A, cap, rfl, fun e => by simp [h3 e], fun ad e j u hj => ?_⟩
  · obtain ⟨x, _, rfl⟩ := List.mem_map.1 hu; rfl
  · have hj' : j < l.length := by have := (List.getElem?_eq_some_iff.1 hj).1; simpa using this
    obtain ⟨b, o, rfl, hc⟩ := h4 ad e j hj'
    rw [show (⟨b, o, none⟩ : Addr).add j = ⟨b, o + j, none⟩ from add_mid b o j, hc]
    simp [List.getElem?_eq_getElem hj'] at hj
    rw [← hj]
theorem BytesAt.cut {w : World} {A : Option Addr} {cap : Nat} {l : List (BitVec 8)} (h : BytesAt w (.slice A l.length cap) l) (n : Nat) (hn : n ≤ l.length) : BytesAt w (.slice A n cap) (l.take n) := by
  obtain ⟨A', cap', e, h1, h2, h3, h4⟩ := h
  cases e
  refine ⟨A, cap, by rw [List.length_take, Nat.min_eq_left hn], by simp; omega, h2, fun e => by rw [h3 e]; simp, fun ad e j hj => ?_⟩
  have hj' : j < l.length := by simp at hj; omega
  obtain ⟨b, o, e', hc⟩ := h4 ad e j hj'
  exact ⟨b, o, e', by simpa using hc⟩
theorem bytes_of_own {w : World} {base : Nat} {e : TypeId} {v : Value} {l : List (BitVec 8)} (h : w.ownsRow base e 1 v l.length (l.map b8)) : BytesAt w v l := by
  rcases h.2 with ⟨rfl, h0⟩ | ⟨g, cap, cur, rfl, hb, hg, hnc, hcm, hcs, htake⟩
  · obtain rfl := List.eq_nil_of_length_eq_zero h0
    exact .nil w
  · refine ⟨_, cap, rfl, hnc, hcm, fun e => by (cases e), fun ad e j hj => ?_⟩
    cases e
    refine ⟨g, 0, rfl, ?_⟩
    have := h.cells (g := g) rfl j (b8 l[j]) (by simp [List.getElem?_eq_getElem hj])
    rwa [show (⟨g, 0, none⟩ : Addr).add j = ⟨g, 0 + j, none⟩ from add_mid g 0 j] at this
theorem own_weak {w : World} {base base' : Nat} {e : TypeId} {size n : Nat} {v : Value} {xs : List Value} (h : w.ownsRow base e size v n xs) (hb : base' ≤ base) : w.ownsRow base' e size v n xs :=
  ⟨h.1, h.2.imp id fun ⟨g, cap, cur, h1, h2, h3⟩ => ⟨g, cap, cur, h1, Nat.le_trans hb h2, h3⟩⟩
theorem own_below {w w' : World} {base : Nat} {e : TypeId} {size n : Nat} {v : Value} {xs : List Value} (h : w.ownsRow base e size v n xs) (hb : Below w.heap.size w w') : w'.ownsRow base e size v n xs :=
  h.kept (row := none) ⟨hb.os, hb.tape, hb.output, hb.size, fun i hi _ => hb.block i hi⟩ (by cases v.ownBlock <;> simp)
theorem below_then {w w1 w2 : World} (h : Below w.heap.size w w1) (h2 : Below w1.heap.size w1 w2) : Below w.heap.size w w2 := h.trans (h2.mono h.size)
/-- its string -/
def str (l : List (BitVec 8)) : ByteArray := ⟨(l.map fun b => UInt8.ofBitVec b).toArray⟩
theorem str_inj {l m : List (BitVec 8)} : str l = str m ↔ l = m := by
  constructor
  · intro h
    have h1 : (str l).data.toList = (str m).data.toList := by rw [h]
    simp only [str] at h1
    exact List.map_inj_right (f := fun b : BitVec 8 => UInt8.ofBitVec b) (fun x y hxy => by simpa using congrArg UInt8.toBitVec hxy) |>.1 h1
  · rintro rfl; rfl
theorem str_beq (l m : List (BitVec 8)) : ((str l).toList == (str m).toList) = decide (l = m) := by
  rw [ByteArray.toList_eq, ByteArray.toList_eq]
  by_cases h : l = m
  · subst h; simp
  · have : ¬ (str l).data = (str m).data := fun e => h (str_inj.1 (by
      show (⟨(str l).data⟩ : ByteArray) = ⟨(str m).data⟩
      rw [e]))
    simp [h, this]
theorem src_one (w : World) (u : Value) (e : TypeId) (h : u.oneCell' = true) : SrcR (w.alloc (.cells #[u] e)) 1 (.slice (some ⟨w.heap.size, 0, none⟩) 1 1) 1 [u] :=
  ⟨rfl, fun x hx => by simp at hx; subst hx; exact h, _, _, rfl, fun e => by (cases e), fun ad e' j x hj => by
    cases e'
    have hlt := (List.getElem?_eq_some_iff.1 hj).1
    have : j = 0 := by simp at hlt; omega
    subst this
    simp at hj
    rw [add_mid]; simp [hj]⟩
theorem BytesAt.string {P : Program} {w : World} {v : Value} {l : List (BitVec 8)} (h : BytesAt w v l) {src e dst : TypeId} (hs : P.underlying src = some (.slice e)) (he : P.underlying e = some (.int .u8)) (hd : P.underlying dst = some .string) :
    (convert src dst v).run P w = .ok (.string (str l)) w := by
  obtain ⟨A, cap, rfl, h1, h2, h3, h4⟩ := h
  cases A with
  | none =>
    obtain rfl := h3 rfl
    exact run_convert_bytes_nil w src e hs he _ cap dst hd
  | some ad =>
    cases l with
    | nil =>
      rw [run_convert_bytes_string w src dst e _ _ cap hs he hd]
      simp [Conv.bytesToString, str, loadCells, loadCellsFrom]
      rfl
    | cons x l =>
      obtain ⟨b, o, rfl, _⟩ := h4 ad rfl 0 (by simp)
      have hc := run_convert_bytes_back (P := P) w src dst e ⟨b, o, none⟩ cap ((x :: l).map fun b => UInt8.ofBitVec b) hs he hd (fun j hj => by
        have hj' : j < (x :: l).length := by simpa using hj
        obtain ⟨b', o', e', hc⟩ := h4 _ rfl j hj'
        cases e'
        rw [show (⟨b, o, none⟩ : Addr).add j = ⟨b, o + j, none⟩ from add_mid b o j, hc]
        simp only [b8, v8, List.getElem_map]
        rfl)
      simpa [str] using hc
end Go.Proofs.Ytedhldcoddbbdaa.K
